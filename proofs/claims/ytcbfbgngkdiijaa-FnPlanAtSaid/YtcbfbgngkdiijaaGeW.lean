/-
  Contract: randomWidths.
-/
import Derived.Test.YtcbfbgngkdiijaaProg
import Derived.Test.YtcbfbgngkdiijaaGeP
import Derived.Test.YtcbfbgngkdiijaaPln
namespace Go.Proofs.Ytcbfbgngkdiijaa
open Go.RowKit Go.Qo
set_option linter.unusedVariables false
set_option linter.unusedSimpArgs false

def GotWs (b p : Nat) (w : World) (e : Ending) (w' : World) : Prop := ∃ (v : Value) (ws : List Int), e = .returned v ∧ (2 ≤ ws.length ∧ ws.length ≤ 3) ∧ (∀ x ∈ ws, 1 ≤ x ∧ x ≤ 2) ∧ Ow w.heap.size 3 1 intC w' v ws ∧ But b w w' ∧ Rd w' b p
set_option maxRecDepth 20000 in
set_option maxHeartbeats 2000000 in
theorem randomWidths_ok (b p : Nat) (w : World) (hR : Rd w b p) (hp : p + 4 ≤ 1099511627776) :
    Calls Try.prog 27 #[.pointer (some ⟨b, 0, none⟩)] w (GotWs b (p + 4) w) := by
  have hlt := hR.lt
  obtain ⟨W1, hW1⟩ : ∃ z, w.alloc (.cells #[] 3) = z := ⟨_, rfl⟩
  have b1 : Below w.heap.size w W1 := by rw [← hW1]; exact balloc (Below.refl _ _) _
  have HO1 := Lib.hid (show Ow w.heap.size 3 1 intC W1 (.slice (some ⟨w.heap.size, 0, none⟩) 0 0) ([] : List Int) by rw [← hW1]; exact Ow.lit (xs := ([] : List Int)) rfl rfl (Nat.le_refl _) (by decide))
  have HR1 := Lib.hid (hR.on b1)
  have HB1 := Lib.hid (show But b w W1 from only_below b1)
  have HW1 := Lib.hid hW1
  clear hR hW1 b1
  go_enter Try.func27, Try.ntmps27
  go_upto_region 2 with fail
  rw [HW1.out]
  go_wp2_with fail
  refine (pick_ok b p 2 W1 HR1.out (by omega)).mono ?_
  rintro e w2 ⟨k2, rfl, hk2, hb2, hsz2, hR2⟩
  have HO2 := Lib.hid (HO1.out.only hb2 (fun i (hi : i = b) => .inl (by omega)))
  have HB2 := Lib.hid (HB1.out.trans hb2)
  have HR2 := Lib.hid hR2
  have hk20 := hk2.1
  have hk21 := hk2.2.1 (by omega)
  obtain ⟨m0, rfl⟩ := Int.eq_ofNat_of_zero_le hk20
  have hm02 : m0 < 2 := by omega
  have hmw : IntKind.i64.wrap (2 + (m0 : Int)) = 2 + (m0 : Int) := IntWalk.i64_in _ (by omega)
  clear hk2 hb2 hsz2 hR2 hk20 hk21
  go_wp2
  go_loopg [3, 4] (m0 + 2) (fun g v nv wr => ∃ (ws : List Int) (m : Nat), m = g ∧ nv = .int .i64 m ∧ ws.length + m ≤ 3 ∧ 2 ≤ ws.length + m ∧ (∀ x ∈ ws, 1 ≤ x ∧ x ≤ 2) ∧ Ow w.heap.size 3 1 intC wr v ws ∧ But b w wr ∧ Rd wr b (p + 1 + ws.length))
  case atStart => exact ⟨[], m0 + 2, rfl, by congr 1; omega, by simp; omega, by simp, by simp, HO2.out, HB2.out, by simpa using HR2.out⟩
  case round =>
    obtain ⟨ws, m, rfl, rfl, hml, hml2, hws, how, hb, hR⟩ := hrel
    have HO := Lib.hid how
    have HB := Lib.hid hb
    have HRd := Lib.hid hR
    have Hws := Lib.hid hws
    have hsz := hb.size
    clear how hb hR hws
    by_cases hm : 0 < m
    · have hmI : (0 : Int) < (m : Int) := by omega
      have hwl : ws.length ≤ 3 := by omega
      go_wp2_with fail
      refine (pick_ok b _ 2 wr HRd.out (by omega)).mono ?_
      rintro e w4 ⟨k4, rfl, hk4, hb4, hsz4, hR4⟩
      have hk40 := hk4.1
      have hk41 := hk4.2.1 (by omega)
      have HB4 := Lib.hid (HB.out.trans hb4)
      have HO4 := Lib.hid ((HO.out.only hb4 (fun i (hi : i = b) => .inl (by omega))).on (balloc (Below.refl _ _) (.cells #[.int .i64 (1 + k4)] 3)))
      have HR4 := Lib.hid (hR4.on (balloc (Below.refl _ _) (.cells #[.int .i64 (1 + k4)] 3)))
      have HS4 := Lib.hid (Row.sl' (w := w4.alloc (.cells #[.int .i64 (1 + k4)] 3)) (t := 3) (xs := [1 + k4]) intC_length ((Row.new w4 _ _).of rfl))
      have hsz5 : w.heap.size ≤ (w4.alloc (.cells #[.int .i64 (1 + k4)] 3)).heap.size := by have := HB4.out.size; simp; omega
      clear hk4 hb4 hsz4 hR4
      go_wp2_with (at_builtin; refine wpList_app rfl (.tmp 13) (.tmp 17) 24 rfl w.heap.size 3 _ 1 8 intC Try.underlying24 zeroIntG rfl (by decide) (by decide) intC_length intC_one _ ws rfl HO4.out (some ⟨w4.heap.size, 0, none⟩) 1 1 [1 + k4] rfl rfl HS4.out (by simp; omega) hsz5 ?_; intro v' w' hown hgr)
      obtain ⟨m, rfl⟩ : ∃ m', m = m' + 1 := ⟨m - 1, by omega⟩
      go_roundg m
      case measure => omega
      case rel =>
        refine ⟨ws ++ [1 + k4], m, rfl, by go_num, by simp; omega, by simp; omega, ?_, hown, ?_, ?_⟩
        · intro x hx
          rcases List.mem_append.1 hx with hx | hx
          · exact Hws.out x hx
          · simp at hx; omega
        · exact (HB4.out.alloc _).grown hgr fun k hk => .inr (HO4.out.ty k hk).1
        · exact (HR4.out.grown hgr fun k hk => by have := (HO4.out.ty k hk).1; omega).mono (by simp; omega)
    · have hmI : ¬ (0 : Int) < (m : Int) := by omega
      go_wp2
      go_ret
      exact ⟨_, ws, rfl, ⟨by omega, by omega⟩, Hws.out, HO.out, HB.out, HRd.out.mono (by omega)⟩
end Go.Proofs.Ytcbfbgngkdiijaa
