/-
  Contracts: drawn texts (of, mutate, DrawDecodeExpr).
-/
import Derived.Test.YtmhlpjfijpomkaaGreatDoorProg
import Derived.Test.YtmhlpjfijpomkaaGreatDoorDeE
import Derived.Test.YtmhlpjfijpomkaaGreatDoorEnF
namespace Go.Proofs.YtmhlpjfijpomkaaGreatDoor
open Go.RowKit Go.Qo
set_option linter.unusedVariables false
set_option linter.unusedSimpArgs false

set_option maxHeartbeats 1000000 in
theorem of_ok (b p lb c : Nat) (ss : List ByteArray) (w : World) (h : Rd w b p) (hp : p ≤ 1099511627776) (hn : 0 < ss.length) (hn2 : ss.length ≤ 1048576) (hr : Row w lb 9 (ss.map Value.string)) (hne : lb ≠ b) :
    Calls Tryz.prog 78 #[.pointer (some ⟨b, 0, none⟩), .slice (some ⟨lb, 0, none⟩) ss.length c] w fun e w' => ∃ S : ByteArray, e = .returned (.string S) ∧ S ∈ ss ∧ But b w w' ∧ w.heap.size = w'.heap.size ∧ Rd w' b (p + 1) := by
  have HP := Lib.hid (pick_ok b p ss.length w h hp)
  have HS := Lib.hid hr
  clear hr
  go_enter Tryz.func78, Tryz.ntmps78
  go_wp2_with fail
  refine HP.out.mono ?_
  rintro e w1 ⟨r, rfl, hr, hb1, hsz, hR⟩
  have h0 := hr.1
  have h1 := hr.2.1 (by omega)
  obtain ⟨k, rfl⟩ := Int.eq_ofNat_of_zero_le h0
  have hk : k < ss.length := by omega
  have hrow := HS.out.only hb1 hne
  have d1 : w1.cell? ⟨lb, k, none⟩ = some (.string ss[k]) := by
    rw [hrow.cell k, List.getElem?_map, List.getElem?_eq_getElem hk]
    rfl
  have hm := List.getElem_mem hk
  generalize ss[k] = x at *
  have HB := Lib.hid (And.intro hb1 (And.intro hsz hR))
  clear hb1 hsz hR hr hrow
  go_wp2
  go_ret
  exact ⟨x, rfl, hm, HB.out.1, HB.out.2.1, HB.out.2.2⟩

/-- A text is handed back that is no longer than so much; the reader alone has changed. -/
def GotS (b p n : Nat) (w : World) (e : Ending) (w' : World) : Prop := ∃ R : ByteArray, e = .returned (.string R) ∧ R.size ≤ n ∧ But b w w' ∧ Rd w' b p

set_option maxRecDepth 20000 in
set_option maxHeartbeats 4000000 in
theorem mutate_ok (b p : Nat) (S : ByteArray) (w : World) (h : Rd w b p) (hp : p ≤ 1000000) (hS : S.size ≤ 10000000) :
    Calls Tryz.prog 42 #[.pointer (some ⟨b, 0, none⟩), .string S] w (GotS b (p + 3) (S.size + 4) w) := by
  have HP := Lib.hid (pick_ok b p ((S.size : Int) + 1) w h (by omega))
  have hw1 : IntKind.i64.wrap ((S.size : Int) + 1) = (S.size : Int) + 1 := IntWalk.i64_in _ (by omega)
  have hbl := h.lt
  clear h
  go_enter Tryz.func42, Tryz.ntmps42
  go_wp2_with fail
  refine HP.out.mono ?_
  rintro e w1 ⟨r, rfl, hr, hb1, hsz1, hR1⟩
  have h0 := hr.1
  have h1 := hr.2.1 (by omega)
  obtain ⟨k, rfl⟩ := Int.eq_ofNat_of_zero_le h0
  have hk : k ≤ S.size := by omega
  have HP2 := Lib.hid (pick_ok b (p + 1) 5 w1 hR1 (by omega))
  have HB1 := Lib.hid (And.intro hb1 hsz1)
  clear hb1 hsz1 hR1 hr h0 h1
  go_wp2_with fail
  refine HP2.out.mono ?_
  rintro e w2 ⟨r2, rfl, hr2, hb2, hsz2, hR2⟩
  have h0 := hr2.1
  have h5 := hr2.2.1 (by omega)
  have HB2 := Lib.hid (And.intro (HB1.out.1.trans hb2) hR2)
  have hbl2 := hR2.lt
  clear hb2 hsz2 hR2 hr2
  have hcs : r2 = 0 ∨ r2 = 1 ∨ r2 = 2 ∨ (r2 ≠ 0 ∧ r2 ≠ 1 ∧ r2 ≠ 2) := by omega
  rcases hcs with rfl | rfl | rfl | ⟨g0, g1, g2⟩
  · by_cases hlt : k < S.size
    · have hw2 : IntKind.i64.wrap ((k : Int) + 1) = (k : Int) + 1 := IntWalk.i64_in _ (by omega)
      have hk1 : k + 1 ≤ S.size := by omega
      have hltI : (k : Int) < (S.size : Int) := by omega
      have hkl : k ≤ S.size := by omega
      have hki : (k : Int) + 1 ≤ (S.size : Int) := by omega
      have hk0 : (0 : Int) ≤ (k : Int) + 1 := by omega
      obtain ⟨W3, hW3⟩ : ∃ z, (w2.alloc (.cells #[.string ⟨#[48]⟩, .string ⟨#[49]⟩, .string ⟨#[32]⟩, .string ⟨#[45]⟩, .string ⟨#[40]⟩, .string ⟨#[41]⟩, .string ⟨#[35]⟩, .string ⟨#[57]⟩] 9)).drew = z := ⟨_, rfl⟩
      have b3 : Below w2.heap.size w2 W3 := by rw [← hW3]; exact (balloc (Below.refl _ _) _).drew
      have r3 : Row W3 w2.heap.size 9 ([⟨#[48]⟩, ⟨#[49]⟩, ⟨#[32]⟩, ⟨#[45]⟩, ⟨#[40]⟩, ⟨#[41]⟩, ⟨#[35]⟩, ⟨#[57]⟩].map Value.string) := by rw [← hW3]; exact (Row.new w2 _ _).drew
      have HO := Lib.hid (of_ok b (p + 2) w2.heap.size 8 [⟨#[48]⟩, ⟨#[49]⟩, ⟨#[32]⟩, ⟨#[45]⟩, ⟨#[40]⟩, ⟨#[41]⟩, ⟨#[35]⟩, ⟨#[57]⟩] W3 (HB2.out.2.on b3) (by omega) (by simp) (by simp) r3 (by omega))
      have HB3 := Lib.hid (HB2.out.1.below b3)
      have HW3 := Lib.hid hW3
      obtain ⟨X1, hX1⟩ : ∃ X, S.extract 0 k = X := ⟨_, rfl⟩
      obtain ⟨X2, hX2⟩ : ∃ X, S.extract (k + 1) S.size = X := ⟨_, rfl⟩
      have hs1 : X1.size ≤ k := by rw [← hX1, ByteArray.size_extract]; omega
      have hs2 : X2.size ≤ S.size - (k + 1) := by rw [← hX2, ByteArray.size_extract]; omega
      have HX := Lib.hid (And.intro hs1 hs2)
      clear hW3 b3 r3 hs1 hs2
      go_wp2
      go_region_law (go_simp; (try rw [HW3.out]); go_at_call 78; refine HO.out.mono ?_; rintro e w4 ⟨T, rfl, hT, hb4, _, hR4⟩; have hT2 : T.size ≤ 4 := (show ∀ x ∈ ([⟨#[48]⟩, ⟨#[49]⟩, ⟨#[32]⟩, ⟨#[45]⟩, ⟨#[40]⟩, ⟨#[41]⟩, ⟨#[35]⟩, ⟨#[57]⟩] : List ByteArray), x.size ≤ 4 by decide) T hT; have HB4 := Lib.hid (And.intro (HB3.out.trans hb4) hR4); have hq1 : ¬ 9223372036854775807 < X1.size + T.size := (by have := HX.out; omega); have hq2 : ¬ 9223372036854775807 < X1.size + T.size + X2.size := (by have := HX.out; omega); have hq3 : ¬ 9223372036854775807 < (X1 ++ T).size + X2.size := (by rw [ByteArray.size_append]; have := HX.out; omega); clear hT hb4 hR4)
      all_goals
        go_wp2
        go_ret
        exact ⟨_, rfl, by have := HX.out; simp [ByteArray.size_append]; omega, HB4.out.1, HB4.out.2.mono (by omega)⟩
    · have hge : ¬ (k : Int) < (S.size : Int) := by omega
      have hgd : decide (k < S.size) = false := decide_eq_false hlt
      go_wp2
      go_ret
      exact ⟨S, rfl, by omega, HB2.out.1, HB2.out.2.mono (by omega)⟩
  · go_wp2
    go_ret
    refine ⟨_, rfl, ?_, HB2.out.1, HB2.out.2.mono (by omega)⟩
    simp [ByteArray.size_extract]
    omega
  · obtain ⟨W3, hW3⟩ : ∃ z, w2.alloc (.cells #[.string ⟨#[48]⟩, .string ⟨#[32]⟩, .string ⟨#[41]⟩, .string ⟨#[32, 49]⟩, .string ⟨#[120]⟩, .string ⟨#[35, 48]⟩] 9) = z := ⟨_, rfl⟩
    have b3 : Below w2.heap.size w2 W3 := by rw [← hW3]; exact balloc (Below.refl _ _) _
    have r3 : Row W3 w2.heap.size 9 ([⟨#[48]⟩, ⟨#[32]⟩, ⟨#[41]⟩, ⟨#[32, 49]⟩, ⟨#[120]⟩, ⟨#[35, 48]⟩].map Value.string) := by rw [← hW3]; exact Row.new _ _ _
    have HO := Lib.hid (of_ok b (p + 2) w2.heap.size 6 [⟨#[48]⟩, ⟨#[32]⟩, ⟨#[41]⟩, ⟨#[32, 49]⟩, ⟨#[120]⟩, ⟨#[35, 48]⟩] W3 (HB2.out.2.on b3) (by omega) (by simp) (by simp) r3 (by omega))
    have HB3 := Lib.hid (HB2.out.1.below b3)
    have HW3 := Lib.hid hW3
    clear hW3 b3 r3
    go_wp2_with fail
    rw [HW3.out]
    refine HO.out.mono ?_
    rintro e w4 ⟨T, rfl, hT, hb4, _, hR4⟩
    have hT2 : T.size ≤ 4 := (show ∀ x ∈ ([⟨#[48]⟩, ⟨#[32]⟩, ⟨#[41]⟩, ⟨#[32, 49]⟩, ⟨#[120]⟩, ⟨#[35, 48]⟩] : List ByteArray), x.size ≤ 4 by decide) T hT
    have HB4 := Lib.hid (And.intro (HB3.out.trans hb4) hR4)
    clear hT hb4 hR4
    go_wp2
    go_ret
    exact ⟨_, rfl, by simp [ByteArray.size_append]; omega, HB4.out.1, HB4.out.2.mono (by omega)⟩
  · have e0 : (r2 == 0) = false := by rw [beq_eq_false_iff_ne]; exact g0
    have e1 : (r2 == 1) = false := by rw [beq_eq_false_iff_ne]; exact g1
    have e2 : (r2 == 2) = false := by rw [beq_eq_false_iff_ne]; exact g2
    clear g0 g1 g2
    go_wp2
    go_ret
    exact ⟨S, rfl, by omega, HB2.out.1, HB2.out.2.mono (by omega)⟩

/-- A drawn text. -/
def DrawnS (n : Nat) (w : World) (e : Ending) (w' : World) : Prop := ∃ R : ByteArray, e = .returned (.string R) ∧ R.size ≤ n ∧ Below w.heap.size w w'

set_option maxRecDepth 20000 in
set_option maxHeartbeats 1000000 in
theorem drawDecodeExpr_ok (A : Option Addr) (c : Nat) (xs : List Int) (w : World) (hn : xs.length ≤ c) (hc : c ≤ maxLen) (hg : ∀ x ∈ xs, 0 ≤ x ∧ x ≤ 255) (hs : Sl 1 byteC w w.heap.size A xs) :
    Calls Tryz.prog 14 #[.slice A xs.length c] w (DrawnS 10000 w) := by
  have HN := Lib.hid (newReader_ok A c xs w hn hc hg hs)
  obtain ⟨b, hb⟩ : ∃ b, w.heap.size = b := ⟨_, rfl⟩
  rw [hb] at HN
  have Hb := Lib.hid hb
  clear hs hn hc hg hb
  go_enter Tryz.func14, Tryz.ntmps14
  go_wp2_with fail
  refine HN.out.mono ?_
  rintro e w2 ⟨rfl, hb2, hR2⟩
  rw [← Hb.out] at hb2
  have HA := Lib.hid (anyExpr_ok b 0 3 w2 hR2 (by omega))
  have HB2 := Lib.hid hb2
  clear hb2 hR2
  go_wp2_with fail
  refine HA.out.mono ?_
  rintro e w3 ⟨f, x, rfl, hx, hb3, hR3⟩
  have HB3 := Lib.hid (Only.from_ HB2.out rfl hb3 (fun i hi => by have := Hb.out; omega))
  have HR3 := Lib.hid hR3
  obtain ⟨S, hS, hSs⟩ : ∃ S : ByteArray, (Calls Tryz.prog 39 #[feV f] w3 fun e w' => e = .returned (.string S) ∧ Below w3.heap.size w3 w') ∧ S.size ≤ 5000 := by
    by_cases ho : ExOk 6 8 x
    · exact ⟨bArr (exText x), specEncodeExpr_ok x f w3 (exText x) hx.in_ (fun _ => rfl) (fun h => absurd ho h), by have := exText_len (by decide) 8 x ho; show (exText x).length ≤ _; omega⟩
    · exact ⟨bArr [], specEncodeExpr_ok x f w3 [] hx.in_ (fun h => absurd h ho) (fun _ => rfl), by decide⟩
  have HS := Lib.hid hS
  unfold feV at HS ⊢
  clear hx hb3 hR3 hS
  go_wp2_with fail
  refine HS.out.mono ?_
  rintro e w4 ⟨rfl, hb4⟩
  have HB4 := Lib.hid (bch HB3.out hb4)
  have HP := Lib.hid (pick_ok b _ 2 w4 (HR3.out.on hb4) (by omega))
  clear hb4
  go_wp2_with fail
  refine HP.out.mono ?_
  rintro e w5 ⟨r, rfl, hr, hb5, _, hR5⟩
  have HB5 := Lib.hid (Only.from_ HB4.out rfl hb5 (fun i hi => by have := Hb.out; omega))
  have HM := Lib.hid (mutate_ok b _ S w5 hR5 (by omega) (by omega))
  clear hr hb5 hR5
  by_cases h0 : r = 0
  · subst h0
    go_wp2
    go_ret
    exact ⟨S, rfl, by omega, HB5.out⟩
  · have e0 : (r == 0) = false := by rw [beq_eq_false_iff_ne]; exact h0
    clear h0
    go_wp2_with fail
    refine HM.out.mono ?_
    rintro e w6 ⟨R, rfl, hR, hb6, _⟩
    have HB6 := Lib.hid (Only.from_ HB5.out rfl hb6 (fun i hi => by have := Hb.out; omega))
    clear hb6
    go_wp2
    go_ret
    exact ⟨R, rfl, by omega, HB6.out⟩
end Go.Proofs.YtmhlpjfijpomkaaGreatDoor
