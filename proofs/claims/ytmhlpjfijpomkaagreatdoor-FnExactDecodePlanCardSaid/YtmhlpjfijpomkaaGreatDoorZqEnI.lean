/-
  Contracts: the program's text of an expression (exprName, EncodeValue, appendColumn, appendText, EncodeExpr).
-/
import Derived.Test.YtmhlpjfijpomkaaGreatDoorProg
import Derived.Test.YtmhlpjfijpomkaaGreatDoorZqEnF
import Derived.Test.YtmhlpjfijpomkaaGreatDoorZqBtx
import Derived.Test.YtmhlpjfijpomkaaGreatDoorLsq
import Derived.Test.YtmhlpjfijpomkaaGreatDoorZqVlI
namespace Go.Proofs.YtmhlpjfijpomkaaGreatDoor
open Go.RowKit Go.Qo
set_option linter.unusedVariables false
set_option linter.unusedSimpArgs false

/-- The table that strconv reads lies below B. -/
def T10 (B : Nat) (w : World) : Prop := Lib.TabBelow Tryz.prog B w "internal/strconv.uint64pow10" .u64 Lib.pow10Tab
theorem T10.on {B : Nat} {w w' : World} (h : T10 B w) (hb : Below B w w') : T10 B w' := Lib.TabBelow.on h hb
theorem T10.mono {B B' : Nat} {w : World} (h : T10 B w) (hB : B ≤ B') : T10 B' w := fun w' hb => h w' (hb.mono hB)
theorem below_grow (w : World) (k : Nat) (os : Array Obj) : Below w.heap.size w (Sort.grow (w.drewN k) os) := by
  refine ⟨rfl, rfl, rfl, ?_, fun i hi => ?_⟩
  · show w.heap.size ≤ (w.heap ++ os).size
    simp
  · show (w.heap ++ os)[i]? = w.heap[i]?
    exact Array.getElem?_append_left hi
theorem zeroU8T : (Tryz.prog.info? 5).map (fun i => (i.zero, i.size, i.bytes)) = some (some (.int .u8 0), 1, 1) := by kernel_rfl
/-- string(..) of a text that grew. -/
theorem conv_bt {lo : Nat} {w : World} {v : Value} {l : List UInt8} (h : Bt lo 5 w v l) (h0 : 0 < l.length) : (convert 35 9 v).run Tryz.prog w = .ok (.string (bArr l)) w := by
  obtain ⟨A, c, rfl, hc1, hc2, hs⟩ := Ow.shape ubC_length h
  obtain ⟨b, off, rfl, _, _, _, hat⟩ := hs h0
  refine run_convert_bytes_back w _ _ 5 ⟨b, off, none⟩ c l Tryz.underlying35 Tryz.underlying5 Tryz.underlying9 (fun j hj => ?_)
  have := hat j l[j] (List.getElem?_eq_getElem hj) 0 _ rfl
  rw [Addr.add_lit]
  simpa using this

set_option maxHeartbeats 1000000 in
theorem exprName_ok (k : Int) (w : World) (h0 : 3 ≤ k) (h1 : k ≤ 11) : Calls Tryz.prog 83 #[.int .i64 k] w fun e w' => e = .returned (.string (bArr (opText k))) ∧ Below w.heap.size w w' := by
  obtain ⟨S, hS⟩ : ∃ S, bArr (opText k) = S := ⟨_, rfl⟩
  rw [hS]
  obtain ⟨n, rfl⟩ := Int.eq_ofNat_of_zero_le (show 0 ≤ k by omega)
  have hn : n = 3 ∨ n = 4 ∨ n = 5 ∨ n = 6 ∨ n = 7 ∨ n = 8 ∨ n = 9 ∨ n = 10 ∨ n = 11 := by omega
  rcases hn with rfl | rfl | rfl | rfl | rfl | rfl | rfl | rfl | rfl
  all_goals
    subst hS
    go_enter Tryz.func83, Tryz.ntmps83
    go_wp2
    go_ret
    exact ⟨rfl, balloc (Below.refl _ _) _⟩

set_option maxRecDepth 20000 in
set_option maxHeartbeats 1000000 in
theorem encodeValue_ok (v : Val) (lo : Nat) (w : World) (hv : vValid v = true) (ht : T10 lo w) (hlo : lo ≤ w.heap.size) : Calls Tryz.prog 92 #[.agg #[.bool v.1, .int .i64 v.2]] w fun e w' => e = .returned (.string (bArr (valText v))) ∧ Below w.heap.size w w' := by
  obtain ⟨W1, hW1⟩ : ∃ z, w.alloc (.cells #[.bool v.1, .int .i64 v.2] 38) = z := ⟨_, rfl⟩
  have B1 : Below w.heap.size w W1 := by rw [← hW1]; exact balloc (Below.refl _ _) _
  have r1 : Row W1 w.heap.size 38 [.bool v.1, .int .i64 v.2] := by rw [← hW1]; exact Row.new _ _ _
  have HV := Lib.hid (implValid_ok v W1 true hv)
  have HW1 := Lib.hid hW1
  have HB1 := Lib.hid B1
  have Hr1 := Lib.hid r1
  have HT := Lib.hid ht
  have c0 : W1.cell? ⟨w.heap.size, 0, none⟩ = some (.bool v.1) := r1.cell 0
  have c1 : W1.cell? ⟨w.heap.size, 1, none⟩ = some (.int .i64 v.2) := r1.cell 1
  have hr : -9999 ≤ v.2 ∧ v.2 ≤ 9999 := by
    obtain ⟨b, n⟩ := v
    cases b
    · simp [vValid] at hv
      exact ⟨by show -9999 ≤ n; omega, by show n ≤ 9999; omega⟩
    · simp [vValid] at hv
      exact ⟨by show -9999 ≤ n; omega, by show n ≤ 9999; omega⟩
  obtain ⟨S, hS⟩ : ∃ S, bArr (valText v) = S := ⟨_, rfl⟩
  rw [hS]
  have HS := Lib.hid hS
  have Hr := Lib.hid hr
  have hV : vValid v = true := hv
  clear hW1 B1 r1 ht hr hv
  go_enter Tryz.func92, Tryz.ntmps92
  go_upto_region 1 with fail
  rw [HW1.out]
  go_wp2_with fail
  refine HV.out.mono ?_
  rintro e w2 ⟨rfl, hb2⟩
  have hrow := Hr1.out.on hb2
  have HB2 := Lib.hid (bch HB1.out hb2)
  have d0 : w2.cell? ⟨w.heap.size, 0, none⟩ = some (.bool v.1) := hrow.cell 0
  have d1 : w2.cell? ⟨w.heap.size, 1, none⟩ = some (.int .i64 v.2) := hrow.cell 1
  clear hS hrow hb2 c0 c1 hV
  cases hb : v.1
  · rw [hb] at d0
    have e1 : bArr (Lib.itoa v.2) = S := by rw [← HS.out]; unfold valText; rw [hb]; rfl
    have HI := Lib.hid (Tryz.strconv_Itoa v.2 (by have := Hr.out; omega) (by have := Hr.out; omega) w2 (HT.out.mono hlo |>.on HB2.out).here)
    have e2 : (⟨(Lib.itoa v.2).toArray⟩ : ByteArray) = S := e1
    rw [e2] at HI
    clear e1 e2 hb
    go_wp2_with fail
    refine HI.out.mono ?_
    rintro e w3 ⟨rfl, k, os, rfl⟩
    go_wp2
    go_ret
    exact ⟨rfl, bch HB2.out (below_grow _ _ _)⟩
  · rw [hb] at d0
    have e1 : bArr [110, 117, 108, 108] = S := by rw [← HS.out]; unfold valText; rw [hb]; rfl
    have e2 : (⟨#[110, 117, 108, 108]⟩ : ByteArray) = S := e1
    have E2 := Lib.hid e2
    clear e1 e2 hb
    go_wp2
    go_ret
    exact ⟨by rw [← E2.out]; rfl, HB2.out⟩

set_option maxRecDepth 20000 in
set_option maxHeartbeats 1000000 in
theorem appendColumn_ok (lo : Nat) (v : Value) (l : List UInt8) (col : Int) (w : World) (h : Bt lo 5 w v l) (hlo : lo ≤ w.heap.size) (ht : T10 lo w) (hl : l.length ≤ 8388608) (h0 : -1000000 < col) (h1 : col < 1000000) :
    Calls Tryz.prog 91 #[v, .int .i64 col] w fun e w' => ∃ v', e = .returned v' ∧ Bt lo 5 w' v' (l ++ 35 :: Lib.itoa col) ∧ Below lo w w' := by
  have HO := Lib.hid (h.on (balloc (Below.refl _ _) (.cells #[.int .u8 35] 5)))
  have HS := Lib.hid (ub_row (w := w) (e := 5) 35)
  have HB := Lib.hid (show Below lo w (w.alloc (.cells #[.int .u8 35] 5)) from ((Below.refl lo w).alloc hlo _))
  have hz : lo ≤ (w.alloc (.cells #[.int .u8 35] 5)).heap.size := by simp; omega
  have HT := Lib.hid ht
  have Hl := Lib.hid hl
  clear h ht hl
  go_enter Tryz.func91, Tryz.ntmps91
  go_wp2_with (at_builtin; refine wpList_btL rfl (.tmp 5) (.tmp 6) 35 rfl lo 5 Tryz.underlying35 zeroU8T _ l rfl HO.out (some ⟨w.heap.size, 0, none⟩) 1 1 [35] rfl rfl HS.out (by have := Hl.out; simp; omega) hz ?_; intro v2 w2 ho2 hb2; have HO2 := Lib.hid ho2; have HB2 := Lib.hid (HB.out.trans hb2); clear ho2 hb2)
  have hz2 := HB2.out.size
  refine (Tryz.strconv_AppendInt_10 lo (l ++ [35]).length col (by omega) (by omega) _ _ w2 HO2.out.row (by omega) (by have := Hl.out; simp; omega) (HT.out.on HB2.out)).mono ?_
  rintro e w3 ⟨v3, rfl, ho3, hb3, _⟩
  have HO3 := Lib.hid (show Bt lo 5 w3 v3 (l ++ 35 :: Lib.itoa col) from Bt.of (by
    have e1 : l ++ 35 :: Lib.itoa col = (l ++ [35]) ++ Lib.itoa col := by simp
    rw [e1, Lib.byteCells_append, List.length_append]
    exact ho3))
  have HB3 := Lib.hid (HB2.out.trans hb3)
  clear ho3 hb3
  go_wp2
  go_ret
  exact ⟨_, rfl, HO3.out, HB3.out⟩
end Go.Proofs.YtmhlpjfijpomkaaGreatDoor
