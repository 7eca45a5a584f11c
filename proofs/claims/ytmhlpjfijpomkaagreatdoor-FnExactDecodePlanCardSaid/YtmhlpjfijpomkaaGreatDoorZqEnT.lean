/-
  Contracts: the reference's texts of numbers below nought, of values; the names of kinds.
-/
import Derived.Test.YtmhlpjfijpomkaaGreatDoorProg
import Derived.Test.YtmhlpjfijpomkaaGreatDoorZqEnS
namespace Go.Proofs.YtmhlpjfijpomkaaGreatDoor
open Go.RowKit Go.Qo
set_option linter.unusedVariables false
set_option linter.unusedSimpArgs false

theorem itoa_len {n : Int} (h0 : -10000 < n) (h1 : n < 10000) : (Lib.itoa n).length ≤ 5 := by
  unfold Lib.itoa
  split
  · have := dec_len 3 n.natAbs (by show n.natAbs < 10000; omega)
    simp; omega
  · have := dec_len 3 n.toNat (by show n.toNat < 10000; omega)
    omega
set_option maxRecDepth 20000 in
set_option maxHeartbeats 2000000 in
theorem formatInt_ok (n : Int) (w : World) (h0 : -10000 < n) (h1 : n < 10000) : Calls Tryz.prog 65 #[.int .i64 n] w fun e w' => e = .returned (.string (bArr (Lib.itoa n))) ∧ Below w.heap.size w w' := by
  by_cases hn : n < 0
  · obtain ⟨m, hm⟩ : ∃ m : Nat, -n = m := ⟨(-n).toNat, by omega⟩
    have e : Lib.itoa n = 45 :: Lib.decDigits m := by
      unfold Lib.itoa
      rw [if_pos hn, show n.natAbs = m by omega]
    have hdl := dec_len 5 m (by omega)
    have HF := Lib.hid (formatNat_ok m w (by omega))
    have hadd := fun z => strAddOp [45] (Lib.decDigits m) (by simp) (by omega) z
    rw [e]
    obtain ⟨Sq, hSq⟩ : ∃ S, bArr (Lib.decDigits m) = S := ⟨_, rfl⟩
    obtain ⟨Sm, hSm⟩ : ∃ S, bArr (45 :: Lib.decDigits m) = S := ⟨_, rfl⟩
    have hadd1 : ∀ z, (Op.stringOp .add ⟨#[45]⟩ Sq).run Tryz.prog z = .ok (.string Sm) z := fun z => by rw [← hSq, ← hSm]; exact hadd z
    have hadd2 : ∀ z, (binOp .add 9 (.string ⟨#[45]⟩) (.string Sq)).run Tryz.prog z = .ok (.string Sm) z := fun z => by simp [go_sem, hadd1]
    rw [hSq] at HF
    rw [hSm]
    have h2 : ¬ (n < -9223372036854775807) := by omega
    have hneg : IntKind.i64.wrap (-n) = (m : Int) := by rw [hm]; exact IntWalk.i64_in _ (by omega)
    have HM := Lib.hid hm
    clear hadd hSq hSm e hm hdl
    go_enter Tryz.func65, Tryz.ntmps65
    go_wp2_with fail
    refine HF.out.mono ?_
    rintro e w1 ⟨rfl, hb1⟩
    go_wp2
    go_ret
    exact ⟨rfl, hb1⟩
  · obtain ⟨m, rfl⟩ := Int.eq_ofNat_of_zero_le (show 0 ≤ n by omega)
    have e : Lib.itoa (m : Int) = Lib.decDigits m := by
      unfold Lib.itoa
      rw [if_neg hn, Int.toNat_natCast]
    rw [e]
    exact formatNat_ok m w (by omega)

set_option maxRecDepth 20000 in
set_option maxHeartbeats 1000000 in
theorem formatValue_ok (v : Val) (w : World) (hv : vValid v = true) : Calls Tryz.prog 90 #[.agg #[.bool v.1, .int .i64 v.2]] w fun e w' => e = .returned (.string (bArr (valText v))) ∧ Below w.heap.size w w' := by
  obtain ⟨b, n⟩ := v
  obtain ⟨W1, hW1⟩ : ∃ z, w.alloc (.cells #[.bool b, .int .i64 n] 38) = z := ⟨_, rfl⟩
  have B1 : Below w.heap.size w W1 := by rw [← hW1]; exact balloc (Below.refl _ _) _
  have r1 : Row W1 w.heap.size 38 [.bool b, .int .i64 n] := by rw [← hW1]; exact Row.new _ _ _
  have c0 : W1.cell? ⟨w.heap.size, 0, none⟩ = some (.bool b) := r1.cell 0
  have c1 : W1.cell? ⟨w.heap.size, 1, none⟩ = some (.int .i64 n) := r1.cell 1
  have HW1 := Lib.hid hW1
  have HB1 := Lib.hid B1
  clear hW1 B1 r1
  cases b
  · have hn : -10000 < n ∧ n < 10000 := by
      simp [vValid] at hv
      omega
    have HF := Lib.hid (formatInt_ok n W1 hn.1 hn.2)
    have e : valText (false, n) = Lib.itoa n := rfl
    rw [e]
    obtain ⟨S, hS⟩ : ∃ S, bArr (Lib.itoa n) = S := ⟨_, rfl⟩
    rw [hS] at HF ⊢
    clear hS e hv hn
    go_enter Tryz.func90, Tryz.ntmps90
    go_upto_region 1 with fail
    rw [HW1.out]
    go_wp2_with fail
    refine HF.out.mono ?_
    rintro e w1 ⟨rfl, hb1⟩
    go_wp2
    go_ret
    exact ⟨rfl, bch HB1.out hb1⟩
  · clear hv
    go_enter Tryz.func90, Tryz.ntmps90
    go_upto_region 1 with fail
    rw [HW1.out]
    go_wp2
    go_ret
    exact ⟨rfl, HB1.out⟩

theorem exprNames_ok (w : World) : Calls Tryz.prog 86 #[] w fun e w' => e = .returned (.slice (some ⟨w.heap.size, 0, none⟩) 12 12) ∧ Below w.heap.size w w' ∧ Row w' w.heap.size 9 (opTexts.map fun l => .string (bArr l)) := by
  go_enter Tryz.func86, Tryz.ntmps86
  go_wp2
  go_ret
  exact ⟨rfl, balloc (Below.refl _ _) _, (Row.new _ _ _).of rfl⟩

theorem opText_len (k : Int) : (opText k).length ≤ 4 := by
  unfold opText
  rw [List.getD_eq_getElem?_getD]
  cases h : opTexts[k.toNat]? with
  | none => simp
  | some l =>
    have hm : l ∈ opTexts := List.mem_of_getElem? h
    simp only [Option.getD_some]
    clear h
    revert l
    decide +kernel
theorem valText_len {v : Val} (h : vValid v = true) : (valText v).length ≤ 5 := by
  obtain ⟨b, n⟩ := v
  cases b
  · simp [vValid] at h
    exact itoa_len (by omega) (by omega)
  · simp [valText]
theorem exText_len {width : Int} (hw : width ≤ 6) : ∀ (d : Nat) (x : Ex), ExOk width d x → (exText x).length + 8 ≤ 2 ^ (d + 4)
  | d, x, h => by
    obtain ⟨h1, h2, h3, h4⟩ := exOk_iff.1 h
    have hp : 16 ≤ 2 ^ (d + 4) := by rw [Nat.pow_add]; have := Nat.one_le_two_pow (n := d); omega
    rw [exText_eq]
    unfold LocOk at h4
    by_cases k1 : x.kind = 1
    · rw [if_pos k1] at h4 ⊢
      have := itoa_len (n := x.col) (by omega) (by omega)
      simp; omega
    · rw [if_neg k1] at h4 ⊢
      by_cases k2 : x.kind = 2
      · rw [if_pos k2] at h4 ⊢
        have := valText_len h4.2
        omega
      · rw [if_neg k2]
        have hn := opText_len x.kind
        have hkl := h.kids_le
        have hd : 0 < x.kids.length → (exsText x.kids).length + 16 ≤ 2 ^ (d + 4) + 2 := fun h0 => by
          have hd0 := h2 h0
          obtain ⟨d', rfl⟩ : ∃ d', d = d' + 1 := ⟨d - 1, by omega⟩
          have hk : ∀ y ∈ x.kids, (exText y).length + 8 ≤ 2 ^ (d' + 4) := fun y hy => exText_len hw d' y (by have := h3 y hy; rwa [show ((d' + 1 : Nat) : Int) - 1 = (d' : Int) by omega] at this)
          have hp' : 2 ^ (d' + 1 + 4) = 2 * 2 ^ (d' + 4) := by rw [show d' + 1 + 4 = d' + 4 + 1 by omega, Nat.pow_succ]; omega
          match hks : x.kids, hkl, hk with
          | [], _, _ => simp [hks] at h0
          | [a], _, hk => have := hk a (by simp); simp [exsText]; omega
          | [a, b], _, hk => have := hk a (by simp); have := hk b (by simp); simp [exsText]; omega
        by_cases h0 : 0 < x.kids.length
        · have := hd h0
          simp; omega
        · have : x.kids = [] := List.length_eq_zero_iff.1 (by omega)
          rw [this]
          simp [exsText]; omega
termination_by _ x => SizeOf.sizeOf x
decreasing_by exact Ex.kid_lt hy
end Go.Proofs.YtmhlpjfijpomkaaGreatDoor
