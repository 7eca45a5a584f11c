/-
  Contract: the states of expressions, as the reference computes them (outcomes).
-/
import Derived.Test.YtcbfbgngkdiijaaProg
import Derived.Test.YtcbfbgngkdiijaaZnNuP
import Derived.Test.YtcbfbgngkdiijaaZnVlE
namespace Go.Proofs.Ytcbfbgngkdiijaa
open Go.RowKit Go.Qo
set_option linter.unusedVariables false
set_option linter.unusedSimpArgs false

/-- States below 8. -/
def St8 (sts : List Nat) : Prop := ∀ x ∈ sts, x < 8
theorem St8.sub {sts : List Nat} (h : St8 sts) : SubR sts sts := fun i => by
  rw [List.getD_eq_getElem?_getD]
  cases hx : sts[i]? with
  | none => exact SubS.refl (a := 0) (by decide)
  | some x => exact SubS.refl (h x (List.mem_of_getElem? hx))
theorem St8.outc {sts : List Nat} (h : St8 sts) (x : Ex) : outc sts x < 8 := (outc_mono x _ _ h.sub).1
def stI (sts : List Nat) : List Int := sts.map fun n : Nat => (n : Int)
theorem stI_len (sts : List Nat) : (stI sts).length = sts.length := by simp [stI]
def kidO (sts : List Nat) (x : Ex) (i : Nat) : Nat := (outcs sts x.kids).getD i 0
theorem kidO_at {sts : List Nat} {x : Ex} {i : Nat} (h : i < x.kids.length) : kidO sts x i = outc sts x.kids[i] := by
  unfold kidO
  rw [outcs_map, List.getD_eq_getElem?_getD, List.getElem?_map, List.getElem?_eq_getElem h]; rfl
/-- Bits of states. -/
theorem and4 {a : Nat} (h : a < 8) : (bits .and .i64 (a : Int) 4 != 0) = has a 4 := by
  have : ∀ a : Fin 8, (bits .and .i64 ((a.1 : Nat) : Int) 4 != 0) = has a.1 4 := by decide +kernel
  exact this ⟨a, h⟩
theorem and3 {a : Nat} (h : a < 8) : (bits .and .i64 (a : Int) 3 != 0) = (a % 4 != 0) := by
  have : ∀ a : Fin 8, (bits .and .i64 ((a.1 : Nat) : Int) 3 != 0) = (a.1 % 4 != 0) := by decide +kernel
  exact this ⟨a, h⟩
theorem andN4 {a : Nat} (h : a < 8) : (bits .andNot .i64 (a : Int) 4 != 0) = (a % 4 != 0) := by
  have : ∀ a : Fin 8, (bits .andNot .i64 ((a.1 : Nat) : Int) 4 != 0) = (a.1 % 4 != 0) := by decide +kernel
  exact this ⟨a, h⟩
theorem or4 {a b : Nat} (h : a < 8) (g : b < 8) : (bits .and .i64 (bits .or .i64 (a : Int) (b : Int)) 4 != 0) = (has a 4 || has b 4) := by
  have : ∀ a b : Fin 8, (bits .and .i64 (bits .or .i64 ((a.1 : Nat) : Int) ((b.1 : Nat) : Int)) 4 != 0) = (has a.1 4 || has b.1 4) := by decide +kernel
  exact this ⟨a, h⟩ ⟨b, g⟩
theorem bo_4_3 : bits .or .i64 4 3 = 7 := by decide
theorem bo_0_3 : bits .or .i64 0 3 = 3 := by decide
theorem bo_3_4 : bits .or .i64 3 4 = 7 := by decide
theorem bo_7_4 : bits .or .i64 7 4 = 7 := by decide
theorem bo_2_1 : bits .or .i64 2 1 = 3 := by decide
theorem bo_0_1 : bits .or .i64 0 1 = 1 := by decide
theorem bo_0_2 : bits .or .i64 0 2 = 2 := by decide
/-- What the reference says of the states of x. -/
def OutS (x : Ex) : Prop := ∀ (f : FE) (sts : List Nat) (A : Option Addr) (c : Nat) (d : Int) (w : World), ExIn w w.heap.size f x → ExOk (sts.length : Int) d x → sts.length ≤ 6 → St8 sts → Sl 1 intC w w.heap.size A (stI sts) →
  Calls Try.prog 39 #[feV f, .slice A sts.length c] w fun e w' => e = .returned (.int .i64 (outc sts x : Nat)) ∧ Below w.heap.size w w'
set_option maxRecDepth 20000 in
set_option maxHeartbeats 8000000 in
theorem specOutcomes_ok : ∀ x : Ex, OutS x := Ex.ind fun x ih f sts A c d w h hok hlen h8 hsl => by
  obtain ⟨a1, a2, a3, a4, a5, a6⟩ := h.flat
  have hkr := exOk_kind hok
  obtain ⟨ok1, ok2, ok3, ok4⟩ := exOk_iff.1 hok
  obtain ⟨R, hR⟩ : ∃ R, outc sts x = R := ⟨_, rfl⟩
  rw [hR]
  have HR := Lib.hid (show R = nodeS x.kind x.col x.val sts (outcs sts x.kids) by rw [← hR]; exact outc_eq sts x)
  obtain ⟨W1, hW1⟩ : ∃ z, w.alloc (.cells #[.int .i64 x.kind, .int .i64 x.col, .bool x.val.1, .int .i64 x.val.2, .slice f.sv.A x.kids.length f.sv.c] 66) = z := ⟨_, rfl⟩
  have B1 : Below w.heap.size w W1 := by rw [← hW1]; exact balloc (Below.refl _ _) _
  have r1 : Row W1 w.heap.size 66 [.int .i64 x.kind, .int .i64 x.col, .bool x.val.1, .int .i64 x.val.2, .slice f.sv.A x.kids.length f.sv.c] := by rw [← hW1]; exact Row.new _ _ _
  have HK8 := Lib.hid (fun (i : Nat) (hi : i < x.kids.length) => show outc sts x.kids[i] < 8 from h8.outc _)
  have HVX := Lib.hid (fun (i : Nat) (hi : i < x.kids.length) (z : World) (hz : Below w.heap.size w z) => show ∃ b1 o1 g, f.sv.A = some ⟨b1, o1, none⟩ ∧ FeAt z b1 (o1 + i * 5) g ∧ Calls Try.prog 39 #[feV g, .slice A sts.length c] z (fun e w' => e = .returned (.int .i64 (outc sts x.kids[i] : Nat)) ∧ Below z.heap.size z w') from by
    obtain ⟨b1, o1, g, e1, e2, e3, e4⟩ := (h.on hz).kid hi
    exact ⟨b1, o1, g, e1, e3, ih _ (List.getElem_mem hi) g sts A c (d - 1) z e4 (ok3 _ (List.getElem_mem hi)) hlen h8 (hsl.on hz)⟩)
  have HSL := Lib.hid (hsl.on B1)
  have HOK := Lib.hid (And.intro ok1 ok4)
  have H8 := Lib.hid h8
  have HB1 := Lib.hid B1
  have HW1 := Lib.hid hW1
  have Hrow := Lib.hid r1
  have hk2 := hok.kids_le
  have c0 : W1.cell? ⟨w.heap.size, 0, none⟩ = some (.int .i64 x.kind) := r1.cell 0
  have c1 : W1.cell? ⟨w.heap.size, 1, none⟩ = some (.int .i64 x.col) := r1.cell 1
  have c2 : W1.cell? ⟨w.heap.size, 2, none⟩ = some (.bool x.val.1) := r1.cell 2
  have c3 : W1.cell? ⟨w.heap.size, 3, none⟩ = some (.int .i64 x.val.2) := r1.cell 3
  have c4 : W1.cell? ⟨w.heap.size, 4, none⟩ = some (.slice f.sv.A x.kids.length f.sv.c) := r1.cell 4
  unfold feV
  rw [a1, a2, a3, a4]
  clear h hok h8 hsl ih hR a1 a2 a3 a4 a5 a6 ok1 ok2 ok3 ok4 B1 r1 hW1
  by_cases hk1 : x.kind = 1
  · have hl := HOK.out.2
    unfold LocOk at hl
    rw [if_pos hk1] at hl
    obtain ⟨j, hj⟩ := Int.eq_ofNat_of_zero_le hl.1.1
    have hjl : j < sts.length := by omega
    have hz := HR.out
    unfold nodeS at hz
    rw [if_pos hk1, hj, Int.toNat_natCast, List.getD_eq_getElem?_getD, List.getElem?_eq_getElem hjl] at hz
    have hz2 : R = sts[j] := hz
    clear hz
    obtain ⟨bs, os, rfl, hB, v0⟩ := Ints.at_ HSL.out (i := j) (by rw [stI_len]; exact hjl)
    have hv : (stI sts)[j]'(by rw [stI_len]; exact hjl) = (R : Int) := by unfold stI; rw [List.getElem_map, hz2]
    rw [hv] at v0
    have hjI : (j : Int) < (sts.length : Int) := by omega
    rw [hj] at c1
    rw [hk1] at c0
    clear hl hz2 hv hk1 hj hkr hk2
    go_enter Try.func39, Try.ntmps39
    go_upto_region 1 with fail
    rw [HW1.out]
    go_wp2
    go_ret
    exact ⟨rfl, HB1.out⟩
  have hk1' : (x.kind == 1) = false := by simpa using hk1
  by_cases hkk2 : x.kind = 2
  · have hz := HR.out
    unfold nodeS at hz
    rw [if_neg hk1, if_pos hkk2] at hz
    have HV := Lib.hid (fun z => specStateOf_ok x.val z)
    rw [← hz] at HV
    rw [hkk2] at c0
    clear hz hk1 hk1' hkk2 hkr hk2
    go_enter Try.func39, Try.ntmps39
    go_upto_region 1 with fail
    rw [HW1.out]
    go_wp2_with fail
    refine (HV.out _).mono ?_
    rintro e w2 ⟨rfl, hb2⟩
    have H2 := Lib.hid (bch HB1.out hb2)
    clear hb2
    go_wp2
    go_ret
    exact ⟨rfl, H2.out⟩
  have hkk2' : (x.kind == 2) = false := by simpa using hkk2
  have hp0 : 0 < x.kids.length := by have := HOK.out.1; unfold kidsK at this; rw [if_neg (by omega)] at this; split at this <;> (try split at this) <;> omega
  have hpI : (0 : Int) < (x.kids.length : Int) := by omega
  have HZ := Lib.hid (show R = if x.kind = 10 then notS (kidO sts x 0) else if x.kind = 11 then tstS (kidO sts x 0) else cmbS x.kind (kidO sts x 0) (kidO sts x 1) by
    have hz := HR.out
    unfold nodeS at hz
    rwa [if_neg hk1, if_neg hkk2] at hz)
  obtain ⟨b1, o1, g1, hA1, ⟨d0, d1, d2, d3, d4⟩, HC0⟩ := HVX.out 0 hp0 W1 HB1.out
  have ha8 := HK8.out 0 hp0
  have HKE := Lib.hid (kidO_at (sts := sts) hp0)
  obtain ⟨a, hav⟩ : ∃ v, outc sts x.kids[0] = v := ⟨_, rfl⟩
  rw [hav] at HC0 ha8 HKE
  simp only [Nat.zero_mul, Nat.add_zero] at HC0 d0 d1 d2 d3 d4
  unfold feV at HC0
  obtain ⟨ai, hai⟩ : ∃ v : Int, (a : Int) = v := ⟨_, rfl⟩
  rw [hai] at HC0
  have HAI := Lib.hid hai
  have hai8 : ai = 0 ∨ ai = 1 ∨ ai = 2 ∨ ai = 3 ∨ ai = 4 ∨ ai = 5 ∨ ai = 6 ∨ ai = 7 := by omega
  have HA8 := Lib.hid hai8
  have HAN := Lib.hid ha8
  have HCC := Lib.hid HC0
  have HA1 := Lib.hid hA1
  have HC4 := Lib.hid c4
  have HP0 := Lib.hid hp0
  rw [hA1] at c4
  clear hA1 HC0 hav HR hk1 hkk2 hai hai8 ha8
  go_enter Try.func39, Try.ntmps39
  go_upto_region 1 with fail
  rw [HW1.out]
  go_wp2_with fail
  refine HCC.out.mono ?_
  rintro e w2 ⟨rfl, hb2⟩
  have HB2 := Lib.hid hb2
  have HB12 := Lib.hid (bch HB1.out hb2)
  have r2 := Hrow.out.on hb2
  have HR2 := Lib.hid r2
  clear c0 c1 c2 c3 c4 d0 d1 d2 d3 d4
  have c0 : w2.cell? ⟨w.heap.size, 0, none⟩ = some (.int .i64 x.kind) := r2.cell 0
  have c4 : w2.cell? ⟨w.heap.size, 4, none⟩ = some (.slice (some ⟨b1, o1, none⟩) x.kids.length f.sv.c) := by rw [← HA1.out]; exact r2.cell 4
  clear hb2 r2
  by_cases hk10 : x.kind = 10
  · have hz := HZ.out
    rw [if_pos hk10, HKE.out] at hz
    have HF := Lib.hid hz
    rw [hk10] at c0
    have hai8 := HA8.out
    clear hz hk10 hkr hk1' hkk2'
    rcases hai8 with rfl | rfl | rfl | rfl | rfl | rfl | rfl | rfl
    all_goals
      go_wp2
      go_ret
      refine ⟨ret_int ?_, HB12.out⟩
      rw [HF.out]
      have h1 := HAI.out
      norm_cast at h1
      rw [h1]
      decide +kernel
  have hk10' : (x.kind == 10) = false := by simpa using hk10
  by_cases hk11 : x.kind = 11
  · have hz := HZ.out
    rw [if_neg hk10, if_pos hk11, HKE.out] at hz
    have HF := Lib.hid hz
    obtain ⟨q1, hq1⟩ : ∃ q, (bits .and .i64 ai 4 != 0) = q := ⟨_, rfl⟩
    obtain ⟨q2, hq2⟩ : ∃ q, (bits .and .i64 ai 3 != 0) = q := ⟨_, rfl⟩
    have HT := Lib.hid (show R = (if q1 = true then 2 else 0) + (if q2 = true then 1 else 0) by
      have e1 : has a 4 = q1 := by rw [← hq1, ← HAI.out]; exact (and4 HAN.out).symm
      have e2 : (a % 4 != 0) = q2 := by rw [← hq2, ← HAI.out]; exact (and3 HAN.out).symm
      rw [HF.out, ← e1, ← e2]
      unfold tstS has
      by_cases h1 : a / 4 % 2 = 1 <;> by_cases h2 : a % 4 = 0 <;> simp [h1, h2])
    rw [hk11] at c0
    clear hz hk10 hk11 hkr hk1' hkk2' hk10'
    have hb1 := bo_2_1
    have hb2 := bo_0_1
    cases q1 <;> cases q2
    all_goals
      go_wp2
      go_ret
      exact ⟨ret_int (by rw [HT.out]; rfl), HB12.out⟩
  have hk11' : (x.kind == 11) = false := by simpa using hk11
  have hz := HZ.out
  rw [if_neg hk10, if_neg hk11, HKE.out] at hz
  have hl2 : x.kids.length = 2 := by have := HOK.out.1; unfold kidsK at this; rw [if_neg (by simp at hk1' hkk2'; omega), if_neg (by omega)] at this; split at this <;> omega
  have hp1 : 1 < x.kids.length := by omega
  have hpI1 : (1 : Int) < (x.kids.length : Int) := by omega
  have hb8 := HK8.out 1 hp1
  rw [kidO_at (sts := sts) hp1] at hz
  obtain ⟨b1', o1', g2, hA2, ⟨d0, d1, d2, d3, d4⟩, HC1⟩ := HVX.out 1 hp1 w2 HB12.out
  rw [HA1.out] at hA2
  cases hA2
  obtain ⟨b, hbv⟩ : ∃ v, outc sts x.kids[1] = v := ⟨_, rfl⟩
  rw [hbv] at HC1 hb8 hz
  simp only [Nat.one_mul] at HC1 d0 d1 d2 d3 d4
  unfold feV at HC1
  obtain ⟨bi, hbi⟩ : ∃ v : Int, (b : Int) = v := ⟨_, rfl⟩
  rw [hbi] at HC1
  have HBI := Lib.hid hbi
  have HBN := Lib.hid hb8
  have HCC1 := Lib.hid HC1
  have HF := Lib.hid hz
  have hk37 : 3 ≤ x.kind ∧ x.kind ≤ 9 := by simp at hk1' hkk2'; omega
  have HK37 := Lib.hid hk37
  clear hz hbv hbi hb8 HC1 hk10 hk11 hl2 hk37 hkr
  go_wp2_with fail
  refine HCC1.out.mono ?_
  rintro e w3 ⟨rfl, hb3⟩
  have HB3 := Lib.hid (bch HB12.out hb3)
  have r3 := HR2.out.on hb3
  clear c0 c4 d0 d1 d2 d3 d4
  have c0 : w3.cell? ⟨w.heap.size, 0, none⟩ = some (.int .i64 x.kind) := r3.cell 0
  clear hb3 r3
  by_cases hk89 : x.kind = 8 ∨ x.kind = 9
  · have HTS := Lib.hid (fun z => truthStates_ok x.kind a b z hk89 HAN.out HBN.out)
    rw [HAI.out, HBI.out, ← HF.out] at HTS
    have Hk := Lib.hid hk89
    clear hk1' hkk2' hk10' hk11' hp1 hpI1 hp0 hpI
    rcases hk89 with hk | hk
    all_goals
      rw [hk] at c0 HTS
      clear hk
      go_wp2_with fail
      refine (HTS.out _).mono ?_
      rintro e w4 ⟨rfl, hb4⟩
      have HB4 := Lib.hid (bch HB3.out hb4)
      clear hb4
      go_wp2
      go_ret
      exact ⟨rfl, HB4.out⟩
  have hk8' : (x.kind == 8) = false := by simp; omega
  have hk9' : (x.kind == 9) = false := by simp; omega
  obtain ⟨q1, hq1⟩ : ∃ q, (bits .and .i64 (bits .or .i64 ai bi) 4 != 0) = q := ⟨_, rfl⟩
  obtain ⟨q2, hq2⟩ : ∃ q, (bits .and .i64 ai 3 != 0) = q := ⟨_, rfl⟩
  obtain ⟨q3, hq3⟩ : ∃ q, (bits .and .i64 bi 3 != 0) = q := ⟨_, rfl⟩
  obtain ⟨q4, hq4⟩ : ∃ q, decide (x.kind < 6) = q := ⟨_, rfl⟩
  have HT := Lib.hid (show R = (if (q1 || (q4 && (q2 && q3))) = true then 4 else 0) + (if (q2 && q3) = true then 3 else 0) by
    have e1 : (has a 4 || has b 4) = q1 := by rw [← hq1, ← HAI.out, ← HBI.out]; exact (or4 HAN.out HBN.out).symm
    have e2 : (a % 4 != 0) = q2 := by rw [← hq2, ← HAI.out]; exact (and3 HAN.out).symm
    have e3 : (b % 4 != 0) = q3 := by rw [← hq3, ← HBI.out]; exact (and3 HBN.out).symm
    rw [HF.out]
    unfold cmbS
    rw [if_neg (by omega), if_neg (by omega)]
    unfold numS
    rw [e1, e2, e3, hq4, Bool.and_assoc])
  have hb1 := bo_4_3
  have hb2 := bo_0_3
  have hb3 := bo_3_4
  have hb4 := bo_7_4
  clear hk89 hk1' hkk2' hk10' hk11' hp1 hpI1 hp0 hpI
  cases q1 <;> cases q2 <;> cases q3 <;> cases q4
  all_goals
    go_wp2
    go_ret
    exact ⟨ret_int (by rw [HT.out]; rfl), HB3.out⟩
end Go.Proofs.Ytcbfbgngkdiijaa
