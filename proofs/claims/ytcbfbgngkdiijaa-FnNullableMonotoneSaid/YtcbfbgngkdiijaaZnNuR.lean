/-
  Contract: the states of expressions, as the program computes them (outcomes).
-/
import Derived.Test.YtcbfbgngkdiijaaProg
import Derived.Test.YtcbfbgngkdiijaaZnNuQ
namespace Go.Proofs.Ytcbfbgngkdiijaa
open Go.RowKit Go.Qo
set_option linter.unusedVariables false
set_option linter.unusedSimpArgs false

/-- What the program says of the states of x, whose cells lie at b, o. -/
def OutI (x : Ex) : Prop := ∀ (f : FE) (b o : Nat) (sts : List Nat) (A : Option Addr) (c : Nat) (d : Int) (w : World), b < w.heap.size → FeAt w b o f → ExIn w w.heap.size f x → ExOk (sts.length : Int) d x → sts.length ≤ 6 → St8 sts → Sl 1 intC w w.heap.size A (stI sts) →
  Calls Try.prog 35 #[.pointer (some ⟨b, o, none⟩), .slice A sts.length c] w fun e w' => e = .returned (.int .i64 (outc sts x : Nat)) ∧ Below w.heap.size w w'
set_option maxRecDepth 20000 in
set_option maxHeartbeats 8000000 in
theorem implOutcomes_ok : ∀ x : Ex, OutI x := Ex.ind fun x ih f b o sts A c d w hbw hat h hok hlen h8 hsl => by
  obtain ⟨a1, a2, a3, a4, a5, a6⟩ := h.flat
  have hkr := exOk_kind hok
  obtain ⟨ok1, ok2, ok3, ok4⟩ := exOk_iff.1 hok
  obtain ⟨R, hR⟩ : ∃ R, outc sts x = R := ⟨_, rfl⟩
  rw [hR]
  have HR := Lib.hid (show R = nodeS x.kind x.col x.val sts (outcs sts x.kids) by rw [← hR]; exact outc_eq sts x)
  have HK8 := Lib.hid (fun (i : Nat) (hi : i < x.kids.length) => show outc sts x.kids[i] < 8 from h8.outc _)
  have HVX := Lib.hid (fun (i : Nat) (hi : i < x.kids.length) (z : World) (hz : Below w.heap.size w z) => show ∃ b1 o1, f.sv.A = some ⟨b1, o1, none⟩ ∧ b1 < z.heap.size ∧ Calls Try.prog 35 #[.pointer (some ⟨b1, o1 + i * 5, none⟩), .slice A sts.length c] z (fun e w' => e = .returned (.int .i64 (outc sts x.kids[i] : Nat)) ∧ Below z.heap.size z w') from by
    obtain ⟨b1, o1, g, e1, e2, e3, e4⟩ := (h.on hz).kid hi
    exact ⟨b1, o1, e1, e2, ih _ (List.getElem_mem hi) g b1 _ sts A c (d - 1) z e2 e3 e4 (ok3 _ (List.getElem_mem hi)) hlen h8 (hsl.on hz)⟩)
  have BX := Lib.hid (fun (z : World) (hz : Below w.heap.size w z) => show (z.cell? ⟨b, o, none⟩ = some (.int .i64 x.kind) ∧ z.cell? ⟨b, o + 1, none⟩ = some (.int .i64 x.col) ∧ z.cell? ⟨b, o + 2, none⟩ = some (.bool x.val.1) ∧ z.cell? ⟨b, o + 3, none⟩ = some (.int .i64 x.val.2) ∧ z.cell? ⟨b, o + 4, none⟩ = some (.slice f.sv.A x.kids.length f.sv.c)) from by
    obtain ⟨c0, c1, c2, c3, c4⟩ := feAt_belowI hat hz hbw
    rw [a1] at c0
    rw [a2] at c1
    rw [a3] at c2 c3
    rw [a4] at c4
    exact ⟨c0, c1, c2, c3, c4⟩)
  have HSL := Lib.hid hsl
  have HOK := Lib.hid (And.intro ok1 ok4)
  have hk2 := hok.kids_le
  obtain ⟨c0, c1, c2, c3, c4⟩ := BX.out _ (Below.refl _ _)
  clear h hok h8 hsl ih hR hat a1 a2 a3 a4 a5 a6 ok1 ok2 ok3 ok4
  by_cases hk1 : x.kind = 1
  · have hl := HOK.out.2
    unfold LocOk at hl
    rw [if_pos hk1] at hl
    obtain ⟨j, hj⟩ := Int.eq_ofNat_of_zero_le hl.1.1
    have hjl : j < sts.length := by omega
    have hz := HR.out
    unfold nodeS at hz
    rw [if_pos hk1, hj, Int.toNat_natCast, List.getD_eq_getElem?_getD, List.getElem?_eq_getElem hjl] at hz
    have hz2 : R = sts[j] := hz
    clear hz
    obtain ⟨bs, os, rfl, hB, v0⟩ := Ints.at_ HSL.out (i := j) (by rw [stI_len]; exact hjl)
    have hv : (stI sts)[j]'(by rw [stI_len]; exact hjl) = (R : Int) := by unfold stI; rw [List.getElem_map, hz2]
    rw [hv] at v0
    have hjI : (j : Int) < (sts.length : Int) := by omega
    rw [hj] at c1
    rw [hk1] at c0
    clear hl hz2 hv hk1 hj hkr hk2
    go_enter Try.func35, Try.ntmps35
    go_wp2
    go_ret
    exact ⟨rfl, Below.refl _ _⟩
  have hk1' : (x.kind == 1) = false := by simpa using hk1
  by_cases hkk2 : x.kind = 2
  · have hz := HR.out
    unfold nodeS at hz
    rw [if_neg hk1, if_pos hkk2] at hz
    have HV := Lib.hid (fun z => implStateOf_ok x.val z)
    rw [← hz] at HV
    rw [hkk2] at c0
    clear hz hk1 hk1' hkk2 hkr hk2
    go_enter Try.func35, Try.ntmps35
    go_wp2_with fail
    refine (HV.out _).mono ?_
    rintro e w2 ⟨rfl, hb2⟩
    have H2 := Lib.hid hb2
    clear hb2
    go_wp2
    go_ret
    exact ⟨rfl, H2.out⟩
  have hkk2' : (x.kind == 2) = false := by simpa using hkk2
  have hp0 : 0 < x.kids.length := by have := HOK.out.1; unfold kidsK at this; rw [if_neg (by omega)] at this; split at this <;> (try split at this) <;> omega
  have hpI : (0 : Int) < (x.kids.length : Int) := by omega
  have HZ := Lib.hid (show R = if x.kind = 10 then notS (kidO sts x 0) else if x.kind = 11 then tstS (kidO sts x 0) else cmbS x.kind (kidO sts x 0) (kidO sts x 1) by
    have hz := HR.out
    unfold nodeS at hz
    rwa [if_neg hk1, if_neg hkk2] at hz)
  obtain ⟨b1, o1, hA1, hb1, HC0⟩ := HVX.out 0 hp0 w (Below.refl _ _)
  have ha8 := HK8.out 0 hp0
  have HKE := Lib.hid (kidO_at (sts := sts) hp0)
  obtain ⟨a, hav⟩ : ∃ v, outc sts x.kids[0] = v := ⟨_, rfl⟩
  rw [hav] at HC0 ha8 HKE
  simp only [Nat.zero_mul, Nat.add_zero] at HC0
  obtain ⟨ai, hai⟩ : ∃ v : Int, (a : Int) = v := ⟨_, rfl⟩
  rw [hai] at HC0
  have HAI := Lib.hid hai
  have hai8 : ai = 0 ∨ ai = 1 ∨ ai = 2 ∨ ai = 3 ∨ ai = 4 ∨ ai = 5 ∨ ai = 6 ∨ ai = 7 := by omega
  have HA8 := Lib.hid hai8
  have HAN := Lib.hid ha8
  have HCC := Lib.hid HC0
  have HA1 := Lib.hid hA1
  rw [hA1] at c4
  clear hA1 HC0 hav HR hk1 hkk2 hai hai8 ha8
  go_enter Try.func35, Try.ntmps35
  go_wp2_with fail
  refine HCC.out.mono ?_
  rintro e w2 ⟨rfl, hb2⟩
  have HB12 := Lib.hid hb2
  clear c0 c1 c2 c3 c4
  obtain ⟨c0, _, _, _, c4⟩ := BX.out _ hb2
  rw [HA1.out] at c4
  have hbw2 : b < w2.heap.size := by have := hb2.size; omega
  clear hb2
  by_cases hk10 : x.kind = 10
  · have hz := HZ.out
    rw [if_pos hk10, HKE.out] at hz
    have HF := Lib.hid hz
    rw [hk10] at c0
    have hai8 := HA8.out
    clear hz hk10 hkr hk1' hkk2'
    rcases hai8 with rfl | rfl | rfl | rfl | rfl | rfl | rfl | rfl
    all_goals
      go_wp2
      go_ret
      refine ⟨ret_int ?_, HB12.out⟩
      rw [HF.out]
      have h1 := HAI.out
      norm_cast at h1
      rw [h1]
      decide +kernel
  have hk10' : (x.kind == 10) = false := by simpa using hk10
  by_cases hk11 : x.kind = 11
  · have hz := HZ.out
    rw [if_neg hk10, if_pos hk11, HKE.out] at hz
    have HF := Lib.hid hz
    obtain ⟨q1, hq1⟩ : ∃ q, (bits .and .i64 ai 4 != 0) = q := ⟨_, rfl⟩
    obtain ⟨q2, hq2⟩ : ∃ q, (bits .andNot .i64 ai 4 != 0) = q := ⟨_, rfl⟩
    have HT := Lib.hid (show R = (if q1 = true then 2 else 0) + (if q2 = true then 1 else 0) by
      have e1 : has a 4 = q1 := by rw [← hq1, ← HAI.out]; exact (and4 HAN.out).symm
      have e2 : (a % 4 != 0) = q2 := by rw [← hq2, ← HAI.out]; exact (andN4 HAN.out).symm
      rw [HF.out, ← e1, ← e2]
      unfold tstS has
      by_cases h1 : a / 4 % 2 = 1 <;> by_cases h2 : a % 4 = 0 <;> simp [h1, h2])
    rw [hk11] at c0
    clear hz hk10 hk11 hkr hk1' hkk2' hk10'
    have hb1 := bo_2_1
    have hb2 := bo_0_1
    have hb3 := bo_0_2
    cases q1 <;> cases q2
    all_goals
      go_wp2
      go_ret
      exact ⟨ret_int (by rw [HT.out]; rfl), HB12.out⟩
  have hk11' : (x.kind == 11) = false := by simpa using hk11
  have hz := HZ.out
  rw [if_neg hk10, if_neg hk11, HKE.out] at hz
  have hl2 : x.kids.length = 2 := by have := HOK.out.1; unfold kidsK at this; rw [if_neg (by simp at hk1' hkk2'; omega), if_neg (by omega)] at this; split at this <;> omega
  have hp1 : 1 < x.kids.length := by omega
  have hpI1 : (1 : Int) < (x.kids.length : Int) := by omega
  have hb8 := HK8.out 1 hp1
  rw [kidO_at (sts := sts) hp1] at hz
  obtain ⟨bb, hbv⟩ : ∃ v, outc sts x.kids[1] = v := ⟨_, rfl⟩
  have HC1 := Lib.hid (fun (z : World) (hz : Below w2.heap.size w2 z) => show Calls Try.prog 35 #[.pointer (some ⟨b1, o1 + 5, none⟩), .slice A sts.length c] z (fun e w' => e = .returned (.int .i64 (bb : Nat)) ∧ Below z.heap.size z w') from by
    obtain ⟨b2, o2, e1, e2, e3⟩ := HVX.out 1 hp1 z (bch HB12.out hz)
    rw [HA1.out] at e1
    cases e1
    rw [hbv] at e3
    simpa using e3)
  rw [hbv] at hb8 hz
  have HCM := Lib.hid (fun z => show Calls Try.prog 53 #[.int .i64 x.kind, .int .i64 ai, .int .i64 (bb : Nat)] z fun e w' => e = .returned (.int .i64 (R : Nat)) ∧ Below z.heap.size z w' from by
    have := combinedStates_ok x.kind a bb z (by simp at hk1' hkk2'; omega) HAN.out hb8
    rw [← hz, HAI.out] at this
    exact this)
  clear hz hbv hb8 hk10 hk11 hl2 hkr
  have C0 : ∀ z : Aft w2.heap.size w2, z.v.cell? ⟨b, o, none⟩ = some (.int .i64 x.kind) := fun z => z.cell hbw2 c0
  have C4 : ∀ z : Aft w2.heap.size w2, z.v.cell? ⟨b, o + 4, none⟩ = some (.slice (some ⟨b1, o1, none⟩) x.kids.length f.sv.c) := fun z => z.cell hbw2 c4
  have HC1a := Lib.hid (fun z : Aft w2.heap.size w2 => HC1.out z.v z.h)
  have HCMa := Lib.hid (fun z : Aft w2.heap.size w2 => HCM.out z.v)
  go_upto_region 17 with fail
  refine wp_region_aft w2.heap.size (by kernel_rfl) (by kernel_rfl) ?_
  repeat (go_big_quiet_step (first | (go_at_call 35; exact Calls.aft (Nat.le_refl _) (HC1a.out _)) | (go_at_call 53; exact Calls.aft (Nat.le_refl _) (HCMa.out _))))
  refine wpQuiet_nil ?_
  intro w3 hw'
  obtain ⟨⟨_, hb3⟩, rfl⟩ := hw'
  go_wp2
  go_ret
  exact ⟨rfl, bch HB12.out hb3⟩
end Go.Proofs.Ytcbfbgngkdiijaa
