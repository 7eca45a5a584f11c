/-
  FnRangeScan returns true for all bytes and leaves them as they were. No condition.
-/
import Derived.Test.YtlhonhacehgooaaGreatRows
import Derived.OpenShut
import Derived.Deep.DeepCutAuto
import Derived.Test.YtlhonhacehgooaaGreatZrDrI
import Derived.Test.YtlhonhacehgooaaGreatZrRnx
import Derived.Test.YtlhonhacehgooaaGreatZrScx
import Derived.Test.YtlhonhacehgooaaGreatZrScx
import Derived.Test.YtlhonhacehgooaaGreatZrEvM
import Derived.Test.YtlhonhacehgooaaGreatZrEvX
import Derived.Test.YtlhonhacehgooaaGreatZrEvr
import Derived.Test.YtlhonhacehgooaaGreatZrGeg
import Derived.Test.YtlhonhacehgooaaGreatZrSub
import Derived.Test.YtlhonhacehgooaaGreatZrMkg
import Derived.Test.YtlhonhacehgooaaGreatZrAgb
namespace Go.Proofs.YtlhonhacehgooaaGreat
open Go.RowKit Go.Qo
open Go.ChangeShapes Go.WideShapes Go.ChangeAt
set_option linter.unusedVariables false
set_option linter.unusedSimpArgs false

set_option maxRecDepth 20000 in
set_option maxHeartbeats 4000000 in
theorem FnRangeScan_walk (A : Option Addr) (c : Nat) (xs : List Int) (w : World) (hc : xs.length ≤ c) (hm : c ≤ maxLen) (hg : ∀ x ∈ xs, 0 ≤ x ∧ x ≤ 255) (h : Sl 1 byteC w w.heap.size A xs) :
    Calls Tryz.prog 7 #[.slice A xs.length c] w fun e w' => e = .returned (.bool true) ∧ Below w.heap.size w w' := by
  have HD := Lib.hid (dDrawIndexed_ok A c xs w hc hm hg h)
  have hx63 : xs.length ≤ 9223372036854775807 := by unfold maxLen at hm; omega
  clear h hg hc hm
  by_cases hx : (1048576 : Int) < xs.length
  · clear HD
    go_enter Tryz.func7, Tryz.ntmps7
    go_wp2
    go_ret
    exact ⟨rfl, Below.refl _ _⟩
  go_enter Tryz.func7, Tryz.ntmps7
  go_wp2_with fail
  refine HD.out.mono ?_
  rintro e w3 ⟨W1, v1, svs1, rows1, f, x, col, rfl, hd1, hx3, hb3⟩
  obtain ⟨A1, c1, rfl, hc11, hc12, hs1, ht1, hl1, hr1⟩ := hd1.read
  have hwr := hd1.1
  unfold feV
  obtain ⟨q, hq⟩ : ∃ q : Bool, q = true ↔ (TabOk W1 rows1 ∧ 0 ≤ col ∧ col < W1) := ⟨_, @decide_eq_true_iff _ (Classical.propDecidable _)⟩
  have HQ := Lib.hid hq
  have R1 := Lib.hid (fun (z : World) (hz : Below w3.heap.size w3 z) => show Rws z z.heap.size A1 rows1 from (sls_of' hs1 ht1).on hz)
  have HSS := Lib.hid (And.intro hs1 ht1)
  have HXT := Lib.hid hx3
  have HCA := Lib.hid (And.intro hc11 hc12)
  obtain ⟨W5, hW5⟩ : ∃ z, (w3.alloc (.cells #[.int .i64 W1, .slice A1 rows1.length c1] 32)).alloc (.cells #[.int .i64 f.kind, .int .i64 f.col, .bool f.val.1, .int .i64 f.val.2, .slice f.sv.A f.sv.n f.sv.c] 57) = z := ⟨_, rfl⟩
  have B5 : Below w3.heap.size w3 W5 := by rw [← hW5]; exact balloc (balloc (Below.refl _ _) _) _
  have x1 : Row W5 w3.heap.size 32 [.int .i64 W1, .slice A1 rows1.length c1] := by rw [← hW5]; exact Row.first _ _ _ _
  have x2 : Row W5 (w3.heap.size + 1) 57 (feC f) := by rw [← hW5]; exact Row.second _ _ _ _
  have BX := Lib.hid (fun (z : World) (hz : Below W5.heap.size W5 z) => show (z.cell? ⟨w3.heap.size, 0, none⟩ = some (.int .i64 W1) ∧ z.cell? ⟨w3.heap.size, 1, none⟩ = some (.slice A1 rows1.length c1) ∧ z.cell? ⟨w3.heap.size + 1, 0, none⟩ = some (.int .i64 f.kind) ∧ z.cell? ⟨w3.heap.size + 1, 1, none⟩ = some (.int .i64 f.col) ∧ z.cell? ⟨w3.heap.size + 1, 2, none⟩ = some (.bool f.val.1) ∧ z.cell? ⟨w3.heap.size + 1, 3, none⟩ = some (.int .i64 f.val.2) ∧ z.cell? ⟨w3.heap.size + 1, 4, none⟩ = some (.slice f.sv.A f.sv.n f.sv.c))
    from ⟨(x1.on hz).cell 0, (x1.on hz).cell 1, (x2.on hz).cell 0, (x2.on hz).cell 1, (x2.on hz).cell 2, (x2.on hz).cell 3, (x2.on hz).cell 4⟩)
  have HRG := Lib.hid (rangeOf_ok x f 2 col W5 (hx3.in_.on B5))
  unfold feV at HRG
  have HB3 := Lib.hid (And.intro hb3 B5)
  have HW5 := Lib.hid hW5
  have z5 := BX.out _ (Below.refl _ _)
  clear hd1 hb3 hs1 ht1 hr1 hq x1 x2 B5 hW5 hc11 hc12 hx3
  go_upto_region 4 with fail
  rw [HW5.out]
  go_wp2_with fail
  refine HRG.out.mono ?_
  rintro e w6 ⟨q7, lo, hi, rfl, hq7, hb6⟩
  obtain ⟨W6, hW6⟩ : ∃ z, w6.alloc (.cells #[.int .i64 lo, .int .i64 hi] 66) = z := ⟨_, rfl⟩
  have B6 : Below W5.heap.size W5 W6 := by rw [← hW6]; exact bch hb6 (balloc (Below.refl _ _) _)
  have x6 : Row W6 w6.heap.size 66 [.int .i64 lo, .int .i64 hi] := by rw [← hW6]; exact Row.new _ _ _
  have HQ7 := Lib.hid hq7
  have H6 := Lib.hid (And.intro B6 x6)
  have HW6 := Lib.hid hW6
  have BR := Lib.hid (fun (z : World) (hz : Below W6.heap.size W6 z) => show (z.cell? ⟨w6.heap.size, 0, none⟩ = some (.int .i64 lo) ∧ z.cell? ⟨w6.heap.size, 1, none⟩ = some (.int .i64 hi)) from ⟨(x6.on hz).cell 0, (x6.on hz).cell 1⟩)
  have z6 := BR.out _ (Below.refl _ _)
  have z5 := BX.out _ B6
  have K1 := Lib.hid (fun (z : World) (hz : Below w3.heap.size w3 z) => implScanRange_ok W1 A1 c1 rows1 col lo hi z (by omega) (R1.out z hz) q HQ.out)
  have K2 := Lib.hid (fun (z : World) (hz : Below w3.heap.size w3 z) => specScanRange_ok W1 A1 c1 svs1 rows1 col lo hi z (by omega) (HSS.out.1.on hz) (HSS.out.2.on hz) q HQ.out)
  have HV : Hid (q = true → (rows1.filter (pHas lo hi col.toNat)).Perm (rows1.filter (pHas lo hi col.toNat)) ∧ ∀ r ∈ rows1.filter (pHas lo hi col.toNat), RowOk W1 r) := Lib.hid (by
    intro hq
    exact ⟨List.Perm.refl _, fun r hr => tabRows1 (HQ.out.1 hq).1 r (List.mem_filter.1 hr).1⟩)
  clear hq7 hb6 hW6 B6 x6
  go_upto_region 5 with fail
  rw [HW6.out]
  go_wp2_with fail
  refine (K1.out _ (bch HB3.out.2 H6.out.1)).mono ?_
  intro e w8 hex
  obtain ⟨W8, A8, c8, out, rfl, hT8, hr8, hc81, hc82, hb8⟩ := TabRes.read2 hex
  obtain ⟨W9, hW9⟩ : ∃ z, w8.alloc (.cells #[.int .i64 W8, .slice A8 out.length c8] 32) = z := ⟨_, rfl⟩
  have B9 : Below w8.heap.size w8 W9 := by rw [← hW9]; exact balloc (Below.refl _ _) _
  have x9 : Row W9 w8.heap.size 32 [.int .i64 W8, .slice A8 out.length c8] := by rw [← hW9]; exact Row.new _ _ _
  have H9 := Lib.hid (And.intro (bch hb8 B9) (And.intro x9 (hr8.on B9)))
  have HW9 := Lib.hid hW9
  have HT8 := Lib.hid hT8
  have HC8 := Lib.hid (And.intro hc81 hc82)
  clear hex hT8 hr8 hc81 hc82 hb8 hW9 B9 x9 z5 z6
  go_upto_region 6 with fail
  rw [HW9.out]
  have z9 := BX.out _ (bch H6.out.1 H9.out.1)
  have z9r := BR.out _ H9.out.1
  go_wp2_with fail
  refine (K2.out _ (bch HB3.out.2 (bch H6.out.1 H9.out.1))).mono ?_
  intro e w10 hex
  obtain ⟨W10, A10, c10, out10, rfl, hT10, hr10, hc101, hc102, hb10⟩ := SpecTab.read2 hex
  obtain ⟨hWe, hoe⟩ := tab_same HV.out hT10 HT8.out
  subst hWe
  subst hoe
  have hol := (tabC_bd (fun hq r hr => (HV.out hq).2 r ((HV.out hq).1.mem_iff.2 hr)) HT8.out).1
  obtain ⟨W11, hW11⟩ : ∃ z, w10.alloc (.cells #[.int .i64 W8, .slice A10 out.length c10] 32) = z := ⟨_, rfl⟩
  have B11 : Below w10.heap.size w10 W11 := by rw [← hW11]; exact balloc (Below.refl _ _) _
  have x11 : Row W11 w10.heap.size 32 [.int .i64 W8, .slice A10 out.length c10] := by rw [← hW11]; exact Row.new _ _ _
  have hb911 := bch hb10 B11
  have HE := Lib.hid (fun (z : World) (hz : Below W11.heap.size W11 z) => equalTables_ok W8 W8 A8 A10 c8 c10 out out z (by unfold maxLen; omega) (by unfold maxLen; omega) ((H9.out.2.2.on hb911).on hz) ((hr10.on B11).on hz) true (by simp))
  have H11 := Lib.hid (And.intro hb911 (H9.out.2.1.on hb911))
  have BE := Lib.hid (fun (z : World) (hz : Below W11.heap.size W11 z) => show (z.cell? ⟨w10.heap.size, 0, none⟩ = some (.int .i64 W8) ∧ z.cell? ⟨w10.heap.size, 1, none⟩ = some (.slice A10 out.length c10) ∧ z.cell? ⟨w8.heap.size, 0, none⟩ = some (.int .i64 W8) ∧ z.cell? ⟨w8.heap.size, 1, none⟩ = some (.slice A8 out.length c8)) from
    ⟨(x11.on hz).cell 0, (x11.on hz).cell 1, (H11.out.2.on hz).cell 0, (H11.out.2.on hz).cell 1⟩)
  have RO := Lib.hid (fun (z : World) (hz : Below W11.heap.size W11 z) => show Rws z z.heap.size A8 out from (H9.out.2.2.on hb911).on hz)
  have z11 := BE.out _ (Below.refl _ _)
  have HW11 := Lib.hid hW11
  have hqq : (q != q) = false := by simp
  have hqe : (q == q) = true := by simp
  have HF11 := Lib.hid (show Below W5.heap.size W5 W11 from bch H6.out.1 (bch H9.out.1 hb911))
  have HOL := Lib.hid hol
  have z11x := BX.out _ HF11.out
  clear hex hT10 hr10 hc101 hc102 hb10 hW11 B11 x11 z9 z9r hb911 hol
  go_upto_region 7 with fail
  rw [HW11.out]
  go_wp2_with fail
  refine (HE.out _ (Below.refl _ _)).mono ?_
  rintro e w12 ⟨rfl, hb12⟩
  have H12 := Lib.hid hb12
  have HF12 := Lib.hid (bch HF11.out hb12)
  have z12 := BE.out _ H12.out
  have z12x := BX.out _ HF12.out
  clear hb12 z11 z11x
  by_cases hall : ¬ (q = true ∧ q7 = true ∧ W1 = 2)
  · have HALL := Lib.hid hall
    clear hall
    cases q
    · clear hqq hqe
      go_wp2_with fail
      refine (HE.out _ H12.out).mono ?_
      rintro e w13 ⟨rfl, hb13⟩
      have H13 := Lib.hid hb13
      clear hb13
      go_wp2
      go_ret
      exact ⟨rfl, bch HB3.out.1 (bch HB3.out.2 (bch HF12.out H13.out))⟩
    cases q7
    · clear hqq hqe
      go_wp2_with fail
      refine (HE.out _ H12.out).mono ?_
      rintro e w13 ⟨rfl, hb13⟩
      have H13 := Lib.hid hb13
      clear hb13
      go_wp2
      go_ret
      exact ⟨rfl, bch HB3.out.1 (bch HB3.out.2 (bch HF12.out H13.out))⟩
    have hne : ¬ W1 = 2 := fun h => HALL.out ⟨rfl, rfl, h⟩
    have hne' : (W1 == 2) = false := by simpa using hne
    have hne'' : (W1 != 2) = true := by simpa using hne
    clear hqq hqe
    go_wp2_with fail
    refine (HE.out _ H12.out).mono ?_
    rintro e w13 ⟨rfl, hb13⟩
    have H13 := Lib.hid hb13
    clear hb13
    go_wp2
    go_ret
    exact ⟨rfl, bch HB3.out.1 (bch HB3.out.2 (bch HF12.out H13.out))⟩
  · obtain ⟨hqt, hq7t, hw2⟩ : q = true ∧ q7 = true ∧ W1 = 2 := Classical.byContradiction hall
    have hT := HQ.out.1 hqt
    have hR := HQ7.out hq7t
    have ht8 := HT8.out
    rw [hqt] at ht8
    obtain ⟨hW8, hp, hTo⟩ := tabC_ok hT.1 List.filter_sublist ht8
    rw [hw2] at hT hTo
    have hW82 : W8 = 2 := hW8.trans hw2
    have hcn : ((col.toNat : Nat) : Int) = col := Int.toNat_of_nonneg hT.2.1
    have hp' : out.Perm (rows1.filter fun r => hasV (lo, hi) (getV r col)) := by
      have e : (pHas lo hi col.toNat) = fun r => hasV (lo, hi) (getV r col) := by funext r; unfold pHas; rw [hcn]
      rw [e] at hp; exact hp
    have HF1 := Lib.hid (fil_plan hT.1 hR.1.2)
    have HF2 := Lib.hid (fil_plan hTo hR.1.2)
    have HC4 := Lib.hid (colS_ok (W := 2) ⟨by decide, by decide⟩ (fun r (hr : r ∈ rows1.filter (holdsE x)) => hT.1.2.2.2.1 r (List.mem_filter.1 hr).1)).2.2.1
    have HCL := Lib.hid (rng_cols hT.1 hR.1.2 hR.2.1 hR.2.2 hp')
    have K5 := Lib.hid (fun (z : World) (hz : Below w3.heap.size w3 z) (h : Rws z z.heap.size A8 out) => implIsSubtable_ok 2 2 A8 A1 c8 c1 out rows1 z (by have := HOL.out; unfold maxLen; omega) (by unfold maxLen; omega) h (R1.out z hz) true
        (iff_of_true rfl ⟨⟨hTo, hT.1, rfl⟩, (merged_all hTo.srt hT.1.srt).2 fun x _ => by rw [cnt_perm hp]; exact cnt_sub List.filter_sublist x⟩))
    subst hqt hq7t
    clear HQ HQ7 HT8 K1 K2 HV hall hT hR ht8 hp hTo hp' hcn HRG HD hW8
    subst hw2 hW82
    have HFI := Lib.hid (filter_ok f x ⟨1, 0, ⟨none, 0, 0⟩, ⟨none, 0, 0⟩, ⟨none, 0, 0⟩⟩ (scanP 0) w12 (ext_on HXT.out (bch HB3.out.2 HF12.out)) (scan_t 0))
    unfold feV fpV at HFI
    go_wp2_with fail
    refine HFI.out.mono ?_
    rintro e w13 ⟨g, rfl, hpg, hb13⟩
    unfold fpV
    obtain ⟨W13, hW13⟩ : ∃ z, w13.alloc (.cells #[.int .i64 g.kind, .int .i64 g.table, .slice g.es.A g.es.n g.es.c, .slice g.cs.A g.cs.n g.cs.c, .slice g.ks.A g.ks.n g.ks.c] 38) = z := ⟨_, rfl⟩
    have B13 : Below w13.heap.size w13 W13 := by rw [← hW13]; exact balloc (Below.refl _ _) _
    have x13 : Row W13 w13.heap.size 38 (fpC g) := by rw [← hW13]; exact Row.new _ _ _
    have BP := Lib.hid (fun (z : World) (hz : Below W13.heap.size W13 z) => show (z.cell? ⟨w13.heap.size, 0, none⟩ = some (.int .i64 g.kind) ∧ z.cell? ⟨w13.heap.size, 1, none⟩ = some (.int .i64 g.table) ∧ z.cell? ⟨w13.heap.size, 2, none⟩ = some (.slice g.es.A g.es.n g.es.c) ∧ z.cell? ⟨w13.heap.size, 3, none⟩ = some (.slice g.cs.A g.cs.n g.cs.c) ∧ z.cell? ⟨w13.heap.size, 4, none⟩ = some (.slice g.ks.A g.ks.n g.ks.c)) from ⟨(x13.on hz).cell 0, (x13.on hz).cell 1, (x13.on hz).cell 2, (x13.on hz).cell 3, (x13.on hz).cell 4⟩)
    have HP := Lib.hid (fun (z : World) (hz : Below W13.heap.size W13 z) => show PlT (fun _ => True) z g (filP x) from plt_on (plt_on hpg B13) hz)
    have HF13 := Lib.hid (bch HF12.out (bch hb13 B13))
    have H13 := Lib.hid (bch H12.out (bch hb13 B13))
    have HW13 := Lib.hid hW13
    obtain ⟨V14, hV14⟩ : ∃ z, W13.alloc (.cells #[.int .i64 2, .slice A1 rows1.length c1] 32) = z := ⟨_, rfl⟩
    have bv14 : Below W13.heap.size W13 V14 := by rw [← hV14]; exact balloc (Below.refl _ _) _
    have hdb := db_lit1 (R1.out W13 (bch HB3.out.2 HF13.out)) HCA.out.1 HCA.out.2 32 hV14
    have hep := implEvalPlan_ok (filP x) g [((2 : Int), rows1)] _ 1 V14 (HP.out V14 bv14).in_ (by show 1 ≤ maxLen; decide) hdb true (iff_of_true rfl ⟨⟨⟨by show 1 ≤ 1; decide, by show 1 ≤ 4; decide⟩, HF1.out.1⟩, HF1.out.2.1⟩)
    unfold fpV at hep
    rw [show ([((2 : Int), rows1)] : List Tb).length = 1 from rfl] at hep
    have HEP := Lib.hid hep
    have HV14 := Lib.hid (And.intro hV14 bv14)
    have y13 := BP.out _ (Below.refl _ _)
    have z13x := BX.out _ HF13.out
    clear hpg hb13 hW13 B13 x13 hV14 bv14 hdb hep z12 z12x
    go_upto_region 10 with fail
    rw [HW13.out]
    go_wp2_with fail
    rw [HV14.out.1]
    refine HEP.out.mono ?_
    rintro e w15 ⟨W15, v15, o15, rfl, hot, hTT, hTF, hb15⟩
    obtain ⟨hWT, hoT⟩ := hTT rfl
    rw [HF1.out.2.2] at hWT hoT
    have e1' : W15 = 2 := hWT
    have e2' : o15 = colS (rows1.filter (holdsE x)) := hoT
    clear hWT hoT hTT hTF
    subst e1'
    have hol15 : o15.length ≤ 400 := by rw [e2']; exact HC4.out
    obtain ⟨A15, c15, rfl, hc15, hc15', hr15⟩ := hot.read
    obtain ⟨V15, hV15⟩ : ∃ z, w15.alloc (.cells #[.int .i64 2, .slice A15 o15.length c15] 32) = z := ⟨_, rfl⟩
    have bv15 : Below w15.heap.size w15 V15 := by rw [← hV15]; exact balloc (Below.refl _ _) _
    have xv15 : Row V15 w15.heap.size 32 [.int .i64 2, .slice A15 o15.length c15] := by rw [← hV15]; exact Row.new _ _ _
    have b1315 : Below W13.heap.size W13 V15 := bch HV14.out.2 (bch hb15 bv15)
    have H15 := Lib.hid b1315
    have HO15 := Lib.hid (And.intro e2' hol15)
    have HX15 := Lib.hid (And.intro xv15 (hr15.on bv15))
    have HV15 := Lib.hid hV15
    obtain ⟨V16, hV16⟩ : ∃ z, V15.alloc (.cells #[.int .i64 2, .slice A8 out.length c8] 32) = z := ⟨_, rfl⟩
    have bv16 : Below V15.heap.size V15 V16 := by rw [← hV16]; exact balloc (Below.refl _ _) _
    have hdb := db_lit1 (RO.out V15 (bch H13.out b1315)) HC8.out.1 HC8.out.2 32 hV16
    have hep := implEvalPlan_ok (filP x) g [((2 : Int), out)] _ 1 V16 (HP.out V16 (bch b1315 bv16)).in_ (by show 1 ≤ maxLen; decide) hdb true (iff_of_true rfl ⟨⟨⟨by show 1 ≤ 1; decide, by show 1 ≤ 4; decide⟩, HF2.out.1⟩, HF2.out.2.1⟩)
    unfold fpV at hep
    rw [show ([((2 : Int), out)] : List Tb).length = 1 from rfl] at hep
    have HEP2 := Lib.hid hep
    have HV16 := Lib.hid (And.intro hV16 bv16)
    have y15 := BP.out _ b1315
    have z15 := BE.out _ (bch H13.out b1315)
    clear hot hb15 hc15 hc15' hr15 hV15 bv15 xv15 b1315 hV16 bv16 hdb hep y13 z13x e2' hol15
    go_upto_region 11 with fail
    rw [HV15.out]
    go_wp2_with fail
    rw [HV16.out.1]
    refine HEP2.out.mono ?_
    rintro e w17 ⟨W17, v17, o17, rfl, hot, hTT, hTF, hb17⟩
    obtain ⟨hWT, hoT⟩ := hTT rfl
    rw [HF2.out.2.2] at hWT hoT
    have e1' : W17 = 2 := hWT
    have e2' : o17 = o15 := (show o17 = colS (out.filter (holdsE x)) from hoT).trans (HCL.out.trans HO15.out.1.symm)
    clear hWT hoT hTT hTF
    subst e1' e2'
    obtain ⟨A17, c17, rfl, hc17, hc17', hr17⟩ := hot.read
    obtain ⟨V17, hV17⟩ : ∃ z, w17.alloc (.cells #[.int .i64 2, .slice A17 o17.length c17] 32) = z := ⟨_, rfl⟩
    have bv17 : Below w17.heap.size w17 V17 := by rw [← hV17]; exact balloc (Below.refl _ _) _
    have xv17 : Row V17 w17.heap.size 32 [.int .i64 2, .slice A17 o17.length c17] := by rw [← hV17]; exact Row.new _ _ _
    have b1517 : Below V15.heap.size V15 V17 := bch HV16.out.2 (bch hb17 bv17)
    have H17 := Lib.hid b1517
    have HE3 := Lib.hid (equalTables_ok 2 2 A15 A17 c15 c17 o17 o17 V17 (by have := HO15.out.2; unfold maxLen; omega) (by have := HO15.out.2; unfold maxLen; omega) (HX15.out.2.on b1517) (hr17.on bv17) true (by simp))
    have d0 : V17.cell? ⟨w15.heap.size, 0, none⟩ = some (.int .i64 2) := (HX15.out.1.on b1517).cell 0
    have d1 : V17.cell? ⟨w15.heap.size, 1, none⟩ = some (.slice A15 o17.length c15) := (HX15.out.1.on b1517).cell 1
    have d2 : V17.cell? ⟨w17.heap.size, 0, none⟩ = some (.int .i64 2) := xv17.cell 0
    have d3 : V17.cell? ⟨w17.heap.size, 1, none⟩ = some (.slice A17 o17.length c17) := xv17.cell 1
    have HV17 := Lib.hid hV17
    clear hot hb17 hc17 hc17' hr17 hV17 bv17 xv17 b1517 y15 z15
    go_upto_region 12 with fail
    rw [HV17.out]
    go_wp2_with fail
    refine HE3.out.mono ?_
    rintro e w18 ⟨rfl, hb18⟩
    have b1318 : Below W13.heap.size W13 w18 := bch H15.out (bch H17.out hb18)
    have z18 := BE.out _ (bch H13.out b1318)
    have z18x := BX.out _ (bch HF13.out b1318)
    have H18 := Lib.hid (bch HF13.out b1318)
    have KK5 := Lib.hid (K5.out w18 (bch HB3.out.2 H18.out) (RO.out w18 (bch H13.out b1318)))
    clear hb18 b1318 d0 d1 d2 d3
    go_wp2_with fail
    refine KK5.out.mono ?_
    rintro e w19 ⟨rfl, hb19⟩
    have H19 := Lib.hid hb19
    clear hb19
    go_wp2
    go_ret
    exact ⟨rfl, bch HB3.out.1 (bch HB3.out.2 (bch H18.out H19.out))⟩

namespace lawFnRangeScan
theorem own : ownKnob Tryz.prog.godebug = none := by kernel_rfl
theorem laidOut : laidOutB Tryz.prog = true := by kernel_rfl

set_option maxRecDepth 100000 in
theorem lifted (os : Os) (started : os.Started) (H : Type) (enc : TypeId × Value → H) :
    ReturnsInHanded {} Tryz.checked os 7 .any (Rows.fnRangeScanSpec.pre6 enc Tryz.prog Tryz.f7 Rows.fnRangeScanRow.domain false) (Rows.fnRangeScanSpec.post enc Tryz.prog Tryz.f7 false true false false) := by
  refine returnsInHanded_of_change (C := Tryz.checked) own started (by kernel_rfl) Tryz.func7
    (ChangeSpec.witness6 (enc := enc) (C := Tryz.checked) false ⟨#[], #[.slice none 0 0], []⟩ 8 (by kernel_rfl) (by kernel_rfl) (by kernel_rfl) (by kernel_rfl)) ?_
  intro W base args ds gs before hval0 hW hcnd _
  have hval : ∀ (j : Nat) t v, Tryz.f7.params[j]? = some t → args[j]? = some v → Value.okWide Tryz.prog W .any base t v := hval0
  have hW' := hW
  obtain ⟨p, q, hA0, hV, rfl, hfz, hnd⟩ := hW
  have hA : DataW.TrodAll enc Tryz.prog W 0 (fun _ => true) true Tryz.f7.params.toList args.toList ds p := hA0
  rw [Tryz.params7] at hA hval
  obtain ⟨v0, vs0, d0, ds0, p0, q0, hargs, rfl, rfl, h0, r0⟩ := trodAll_cons hA
  obtain ⟨rfl, rfl, rfl⟩ := trodAll_nil r0
  obtain rfl : args = #[v0] := by cases args; simp_all
  obtain ⟨rfl, rfl⟩ := trodVars_none hV
  obtain ⟨a0, len0, c0, rfl⟩ := okWide_slice Tryz.underlying50 (hval 0 50 v0 rfl rfl)
  have k0 := h0
  have lt0 : ∀ x ∈ p0, x.block < W.heap.size := by obtain ⟨m, hm⟩ := k0; exact DataW.trod_lt m _ _ _ hm
  obtain ⟨f0, h0⟩ := h0
  obtain ⟨xs0, rfl, hc0, hm0, g0, s0⟩ := open_sl (sz := 1) (ec := byteC) Tryz.underlying50 (by kernel_rfl) (by omega) byteC_length (el_byte Tryz.underlying5) h0
  clear hA0 hval0
  refine (FnRangeScan_walk a0 c0 xs0 W hc0 hm0 g0 s0).mono fun e W' ⟨he, bel⟩ => ?_
  subst he
  exact ⟨_, rfl, _, _, _, [], _, [], hW', trodAll_mk1 (shut_bool Tryz.underlying4 _), (trodAll_cons_mk (Below.trod laidOut (by kernel_rfl) (of_decide_eq_true (by kernel_rfl)) k0 bel lt0) trodAll_mk0), rfl, bel.frame _, fun h => by cases h⟩

theorem over : Rows.fnRangeScanRow.holds Tryz.pinned (OpenSpec.ofChange Rows.fnRangeScanSpec) :=
  OpenClaim.holds_of_wide 7 Tryz.f7 rfl rfl rfl rfl rfl rfl rfl ⟨rfl, rfl, rfl, rfl, rfl⟩ rfl rfl rfl rfl rfl (by kernel_rfl) Tryz.func7 (by kernel_rfl)
    (of_decide_eq_true (by kernel_rfl)) (by unfold Func.isWrapper; first | (rw [if_pos (by decide +kernel)]; kernel_rfl) | (rw [if_neg (by decide +kernel)]; exact ⟨rfl, rfl⟩))
    (fun os started H enc _ => lifted os started H enc)

theorem proved : Rows.FnRangeScanSaid := over
end lawFnRangeScan
#print axioms lawFnRangeScan.proved

end Go.Proofs.YtlhonhacehgooaaGreat
