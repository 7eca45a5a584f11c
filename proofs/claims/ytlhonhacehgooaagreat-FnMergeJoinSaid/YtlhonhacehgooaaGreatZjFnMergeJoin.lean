/-
  FnMergeJoin returns true for all bytes and leaves them as they were. No condition.
-/
import Derived.Test.YtlhonhacehgooaaGreatRows
import Derived.OpenShut
import Derived.Deep.DeepCutAuto
import Derived.Deep.RegionWith
import Derived.Lib.MinMax
import Derived.Test.YtlhonhacehgooaaGreatZjExc
import Derived.Test.YtlhonhacehgooaaGreatZjMjg
import Derived.Test.YtlhonhacehgooaaGreatZjEvp
import Derived.Test.YtlhonhacehgooaaGreatZjMkg

import Derived.Test.YtlhonhacehgooaaGreatZjAgb
import Derived.Test.YtlhonhacehgooaaGreatZjEvr
import Derived.Test.YtlhonhacehgooaaGreatZjEvX
import Derived.Test.YtlhonhacehgooaaGreatZjGeg
namespace Go.Proofs.YtlhonhacehgooaaGreat
open Go.RowKit Go.Qo
open Go.ChangeShapes Go.WideShapes Go.ChangeAt
set_option linter.unusedVariables false
set_option linter.unusedSimpArgs false

set_option maxRecDepth 20000 in
set_option maxHeartbeats 4000000 in
theorem FnMergeJoin_walk (A : Option Addr) (c : Nat) (xs : List Int) (w : World) (hc : xs.length ≤ c) (hm : c ≤ maxLen) (hg : ∀ x ∈ xs, 0 ≤ x ∧ x ≤ 255) (h : Sl 1 byteC w w.heap.size A xs) :
    Calls Tryz.prog 5 #[.slice A xs.length c] w fun e w' => e = .returned (.bool true) ∧ Below w.heap.size w w' := by
  have HD := Lib.hid (dDrawMergeJoin_ok A c xs w hc hm hg h)
  have hx63 : xs.length ≤ 9223372036854775807 := by unfold maxLen at hm; omega
  clear h hg hc hm
  by_cases hx : (1048576 : Int) < xs.length
  · clear HD
    go_enter Tryz.func5, Tryz.ntmps5
    go_wp2
    go_ret
    exact ⟨rfl, Below.refl _ _⟩
  go_enter Tryz.func5, Tryz.ntmps5
  go_wp2_with fail
  refine HD.out.mono ?_
  rintro e w3 ⟨W1, v1, W2, v2, ca, cb, rfl, hja0, hja1, hjb0, hjb1, svs1, rows1, svs2, rows2, hd1, hd2, hb3⟩
  have HJ := Lib.hid (And.intro hja0 (And.intro hja1 (And.intro hjb0 hjb1)))
  clear hja0 hja1 hjb0 hjb1
  obtain ⟨A1, c1, rfl, hc11, hc12, hs1, ht1, hl1, hr1⟩ := hd1.read
  obtain ⟨A2, c2, rfl, hc21, hc22, hs2, ht2, hl2, hr2⟩ := hd2.read
  obtain ⟨q, hq⟩ : ∃ q : Bool, q = true ↔ (((TabOk W1 rows1 ∧ 0 ≤ ca ∧ ca < W1) ∧ (TabOk W2 rows2 ∧ 0 ≤ cb ∧ cb < W2)) ∧ W1 + W2 ≤ 6) := ⟨_, @decide_eq_true_iff _ (Classical.propDecidable _)⟩
  have HQ := Lib.hid hq
  have R1 := Lib.hid (fun (z : World) (hz : Below w3.heap.size w3 z) => show Rws z z.heap.size A1 rows1 from (sls_of' hs1 ht1).on hz)
  have R2 := Lib.hid (fun (z : World) (hz : Below w3.heap.size w3 z) => show Rws z z.heap.size A2 rows2 from (sls_of' hs2 ht2).on hz)
  have K1 := Lib.hid (fun (z : World) (hz : Below w3.heap.size w3 z) => implMergeJoin_ok W1 W2 A1 A2 c1 c2 rows1 rows2 ca cb z (by omega) (by omega) (R1.out z hz) (R2.out z hz) q HQ.out)
  have K2 := Lib.hid (fun (z : World) (hz : Below w3.heap.size w3 z) => specMergeJoin_ok W1 W2 A1 A2 c1 c2 rows1 rows2 ca cb z (by omega) (by omega) (R1.out z hz) (R2.out z hz) q HQ.out)
  have HV : Hid (q = true → (mjAll rows1 rows2 ca.toNat cb.toNat).Perm (mjAll rows1 rows2 ca.toNat cb.toNat) ∧ ∀ r ∈ mjAll rows1 rows2 ca.toNat cb.toNat, RowOk (W1 + W2) r) := Lib.hid (by
    intro hq
    obtain ⟨⟨⟨h1, _, _⟩, ⟨h2, _, _⟩⟩, h6⟩ := HQ.out.1 hq
    exact ⟨List.Perm.refl _, mjAll_ok (tabRows1 h1) (tabRows1 h2) h6⟩)
  obtain ⟨W5, hW5⟩ : ∃ z, (w3.alloc (.cells #[.int .i64 W1, .slice A1 rows1.length c1] 32)).alloc (.cells #[.int .i64 W2, .slice A2 rows2.length c2] 32) = z := ⟨_, rfl⟩
  have B5 : Below w3.heap.size w3 W5 := by rw [← hW5]; exact balloc (balloc (Below.refl _ _) _) _
  have x1 : Row W5 w3.heap.size 32 [.int .i64 W1, .slice A1 rows1.length c1] := by rw [← hW5]; exact Row.first _ _ _ _
  have x2 : Row W5 (w3.heap.size + 1) 32 [.int .i64 W2, .slice A2 rows2.length c2] := by rw [← hW5]; exact Row.second _ _ _ _
  have BX := Lib.hid (fun (z : World) (hz : Below W5.heap.size W5 z) => show (z.cell? ⟨w3.heap.size, 0, none⟩ = some (.int .i64 W1) ∧ z.cell? ⟨w3.heap.size, 1, none⟩ = some (.slice A1 rows1.length c1) ∧ z.cell? ⟨w3.heap.size + 1, 0, none⟩ = some (.int .i64 W2) ∧ z.cell? ⟨w3.heap.size + 1, 1, none⟩ = some (.slice A2 rows2.length c2))
    from ⟨(x1.on hz).cell 0, (x1.on hz).cell 1, (x2.on hz).cell 0, (x2.on hz).cell 1⟩)
  have HB3 := Lib.hid (And.intro hb3 B5)
  have HW5 := Lib.hid hW5
  have HL := Lib.hid (And.intro hl1 hl2)
  have HCA := Lib.hid (And.intro hc11 (And.intro hc12 (And.intro hc21 hc22)))
  have BL5 := Lib.hid (And.intro x1.lt x2.lt)
  have z5 := BX.out _ (Below.refl _ _)
  clear hd1 hd2 hb3 hs1 hs2 ht1 ht2 hr1 hr2 hq x1 x2 B5 hW5 hc11 hc12 hc21 hc22
  go_upto_region 4 with fail
  rw [HW5.out]
  go_wp2_with fail
  refine (K1.out _ HB3.out.2).mono ?_
  intro e w8 hex
  obtain ⟨W8, A8, c8, out, rfl, hT8, hr8, hc81, hc82, hb8⟩ := TabRes.read2 hex
  obtain ⟨W9, hW9⟩ : ∃ z, w8.alloc (.cells #[.int .i64 W8, .slice A8 out.length c8] 32) = z := ⟨_, rfl⟩
  have B9 : Below w8.heap.size w8 W9 := by rw [← hW9]; exact balloc (Below.refl _ _) _
  have x9 : Row W9 w8.heap.size 32 [.int .i64 W8, .slice A8 out.length c8] := by rw [← hW9]; exact Row.new _ _ _
  have H9 := Lib.hid (And.intro (bch hb8 B9) (And.intro x9 (hr8.on B9)))
  have HW9 := Lib.hid hW9
  have HT8 := Lib.hid hT8
  have HC8 := Lib.hid (And.intro hc81 hc82)
  clear hex hT8 hr8 hc81 hc82 hb8 hW9 B9 x9 z5
  go_upto_region 5 with fail
  rw [HW9.out]
  have z9 := BX.out _ H9.out.1
  go_wp2_with fail
  refine (K2.out _ (bch HB3.out.2 H9.out.1)).mono ?_
  intro e w10 hex
  obtain ⟨W10, A10, c10, out10, rfl, hT10, hr10, hc101, hc102, hb10⟩ := SpecTab.read2 hex
  obtain ⟨hWe, hoe⟩ := tab_same HV.out hT10 HT8.out
  subst hWe
  subst hoe
  have hol := (tabC_bd (fun hq r hr => (HV.out hq).2 r ((HV.out hq).1.mem_iff.2 hr)) HT8.out).1
  obtain ⟨W11, hW11⟩ : ∃ z, w10.alloc (.cells #[.int .i64 W8, .slice A10 out.length c10] 32) = z := ⟨_, rfl⟩
  have B11 : Below w10.heap.size w10 W11 := by rw [← hW11]; exact balloc (Below.refl _ _) _
  have x11 : Row W11 w10.heap.size 32 [.int .i64 W8, .slice A10 out.length c10] := by rw [← hW11]; exact Row.new _ _ _
  have hb911 := bch hb10 B11
  have HE := Lib.hid (equalTables_ok W8 W8 A8 A10 c8 c10 out out W11 (by unfold maxLen; omega) (by unfold maxLen; omega) (H9.out.2.2.on hb911) (hr10.on B11) true (by simp))
  have H11 := Lib.hid (And.intro hb911 (H9.out.2.1.on hb911))
  have e0 : W11.cell? ⟨w10.heap.size, 0, none⟩ = some (.int .i64 W8) := x11.cell 0
  have e1 : W11.cell? ⟨w10.heap.size, 1, none⟩ = some (.slice A10 out.length c10) := x11.cell 1
  have e2 : W11.cell? ⟨w8.heap.size, 0, none⟩ = some (.int .i64 W8) := H11.out.2.cell 0
  have e3 : W11.cell? ⟨w8.heap.size, 1, none⟩ = some (.slice A8 out.length c8) := H11.out.2.cell 1
  have HW11 := Lib.hid hW11
  have hqq : (q != q) = false := by simp
  have hqe : (q == q) = true := by simp
  have X11 := Lib.hid x11
  have HR10 := Lib.hid (hr10.on B11)
  have HOL := Lib.hid hol
  clear hex hT10 hr10 hc101 hc102 hb10 hW11 B11 x11 z9 hb911 hol
  go_upto_region 6 with fail
  rw [HW11.out]
  go_wp2_with fail
  refine HE.out.mono ?_
  rintro e w12 ⟨rfl, hb12⟩
  have HBE := Lib.hid hb12
  have HB12 : Hid (Below w3.heap.size w3 w12) := Lib.hid (bch HB3.out.2 (bch H9.out.1 (bch H11.out.1 hb12)))
  have x8 := H11.out.2.on hb12
  have RT := Lib.hid (fun (z : World) (hz : Below w12.heap.size w12 z) => show Rws z z.heap.size A8 out from (H9.out.2.2.on (bch H11.out.1 hb12)).on hz)
  have BZ := Lib.hid (fun (z : World) (hz : Below w12.heap.size w12 z) => show (z.cell? ⟨w3.heap.size, 0, none⟩ = some (.int .i64 W1) ∧ z.cell? ⟨w3.heap.size, 1, none⟩ = some (.slice A1 rows1.length c1) ∧ z.cell? ⟨w3.heap.size + 1, 0, none⟩ = some (.int .i64 W2) ∧ z.cell? ⟨w3.heap.size + 1, 1, none⟩ = some (.slice A2 rows2.length c2) ∧ z.cell? ⟨w8.heap.size, 0, none⟩ = some (.int .i64 W8) ∧ z.cell? ⟨w8.heap.size, 1, none⟩ = some (.slice A8 out.length c8))
    from have h5 := BX.out z (bch H9.out.1 (bch H11.out.1 (bch hb12 hz))); ⟨h5.1, h5.2.1, h5.2.2.1, h5.2.2.2, (x8.on hz).cell 0, (x8.on hz).cell 1⟩)
  have BZB := Lib.hid (show w3.heap.size < w12.heap.size ∧ w3.heap.size + 1 < w12.heap.size ∧ w8.heap.size < w12.heap.size from
    ⟨by have := BL5.out.1; have := H9.out.1.size; have := H11.out.1.size; have := hb12.size; omega, by have := BL5.out.2; have := H9.out.1.size; have := H11.out.1.size; have := hb12.size; omega, x8.lt⟩)
  clear hb12 x8 e2 e3
  have z12 := BZ.out _ (Below.refl _ _)
  cases hq1 : q
  · -- no tables of one width: both say so
    clear hq1
    have y0 := (X11.out.on HBE.out).cell 0
    have y1 := (X11.out.on HBE.out).cell 1
    have HE2 := Lib.hid (equalTables_ok W8 W8 A8 A10 c8 c10 out out w12 (by have := HOL.out; unfold maxLen; omega) (by have := HOL.out; unfold maxLen; omega) (RT.out _ (Below.refl _ _)) (HR10.out.on HBE.out) true (by simp))
    go_wp2_with fail
    refine HE2.out.mono ?_
    rintro e w13 ⟨rfl, hb13⟩
    have H13 := Lib.hid hb13
    clear hb13
    go_wp2
    go_ret
    exact ⟨rfl, bch HB3.out.1 (bch HB12.out H13.out)⟩
  · obtain ⟨⟨⟨hT1, hca0, hca1⟩, ⟨hT2, hcb0, hcb1⟩⟩, h6⟩ := HQ.out.1 hq1
    have ht8 := HT8.out
    rw [hq1] at ht8
    have ⟨hTe, hTl, hTm⟩ := tabC_len ht8

    subst hTe
    have HMJ := Lib.hid (mj_plan hT1 hT2 ⟨hca0, hca1⟩ ⟨hcb0, hcb1⟩ h6)
    have hcol := tabC_colS (fun r hr => (HV.out hq1).2 r hr) ht8
    have HCOL := Lib.hid hcol
    clear hq1 HT8 K1 K2 HV HQ
    have hW1 := And.intro hT1.1 hT1.2.1
    have hW2 := And.intro hT2.1 hT2.2.1
    have HCB := Lib.hid HCA.out
    obtain ⟨E, hE⟩ : ∃ E : Int, W1 + cb = E := ⟨_, rfl⟩
    have HEe := Lib.hid hE
    clear hT1 hT2 hTl hTm ht8 hcol
    have HT := Lib.hid (two_ok 6 ⟨1, ca, (false, 0), ⟨none, 0, 0⟩⟩ ⟨1, E, (false, 0), ⟨none, 0, 0⟩⟩ (.mk 1 ca (false, 0) []) (.mk 1 E (false, 0) []) w12 (ExT.leaf (S := fun _ => True)) (ExT.leaf (S := fun _ => True)))
    unfold feV at HT
    have hEr : 0 ≤ E ∧ E ≤ 12 := by omega
    have hwr : IntKind.i64.wrap (W1 + cb) = E := by rw [hE]; exact IntWalk.i64_in _ (by omega)
    go_upto_region 8 with fail
    go_wp2_with fail
    refine HT.out.mono ?_
    rintro e w13 ⟨sv, rfl, hx13, hb13⟩
    unfold feV
    obtain ⟨V13, hV13⟩ : ∃ z, w13.alloc (.cells #[.int .i64 6, .int .i64 0, .bool false, .int .i64 0, .slice sv.A sv.n sv.c] 57) = z := ⟨_, rfl⟩
    have bv13 : Below w13.heap.size w13 V13 := by rw [← hV13]; exact balloc (Below.refl _ _) _
    have xv13 : Row V13 w13.heap.size 57 [.int .i64 6, .int .i64 0, .bool false, .int .i64 0, .slice sv.A sv.n sv.c] := by rw [← hV13]; exact Row.new _ _ _
    have HV13 := Lib.hid hV13
    have hx13' := ext_on hx13 bv13
    obtain ⟨V14, hV14⟩ : ∃ z, V13.alloc (.cells #[.int .i64 6, .int .i64 0, .bool false, .int .i64 0, .slice sv.A sv.n sv.c] 57) = z := ⟨_, rfl⟩
    have bv14 : Below V13.heap.size V13 V14 := by rw [← hV14]; exact balloc (Below.refl _ _) _
    have hes := exs_lit1 hx13' #[.int .i64 6, .int .i64 0, .bool false, .int .i64 0, .slice sv.A sv.n sv.c] rfl trivial 57
    rw [hV14] at hes
    have s14 : V14.heap.size = V13.heap.size + 1 := by rw [← hV14]; simp
    obtain ⟨V15, hV15⟩ : ∃ z, V14.alloc (.cells #[.int .i64 1, .int .i64 0, .slice none 0 0, .slice none 0 0, .slice none 0 0, .int .i64 1, .int .i64 1, .slice none 0 0, .slice none 0 0, .slice none 0 0] 38) = z := ⟨_, rfl⟩
    have bv15 : Below V14.heap.size V14 V15 := by rw [← hV15]; exact balloc (Below.refl _ _) _
    have hks := pls_lit2 (S := fun _ => True) (w := V14) (scan_t 0) (scan_t 1) #[.int .i64 1, .int .i64 0, .slice none 0 0, .slice none 0 0, .slice none 0 0, .int .i64 1, .int .i64 1, .slice none 0 0, .slice none 0 0, .slice none 0 0] rfl trivial 38
    rw [hV15] at hks
    have hes' := hes.keep bv15.size fun b _ hl => bv15.block b hl
    have hPT : PlT (fun _ => True) V15 ⟨4, 0, ⟨some ⟨V13.heap.size, 0, none⟩, 1, 1⟩, ⟨none, 0, 0⟩, ⟨some ⟨V14.heap.size, 0, none⟩, 2, 2⟩⟩ (mjPlan ca E) :=
      PlT.make (xs := [eqEx ca E]) (cols := []) (ps := [scanP 0, scanP 1]) (SVok.lit (show 1 ≤ maxLen by decide)) SVok.nil (SVok.lit (show 2 ≤ maxLen by decide)) hes' SlS.nil hks
    have s15 : V15.heap.size = V13.heap.size + 2 := by rw [← hV15]; simp; omega
    rw [s14] at hPT
    obtain ⟨V16, hV16⟩ : ∃ z, V15.alloc (.cells #[.int .i64 4, .int .i64 0, .slice (some ⟨V13.heap.size, 0, none⟩) 1 1, .slice none 0 0, .slice (some ⟨V13.heap.size + 1, 0, none⟩) 2 2] 38) = z := ⟨_, rfl⟩
    have bv16 : Below V15.heap.size V15 V16 := by rw [← hV16]; exact balloc (Below.refl _ _) _
    have xv16 : Row V16 (V13.heap.size + 2) 38 [.int .i64 4, .int .i64 0, .slice (some ⟨V13.heap.size, 0, none⟩) 1 1, .slice none 0 0, .slice (some ⟨V13.heap.size + 1, 0, none⟩) 2 2] := by rw [← s15, ← hV16]; exact Row.new _ _ _
    have s16 : V16.heap.size = V13.heap.size + 3 := by rw [← hV16]; simp; omega
    obtain ⟨V17, hV17⟩ : ∃ z, V16.alloc (.cells #[.int .i64 W1, .slice A1 rows1.length c1, .int .i64 W2, .slice A2 rows2.length c2] 32) = z := ⟨_, rfl⟩
    have bv17 : Below V16.heap.size V16 V17 := by rw [← hV17]; exact balloc (Below.refl _ _) _
    have B1216 : Below w12.heap.size w12 V16 := bch hb13 (bch bv13 (bch bv14 (bch bv15 bv16)))
    have hdb := db_lit2 (R1.out V16 (bch HB12.out B1216)) (R2.out V16 (bch HB12.out B1216)) HCB.out.1 HCB.out.2.1 HCB.out.2.2.1 HCB.out.2.2.2 32 hV17
    have hPI := (plt_on hPT (bch bv16 bv17)).in_
    have HMJ' := HMJ.out
    rw [hE] at HMJ'
    have hep := implEvalPlan_ok (mjPlan ca E) _ [(W1, rows1), (W2, rows2)] _ 2 V17 hPI (by show 2 ≤ maxLen; decide) hdb true (iff_of_true rfl ⟨⟨⟨by show 1 ≤ 2; decide, by show 2 ≤ 4; decide⟩, HMJ'.1⟩, HMJ'.2.1⟩)
    unfold fpV at hep
    rw [show ([(W1, rows1), (W2, rows2)] : List Tb).length = 2 from rfl] at hep
    have HEP := Lib.hid hep
    have BZ16 := BZ.out V16 B1216
    have BZ13 := BZ.out V13 (bch hb13 bv13)
    have HH := Lib.hid (And.intro B1216 (And.intro bv17 (And.intro (bch hb13 bv13) HMJ'.2.2)))
    have HVs := Lib.hid (And.intro hV14 (And.intro hV15 (And.intro hV16 hV17)))
    have HR16 := Lib.hid xv16
    have d0 : V13.cell? ⟨w13.heap.size, 0, none⟩ = some (.int .i64 6) := xv13.cell 0
    have d1 : V13.cell? ⟨w13.heap.size, 1, none⟩ = some (.int .i64 0) := xv13.cell 1
    have d2 : V13.cell? ⟨w13.heap.size, 2, none⟩ = some (.bool false) := xv13.cell 2
    have d3 : V13.cell? ⟨w13.heap.size, 3, none⟩ = some (.int .i64 0) := xv13.cell 3
    have d4 : V13.cell? ⟨w13.heap.size, 4, none⟩ = some (.slice sv.A sv.n sv.c) := xv13.cell 4
    have e0 : V16.cell? ⟨V13.heap.size + 2, 0, none⟩ = some (.int .i64 4) := xv16.cell 0
    have e1 : V16.cell? ⟨V13.heap.size + 2, 1, none⟩ = some (.int .i64 0) := xv16.cell 1
    have e2 : V16.cell? ⟨V13.heap.size + 2, 2, none⟩ = some (.slice (some ⟨V13.heap.size, 0, none⟩) 1 1) := xv16.cell 2
    have e3 : V16.cell? ⟨V13.heap.size + 2, 3, none⟩ = some (.slice none 0 0) := xv16.cell 3
    have e4 : V16.cell? ⟨V13.heap.size + 2, 4, none⟩ = some (.slice (some ⟨V13.heap.size + 1, 0, none⟩) 2 2) := xv16.cell 4
    have S14 := Lib.hid s14
    have S15 := Lib.hid s15
    have S16 := Lib.hid s16
    clear hx13 hb13 hV13 hx13' bv13 xv13 hV14 bv14 hes hV15 bv15 hks hes' hPT s14 s15 hV16 bv16 xv16 hV17 bv17 B1216 hdb hPI hep HMJ' HT s16
    go_upto_region 9 with fail
    rw [HV13.out]
    go_upto_region 10 with fail
    rw [HVs.out.1, HVs.out.2.1, HVs.out.2.2.1]
    go_wp2_with fail
    rw [HVs.out.2.2.2]
    refine HEP.out.mono ?_
    rintro e w18 ⟨W18, v18, o18, rfl, hot, hTT, hTF, hb18⟩
    obtain ⟨hWT, hoT⟩ := hTT rfl
    rw [HH.out.2.2.2] at hWT hoT
    have e1' : W18 = W1 + W2 := hWT
    have e2' : o18 = out := hoT.trans HCOL.out.symm
    clear hWT hoT hTT hTF
    subst e1' e2'
    obtain ⟨A18, c18, rfl, hc18, hc18', hr18⟩ := hot.read
    obtain ⟨V18, hV18⟩ : ∃ z, w18.alloc (.cells #[.int .i64 (W1 + W2), .slice A18 o18.length c18] 32) = z := ⟨_, rfl⟩
    have bv18 : Below w18.heap.size w18 V18 := by rw [← hV18]; exact balloc (Below.refl _ _) _
    have xv18 : Row V18 w18.heap.size 32 [.int .i64 (W1 + W2), .slice A18 o18.length c18] := by rw [← hV18]; exact Row.new _ _ _
    have B18 : Below w12.heap.size w12 V18 := bch HH.out.1 (bch HH.out.2.1 (bch hb18 bv18))
    have z18 := BZ.out _ B18
    have f0 : V18.cell? ⟨w18.heap.size, 0, none⟩ = some (.int .i64 (W1 + W2)) := xv18.cell 0
    have f1 : V18.cell? ⟨w18.heap.size, 1, none⟩ = some (.slice A18 o18.length c18) := xv18.cell 1
    have HE3 := Lib.hid (equalTables_ok (W1 + W2) (W1 + W2) A18 A8 c18 c8 o18 o18 V18 (by have := HOL.out; unfold maxLen; omega) (by have := HOL.out; unfold maxLen; omega) (hr18.on bv18) (RT.out _ B18) true (by simp))
    have HB18 := Lib.hid B18
    have HV18 := Lib.hid hV18
    clear hot hc18 hc18' hr18 hV18 bv18 xv18 B18 hb18 BZ13 BZ16 z12
    go_upto_region 11 with fail
    rw [HV18.out]
    go_wp2_with fail
    refine HE3.out.mono ?_
    rintro e w19 ⟨rfl, hb19⟩
    have H19 := Lib.hid hb19
    clear hb19
    go_wp2
    go_ret
    exact ⟨rfl, bch HB3.out.1 (bch HB12.out (bch HB18.out H19.out))⟩

namespace lawFnMergeJoin
theorem own : ownKnob Tryz.prog.godebug = none := by kernel_rfl
theorem laidOut : laidOutB Tryz.prog = true := by kernel_rfl

set_option maxRecDepth 100000 in
theorem lifted (os : Os) (started : os.Started) (H : Type) (enc : TypeId × Value → H) :
    ReturnsInHanded {} Tryz.checked os 5 .any (Rows.fnMergeJoinSpec.pre6 enc Tryz.prog Tryz.f5 Rows.fnMergeJoinRow.domain false) (Rows.fnMergeJoinSpec.post enc Tryz.prog Tryz.f5 false true false false) := by
  refine returnsInHanded_of_change (C := Tryz.checked) own started (by kernel_rfl) Tryz.func5
    (ChangeSpec.witness6 (enc := enc) (C := Tryz.checked) false ⟨#[], #[.slice none 0 0], []⟩ 8 (by kernel_rfl) (by kernel_rfl) (by kernel_rfl) (by kernel_rfl)) ?_
  intro W base args ds gs before hval0 hW hcnd _
  have hval : ∀ (j : Nat) t v, Tryz.f5.params[j]? = some t → args[j]? = some v → Value.okWide Tryz.prog W .any base t v := hval0
  have hW' := hW
  obtain ⟨p, q, hA0, hV, rfl, hfz, hnd⟩ := hW
  have hA : DataW.TrodAll enc Tryz.prog W 0 (fun _ => true) true Tryz.f5.params.toList args.toList ds p := hA0
  rw [Tryz.params5] at hA hval
  obtain ⟨v0, vs0, d0, ds0, p0, q0, hargs, rfl, rfl, h0, r0⟩ := trodAll_cons hA
  obtain ⟨rfl, rfl, rfl⟩ := trodAll_nil r0
  obtain rfl : args = #[v0] := by cases args; simp_all
  obtain ⟨rfl, rfl⟩ := trodVars_none hV
  obtain ⟨a0, len0, c0, rfl⟩ := okWide_slice Tryz.underlying50 (hval 0 50 v0 rfl rfl)
  have k0 := h0
  have lt0 : ∀ x ∈ p0, x.block < W.heap.size := by obtain ⟨m, hm⟩ := k0; exact DataW.trod_lt m _ _ _ hm
  obtain ⟨f0, h0⟩ := h0
  obtain ⟨xs0, rfl, hc0, hm0, g0, s0⟩ := open_sl (sz := 1) (ec := byteC) Tryz.underlying50 (by kernel_rfl) (by omega) byteC_length (el_byte Tryz.underlying5) h0
  clear hA0 hval0
  refine (FnMergeJoin_walk a0 c0 xs0 W hc0 hm0 g0 s0).mono fun e W' ⟨he, bel⟩ => ?_
  subst he
  exact ⟨_, rfl, _, _, _, [], _, [], hW', trodAll_mk1 (shut_bool Tryz.underlying4 _), (trodAll_cons_mk (Below.trod laidOut (by kernel_rfl) (of_decide_eq_true (by kernel_rfl)) k0 bel lt0) trodAll_mk0), rfl, bel.frame _, fun h => by cases h⟩

theorem over : Rows.fnMergeJoinRow.holds Tryz.pinned (OpenSpec.ofChange Rows.fnMergeJoinSpec) :=
  OpenClaim.holds_of_wide 5 Tryz.f5 rfl rfl rfl rfl rfl rfl rfl ⟨rfl, rfl, rfl, rfl, rfl⟩ rfl rfl rfl rfl rfl (by kernel_rfl) Tryz.func5 (by kernel_rfl)
    (of_decide_eq_true (by kernel_rfl)) (by unfold Func.isWrapper; first | (rw [if_pos (by decide +kernel)]; kernel_rfl) | (rw [if_neg (by decide +kernel)]; exact ⟨rfl, rfl⟩))
    (fun os started H enc _ => lifted os started H enc)

theorem proved : Rows.FnMergeJoinSaid := over
end lawFnMergeJoin
#print axioms lawFnMergeJoin.proved

end Go.Proofs.YtlhonhacehgooaaGreat
