/-
  FnGroupBy returns true for all bytes and leaves them as they were. No condition.
-/
import Derived.Test.YtlhonhacehgooaaGreatRows
import Derived.OpenShut
import Derived.Deep.DeepCutAuto
import Derived.Test.YtlhonhacehgooaaGreatZgGrb
import Derived.Test.YtlhonhacehgooaaGreatZgDrG
import Derived.Test.YtlhonhacehgooaaGreatZgMkg
import Derived.Test.YtlhonhacehgooaaGreatZgAgb
import Derived.Test.YtlhonhacehgooaaGreatZgEvr
import Derived.Test.YtlhonhacehgooaaGreatZgEvX
import Derived.Test.YtlhonhacehgooaaGreatZgEvp
namespace Go.Proofs.YtlhonhacehgooaaGreat
open Go.RowKit Go.Qo
open Go.ChangeShapes Go.WideShapes Go.ChangeAt
set_option linter.unusedVariables false
set_option linter.unusedSimpArgs false

set_option maxRecDepth 20000 in
set_option maxHeartbeats 4000000 in
theorem FnGroupBy_walk (A : Option Addr) (c : Nat) (xs : List Int) (w : World) (hc : xs.length ≤ c) (hm : c ≤ maxLen) (hg : ∀ x ∈ xs, 0 ≤ x ∧ x ≤ 255) (h : Sl 1 byteC w w.heap.size A xs) :
    Calls Tryz.prog 6 #[.slice A xs.length c] w fun e w' => e = .returned (.bool true) ∧ Below w.heap.size w w' := by
  have HD := Lib.hid (dDrawGroupBy_ok A c xs w hc hm hg h)
  have hx63 : xs.length ≤ 9223372036854775807 := by unfold maxLen at hm; omega
  clear h hg hc hm
  by_cases hx : (1048576 : Int) < xs.length
  · clear HD
    go_enter Tryz.func6, Tryz.ntmps6
    go_wp2
    go_ret
    exact ⟨rfl, Below.refl _ _⟩
  go_enter Tryz.func6, Tryz.ntmps6
  go_wp2_with fail
  refine HD.out.mono ?_
  rintro e w3 ⟨W1, v1, svs1, rows1, cols, A', c', kind, col, rfl, hd1, hsc, hcl, hcc, hb3⟩
  obtain ⟨A1, c1, rfl, hc11, hc12, hs1, ht1, hl1, hr1⟩ := hd1.read
  have HCC := Lib.hid hcc
  clear hcc
  obtain ⟨q, hq⟩ := bool_ofG (P := GbOk W1 rows1 cols kind col)
  have HQ := Lib.hid hq
  have R1 := Lib.hid (fun (z : World) (hz : Below w3.heap.size w3 z) => show Rws z z.heap.size A1 rows1 from (sls_of' hs1 ht1).on hz)
  have RC := Lib.hid (fun (z : World) (hz : Below w3.heap.size w3 z) => hsc.on hz)
  have K1 := Lib.hid (fun (z : World) (hz : Below w3.heap.size w3 z) => implGroupBy_ok W1 A1 A' c1 c' rows1 cols kind col z (by omega) (by omega) (R1.out z hz) (RC.out z hz) q HQ.out)
  have K2 := Lib.hid (fun (z : World) (hz : Below w3.heap.size w3 z) => specGroupBy_ok W1 A1 A' c1 c' rows1 cols kind col z (by omega) (by omega) (R1.out z hz) (RC.out z hz) q HQ.out)
  have HV : Hid (q = true → (grpRows cols col kind rows1).Perm (grpRows cols col kind rows1) ∧ ∀ r ∈ grpRows cols col kind rows1, RowOk ((cols.length : Int) + 1) r) := Lib.hid (by
    intro hq
    obtain ⟨h1, h2, h3, h4, h5⟩ := HQ.out.1 hq
    refine ⟨List.Perm.refl _, fun r hr => ?_⟩
    obtain ⟨k, hk, rfl⟩ := List.mem_map.1 hr
    exact grpRow_ok (tabRows1 h1) (colsOk_mem h2) h4 h3 hk)
  obtain ⟨gr, hgr⟩ : ∃ gr, grpRows cols col kind rows1 = gr := ⟨_, rfl⟩
  obtain ⟨V, hV⟩ : ∃ V : Int, (cols.length : Int) + 1 = V := ⟨_, rfl⟩
  rw [hgr, hV] at K1 K2 HV
  have HGR := Lib.hid hgr
  have HCL := Lib.hid hcl
  obtain ⟨W5, hW5⟩ : ∃ z, w3.alloc (.cells #[.int .i64 W1, .slice A1 rows1.length c1] 32) = z := ⟨_, rfl⟩
  have B5 : Below w3.heap.size w3 W5 := by rw [← hW5]; exact balloc (Below.refl _ _) _
  have x1 : Row W5 w3.heap.size 32 [.int .i64 W1, .slice A1 rows1.length c1] := by rw [← hW5]; exact Row.new _ _ _
  have BX := Lib.hid (fun (z : World) (hz : Below W5.heap.size W5 z) => show (z.cell? ⟨w3.heap.size, 0, none⟩ = some (.int .i64 W1) ∧ z.cell? ⟨w3.heap.size, 1, none⟩ = some (.slice A1 rows1.length c1))
    from ⟨(x1.on hz).cell 0, (x1.on hz).cell 1⟩)
  have HB3 := Lib.hid (And.intro hb3 B5)
  have HLT5 := Lib.hid x1.lt
  have HW5 := Lib.hid hW5
  have HL := Lib.hid (And.intro hl1 hr1)
  have HCA := Lib.hid (And.intro hc11 hc12)
  have z5 := BX.out _ (Below.refl _ _)
  clear hd1 hb3 hs1 ht1 hr1 hq x1 B5 hW5 hc11 hc12 hsc hcl hgr hV
  go_upto_region 4 with fail
  rw [HW5.out]
  go_wp2_with fail
  refine (K1.out _ HB3.out.2).mono ?_
  intro e w8 hex
  obtain ⟨W8, A8, c8, out, rfl, hT8, hr8, hc81, hc82, hb8⟩ := TabRes.read2 hex
  obtain ⟨W9, hW9⟩ : ∃ z, w8.alloc (.cells #[.int .i64 W8, .slice A8 out.length c8] 32) = z := ⟨_, rfl⟩
  have B9 : Below w8.heap.size w8 W9 := by rw [← hW9]; exact balloc (Below.refl _ _) _
  have x9 : Row W9 w8.heap.size 32 [.int .i64 W8, .slice A8 out.length c8] := by rw [← hW9]; exact Row.new _ _ _
  have H9 := Lib.hid (And.intro (bch hb8 B9) (And.intro x9 (hr8.on B9)))
  have HW9 := Lib.hid hW9
  have HT8 := Lib.hid hT8
  clear hex hT8 hr8 hc81 hc82 hb8 hW9 B9 x9 z5
  go_upto_region 5 with fail
  rw [HW9.out]
  have z9 := BX.out _ H9.out.1
  go_wp2_with fail
  refine (K2.out _ (bch HB3.out.2 H9.out.1)).mono ?_
  intro e w10 hex
  obtain ⟨W10, A10, c10, out10, rfl, hT10, hr10, hc101, hc102, hb10⟩ := SpecTab.read2 hex
  obtain ⟨hWe, hoe⟩ := tab_same HV.out hT10 HT8.out
  subst hWe
  subst hoe
  have hol := (tabC_bd (fun hq r hr => (HV.out hq).2 r ((HV.out hq).1.mem_iff.2 hr)) HT8.out).1
  obtain ⟨W11, hW11⟩ : ∃ z, w10.alloc (.cells #[.int .i64 W8, .slice A10 out.length c10] 32) = z := ⟨_, rfl⟩
  have B11 : Below w10.heap.size w10 W11 := by rw [← hW11]; exact balloc (Below.refl _ _) _
  have x11 : Row W11 w10.heap.size 32 [.int .i64 W8, .slice A10 out.length c10] := by rw [← hW11]; exact Row.new _ _ _
  have hb911 := bch hb10 B11
  have HE := Lib.hid (fun (z : World) (hz : Below W11.heap.size W11 z) => equalTables_ok W8 W8 A8 A10 c8 c10 out out z (by unfold maxLen; omega) (by unfold maxLen; omega) ((H9.out.2.2.on hb911).on hz) ((hr10.on B11).on hz) true (by simp))
  have H11 := Lib.hid (And.intro hb911 (H9.out.2.1.on hb911))
  have BE := Lib.hid (fun (z : World) (hz : Below W11.heap.size W11 z) => show (z.cell? ⟨w10.heap.size, 0, none⟩ = some (.int .i64 W8) ∧ z.cell? ⟨w10.heap.size, 1, none⟩ = some (.slice A10 out.length c10) ∧ z.cell? ⟨w8.heap.size, 0, none⟩ = some (.int .i64 W8) ∧ z.cell? ⟨w8.heap.size, 1, none⟩ = some (.slice A8 out.length c8)) from
    ⟨(x11.on hz).cell 0, (x11.on hz).cell 1, (H11.out.2.on hz).cell 0, (H11.out.2.on hz).cell 1⟩)
  have z11 := BE.out _ (Below.refl _ _)
  have HW11 := Lib.hid hW11
  have hqq : (q != q) = false := by simp
  have hqe : (q == q) = true := by simp
  have HF11 := Lib.hid (show Below W5.heap.size W5 W11 from bch H9.out.1 hb911)
  have HOL := Lib.hid hol
  clear hex hT10 hr10 hc101 hc102 hb10 hW11 B11 x11 z9 hb911 hol
  go_upto_region 6 with fail
  rw [HW11.out]
  go_wp2_with fail
  refine (HE.out _ (Below.refl _ _)).mono ?_
  rintro e w12 ⟨rfl, hb12⟩
  have H12 := Lib.hid hb12
  have HF12 := Lib.hid (bch HF11.out hb12)
  clear hb12 z11
  cases hq1 : q
  · clear hq1
    have z12 := BE.out _ H12.out
    go_wp2_with fail
    refine (HE.out _ H12.out).mono ?_
    rintro e w13 ⟨rfl, hb13⟩
    have H13 := Lib.hid hb13
    clear hb13
    go_wp2
    go_ret
    exact ⟨rfl, bch HB3.out.1 (bch HB3.out.2 (bch HF12.out H13.out))⟩
  · subst hq1
    have hok := HQ.out.1 rfl
    have hl16 := HL.out.1
    have hcl16 := HCL.out
    have hk5 := hok.2.2.2.2
    have Z1 : GbOk W1 rows1 cols 1 col := ⟨hok.1, hok.2.1, hok.2.2.1, hok.2.2.2.1, by omega, by omega⟩
    have HZ1 := Lib.hid Z1
    have hgp := gr_plan hok.1 hok.2.1 hok.2.2.1
    have hgr1 : ∀ r ∈ grpRows cols col 1 rows1, RowOk ((cols.length : Int) + 1) r := fun r hr => by
      obtain ⟨k, hk, rfl⟩ := List.mem_map.1 hr
      exact grpRow_ok (tabRows1 hok.1) (colsOk_mem hok.2.1) hok.2.2.2.1 hok.2.2.1 hk
    have hks : ∀ r ∈ rows1, KeyS cols r := fun r h => keyS_ok (tabRows1 hok.1 r h) (colsOk_mem hok.2.1)
    have hpa := grp_perm (col := col) (kind := 1) hks
    have hpb := grp_perm (col := col) (kind := kind) hks
    have hlen : (grpRows cols col 1 rows1).length = (grpRows cols col kind rows1).length := by
      rw [← hpa.length_eq, ← hpb.length_eq, srtRows_length]
    have hcs : colS (srtRows cols 0 1 rows1) = colS (grpRows cols col 1 rows1) := by
      rw [srtRows_count cols 0 col]
      exact colS_perm hpa fun r hr => hgr1 r (hpa.mem_iff.1 hr)
    rw [hcs] at hgp
    have HGP := Lib.hid hgp
    rw [HGR.out] at hlen
    have HLN := Lib.hid hlen
    have HG1 := Lib.hid hgr1
    have K3 := Lib.hid (fun (z : World) (hz : Below w3.heap.size w3 z) => implGroupBy_ok W1 A1 A' c1 c' rows1 cols 1 col z (by omega) (by omega) (R1.out z hz) (RC.out z hz) true (iff_of_true rfl HZ1.out))
    obtain ⟨_, hl8, _⟩ := tabC_len HT8.out
    have HL8 := Lib.hid hl8
    clear hok hk5 Z1 hgp hgr1 hks hpa hpb hlen hcs K1 K2 HV HT8 HQ hl8
    have z12 := BX.out _ HF12.out
    go_wp2_with fail
    refine (K3.out _ (bch HB3.out.2 HF12.out)).mono ?_
    intro e w14 hex
    obtain ⟨W14, A14, c14, o14, rfl, hT14, hr14, hc14, hc14', hb14⟩ := TabRes.read2 hex
    have ho14 := tabC_colS HG1.out hT14
    obtain ⟨hW14, hl14, _⟩ := tabC_len hT14
    obtain ⟨W15, hW15⟩ : ∃ z, w14.alloc (.cells #[.int .i64 W14, .slice A14 o14.length c14] 32) = z := ⟨_, rfl⟩
    have B15 : Below w14.heap.size w14 W15 := by rw [← hW15]; exact balloc (Below.refl _ _) _
    have x15 : Row W15 w14.heap.size 32 [.int .i64 W14, .slice A14 o14.length c14] := by rw [← hW15]; exact Row.new _ _ _
    have HW15 := Lib.hid hW15
    have HF15 := Lib.hid (show Below W5.heap.size W5 W15 from bch HF12.out (bch hb14 B15))
    have H15 := Lib.hid (And.intro x15 (hr14.on B15))
    have HO14 := Lib.hid (And.intro ho14 (And.intro hW14 (show o14.length = out.length by rw [hl14, HL8.out, HLN.out])))
    have HC14 := Lib.hid (And.intro hc14 hc14')
    have BY := Lib.hid (fun (z : World) (hz : Below W15.heap.size W15 z) => show (z.cell? ⟨w14.heap.size, 0, none⟩ = some (.int .i64 W14) ∧ z.cell? ⟨w14.heap.size, 1, none⟩ = some (.slice A14 o14.length c14)) from ⟨(x15.on hz).cell 0, (x15.on hz).cell 1⟩)
    have hb1215 := bch H12.out (bch hb14 B15)
    have HX15 := Lib.hid hb1215
    clear hex hT14 hr14 hb14 ho14 hW14 hl14 hc14 hc14' hW15 B15 x15 z12 hb1215
    go_upto_region 9 with fail
    rw [HW15.out]
    have z15 := BX.out _ HF15.out
    have hlt15 : w3.heap.size < W15.heap.size := by have := HLT5.out; have := HF15.out.size; omega
    obtain ⟨V16, hV16⟩ : ∃ z, W15.alloc (.cells #[.int .i64 1, .int .i64 0, .slice none 0 0, .slice none 0 0, .slice none 0 0] 38) = z := ⟨_, rfl⟩
    have bv16 : Below W15.heap.size W15 V16 := by rw [← hV16]; exact balloc (Below.refl _ _) _
    have hks := pls_lit1 (S := fun _ => True) (w := W15) (scan_t 0) #[.int .i64 1, .int .i64 0, .slice none 0 0, .slice none 0 0, .slice none 0 0] rfl trivial 38
    rw [hV16] at hks
    obtain ⟨V17, hV17⟩ : ∃ z, V16.alloc (.cells #[.int .i64 W1, .slice A1 rows1.length c1] 32) = z := ⟨_, rfl⟩
    have bv17 : Below V16.heap.size V16 V17 := by rw [← hV17]; exact balloc (Below.refl _ _) _
    have s16 : V16.heap.size = W15.heap.size + 1 := by rw [← hV16]; simp
    have hdb := db_lit1 (R1.out V16 (bch HB3.out.2 (bch HF15.out bv16))) HCA.out.1 HCA.out.2 32 hV17
    have hsl := RC.out V16 (bch HB3.out.2 (bch HF15.out bv16))
    have hcl16 := HCL.out
    have hPT : PlT (fun _ => True) V16 ⟨8, 0, ⟨none, 0, 0⟩, ⟨A', cols.length, c'⟩, ⟨some ⟨W15.heap.size, 0, none⟩, 1, 1⟩⟩ (grPlan cols) :=
      PlT.make (xs := []) (cols := cols) (ps := [scanP 0]) SVok.nil ⟨rfl, HCC.out.1, HCC.out.2⟩ (SVok.lit (show 1 ≤ maxLen by decide)) ExsT.nil (fun h0 => by obtain ⟨b, off, hA, hB, hc⟩ := hsl h0; exact ⟨b, off, hA, trivial, hB, hc⟩) hks (by simp) (by omega) (by simp)
    have hep := implEvalPlan_ok (grPlan cols) _ [(W1, rows1)] _ 1 V17 (plt_on hPT bv17).in_ (by show 1 ≤ maxLen; decide) hdb true (iff_of_true rfl ⟨⟨⟨by show 1 ≤ 1; decide, by show 1 ≤ 4; decide⟩, HGP.out.1⟩, HGP.out.2.1⟩)
    unfold fpV at hep
    rw [show ([(W1, rows1)] : List Tb).length = 1 from rfl, s16] at hep
    have HEP := Lib.hid hep
    have z16 := BX.out V16 (bch HF15.out bv16)
    have HVs := Lib.hid (And.intro hV16 hV17)
    have HB17 := Lib.hid (show Below W15.heap.size W15 V17 from bch bv16 bv17)
    clear hV16 bv16 hks hV17 bv17 s16 hdb hsl hcl16 hPT hep
    go_wp2_with fail
    rw [HVs.out.1, HVs.out.2]
    refine HEP.out.mono ?_
    rintro e w18 ⟨W18, v18, o18, rfl, hot, hTT, hTF, hb18⟩
    obtain ⟨hWT, hoT⟩ := hTT rfl
    rw [HGP.out.2.2] at hWT hoT
    have e1' : W18 = W14 := hWT.trans HO14.out.2.1.symm
    have e2' : o18 = o14 := hoT.trans HO14.out.1.symm
    clear hWT hoT hTT hTF
    subst e1' e2'
    obtain ⟨A18, c18, rfl, hc18, hc18', hr18⟩ := hot.read
    obtain ⟨V18, hV18⟩ : ∃ z, w18.alloc (.cells #[.int .i64 W18, .slice A18 o18.length c18] 32) = z := ⟨_, rfl⟩
    have bv18 : Below w18.heap.size w18 V18 := by rw [← hV18]; exact balloc (Below.refl _ _) _
    have xv18 : Row V18 w18.heap.size 32 [.int .i64 W18, .slice A18 o18.length c18] := by rw [← hV18]; exact Row.new _ _ _
    have B18 : Below W15.heap.size W15 V18 := bch HB17.out (bch hb18 bv18)
    have z18 := BY.out _ B18
    have f0 : V18.cell? ⟨w18.heap.size, 0, none⟩ = some (.int .i64 W18) := xv18.cell 0
    have f1 : V18.cell? ⟨w18.heap.size, 1, none⟩ = some (.slice A18 o18.length c18) := xv18.cell 1
    have hl14 : o18.length ≤ 400 := by rw [HO14.out.2.2]; exact HOL.out
    have HE3 := Lib.hid (equalTables_ok W18 W18 A14 A18 c14 c18 o18 o18 V18 (by unfold maxLen; omega) (by unfold maxLen; omega) (H15.out.2.on B18) (hr18.on bv18) true (by simp))
    have HB18 := Lib.hid B18
    have HV18 := Lib.hid hV18
    clear hot hc18 hc18' hr18 hV18 bv18 xv18 B18 hb18 z16 z15 hl14
    go_upto_region 10 with fail
    rw [HV18.out]
    go_wp2_with fail
    refine HE3.out.mono ?_
    rintro e w19 ⟨rfl, hb19⟩
    have B19 := bch HB18.out hb19
    have z19 := BY.out _ B19
    have m0 := H11.out.2.on (bch HX15.out B19)
    have m1 : w19.cell? ⟨w8.heap.size, 1, none⟩ = some (.slice A8 out.length c8) := m0.cell 1
    have hle : (((o18.length : Nat) : Int) == ((out.length : Nat) : Int)) = true := by rw [HO14.out.2.2]; simp
    have H19 := Lib.hid (bch HF15.out B19)
    clear hb19 B19 m0
    go_wp2
    go_ret
    exact ⟨rfl, bch HB3.out.1 (bch HB3.out.2 H19.out)⟩

namespace lawFnGroupBy
theorem own : ownKnob Tryz.prog.godebug = none := by kernel_rfl
theorem laidOut : laidOutB Tryz.prog = true := by kernel_rfl

set_option maxRecDepth 100000 in
theorem lifted (os : Os) (started : os.Started) (H : Type) (enc : TypeId × Value → H) :
    ReturnsInHanded {} Tryz.checked os 6 .any (Rows.fnGroupBySpec.pre6 enc Tryz.prog Tryz.f6 Rows.fnGroupByRow.domain false) (Rows.fnGroupBySpec.post enc Tryz.prog Tryz.f6 false true false false) := by
  refine returnsInHanded_of_change (C := Tryz.checked) own started (by kernel_rfl) Tryz.func6
    (ChangeSpec.witness6 (enc := enc) (C := Tryz.checked) false ⟨#[], #[.slice none 0 0], []⟩ 8 (by kernel_rfl) (by kernel_rfl) (by kernel_rfl) (by kernel_rfl)) ?_
  intro W base args ds gs before hval0 hW hcnd _
  have hval : ∀ (j : Nat) t v, Tryz.f6.params[j]? = some t → args[j]? = some v → Value.okWide Tryz.prog W .any base t v := hval0
  have hW' := hW
  obtain ⟨p, q, hA0, hV, rfl, hfz, hnd⟩ := hW
  have hA : DataW.TrodAll enc Tryz.prog W 0 (fun _ => true) true Tryz.f6.params.toList args.toList ds p := hA0
  rw [Tryz.params6] at hA hval
  obtain ⟨v0, vs0, d0, ds0, p0, q0, hargs, rfl, rfl, h0, r0⟩ := trodAll_cons hA
  obtain ⟨rfl, rfl, rfl⟩ := trodAll_nil r0
  obtain rfl : args = #[v0] := by cases args; simp_all
  obtain ⟨rfl, rfl⟩ := trodVars_none hV
  obtain ⟨a0, len0, c0, rfl⟩ := okWide_slice Tryz.underlying50 (hval 0 50 v0 rfl rfl)
  have k0 := h0
  have lt0 : ∀ x ∈ p0, x.block < W.heap.size := by obtain ⟨m, hm⟩ := k0; exact DataW.trod_lt m _ _ _ hm
  obtain ⟨f0, h0⟩ := h0
  obtain ⟨xs0, rfl, hc0, hm0, g0, s0⟩ := open_sl (sz := 1) (ec := byteC) Tryz.underlying50 (by kernel_rfl) (by omega) byteC_length (el_byte Tryz.underlying5) h0
  clear hA0 hval0
  refine (FnGroupBy_walk a0 c0 xs0 W hc0 hm0 g0 s0).mono fun e W' ⟨he, bel⟩ => ?_
  subst he
  exact ⟨_, rfl, _, _, _, [], _, [], hW', trodAll_mk1 (shut_bool Tryz.underlying4 _), (trodAll_cons_mk (Below.trod laidOut (by kernel_rfl) (of_decide_eq_true (by kernel_rfl)) k0 bel lt0) trodAll_mk0), rfl, bel.frame _, fun h => by cases h⟩

theorem over : Rows.fnGroupByRow.holds Tryz.pinned (OpenSpec.ofChange Rows.fnGroupBySpec) :=
  OpenClaim.holds_of_wide 6 Tryz.f6 rfl rfl rfl rfl rfl rfl rfl ⟨rfl, rfl, rfl, rfl, rfl⟩ rfl rfl rfl rfl rfl (by kernel_rfl) Tryz.func6 (by kernel_rfl)
    (of_decide_eq_true (by kernel_rfl)) (by unfold Func.isWrapper; first | (rw [if_pos (by decide +kernel)]; kernel_rfl) | (rw [if_neg (by decide +kernel)]; exact ⟨rfl, rfl⟩))
    (fun os started H enc _ => lifted os started H enc)

theorem proved : Rows.FnGroupBySaid := over
end lawFnGroupBy
#print axioms lawFnGroupBy.proved

end Go.Proofs.YtlhonhacehgooaaGreat
