/-
  FnUnionExcept returns true for all bytes and leaves them as they were. No condition.
-/
import Derived.Test.YtfjpmifdmpoocaaRows
import Derived.OpenShut
import Derived.Deep.DeepCutAuto
import Derived.Deep.RegionWith
import Derived.Lib.MinMax
import Derived.Test.YtfjpmifdmpoocaaExc
import Derived.Test.YtfjpmifdmpoocaaUni
import Derived.Test.YtfjpmifdmpoocaaBag
import Derived.Test.YtfjpmifdmpoocaaSetQ
import Derived.Test.YtfjpmifdmpoocaaDraT
import Derived.Test.YtfjpmifdmpoocaaCntR
import Derived.Test.YtfjpmifdmpoocaaEqL
import Derived.Test.YtfjpmifdmpoocaaArgB
namespace Go.Proofs.Ytfjpmifdmpoocaa
open Go.RowKit Go.Qo
open Go.ChangeShapes Go.WideShapes Go.ChangeAt
set_option linter.unusedVariables false
set_option linter.unusedSimpArgs false

set_option maxRecDepth 20000 in
set_option maxHeartbeats 4000000 in
theorem FnUnionExcept_walk (A : Option Addr) (c : Nat) (xs : List Int) (w : World) (hc : xs.length ≤ c) (hm : c ≤ maxLen) (hg : ∀ x ∈ xs, 0 ≤ x ∧ x ≤ 255) (h : Sl 1 byteC w w.heap.size A xs) :
    Calls Try.prog 8 #[.slice A xs.length c] w fun e w' => e = .returned (.bool true) ∧ Below w.heap.size w w' := by
  have HD := Lib.hid (dDrawExceptAll_ok A c xs w hc hm hg h)
  have hx63 : xs.length ≤ 9223372036854775807 := by unfold maxLen at hm; omega
  clear h hg hc hm
  by_cases hx : (1048576 : Int) < xs.length
  · clear HD
    go_enter Try.func8, Try.ntmps8
    go_wp2
    go_ret
    exact ⟨rfl, Below.refl _ _⟩
  go_enter Try.func8, Try.ntmps8
  go_wp2_with fail
  refine HD.out.mono ?_
  rintro e w3 ⟨W1, v1, W2, v2, rfl, svs1, rows1, svs2, rows2, hd1, hd2, hb3⟩
  obtain ⟨A1, c1, rfl, hc11, hc12, hs1, ht1, hl1, hr1⟩ := hd1.read
  obtain ⟨A2, c2, rfl, hc21, hc22, hs2, ht2, hl2, hr2⟩ := hd2.read
  obtain ⟨q, hq⟩ : ∃ q : Bool, q = true ↔ (TabOk W1 rows1 ∧ TabOk W2 rows2 ∧ W1 = W2) := ⟨_, @decide_eq_true_iff _ (Classical.propDecidable _)⟩
  have HQ := Lib.hid hq
  have R1 := Lib.hid (fun (z : World) (hz : Below w3.heap.size w3 z) => show Rws z z.heap.size A1 rows1 from (sls_of' hs1 ht1).on hz)
  have R2 := Lib.hid (fun (z : World) (hz : Below w3.heap.size w3 z) => show Rws z z.heap.size A2 rows2 from (sls_of' hs2 ht2).on hz)
  have K1 := Lib.hid (fun (z : World) (hz : Below w3.heap.size w3 z) => implExceptAll_ok W1 W2 A1 A2 c1 c2 rows1 rows2 z (by omega) (by omega) (R1.out z hz) (R2.out z hz) q HQ.out)
  have K2 := Lib.hid (fun (z : World) (hz : Below w3.heap.size w3 z) => specExceptAll_ok W1 W2 A1 A2 c1 c2 svs1 rows1 rows2 z hc11 hc12 (by omega) (by omega) (fun r hr => by have := hr1 r hr; omega) (hs1.on hz) (ht1.on hz) (R2.out z hz) q HQ.out)
  have HV : Hid (q = true → (bagR false rows1 rows2).Perm (((merged rows1 rows2).filter fun r => r.2 == false).map (·.1)) ∧ ∀ r ∈ bagR false rows1 rows2, RowOk W1 r) := Lib.hid (by
    intro hq
    obtain ⟨h1, h2, h3⟩ := HQ.out.1 hq
    exact ⟨by rw [bagR_merged false h1.srt (h3 ▸ h2.srt)], fun r hr => tabRows1 h1 r (bagR_mem false rows2 rows1 r hr)⟩)
  obtain ⟨W5, hW5⟩ : ∃ z, (w3.alloc (.cells #[.int .i64 W1, .slice A1 rows1.length c1] 25)).alloc (.cells #[.int .i64 W2, .slice A2 rows2.length c2] 25) = z := ⟨_, rfl⟩
  have B5 : Below w3.heap.size w3 W5 := by rw [← hW5]; exact balloc (balloc (Below.refl _ _) _) _
  have x1 : Row W5 w3.heap.size 25 [.int .i64 W1, .slice A1 rows1.length c1] := by rw [← hW5]; exact Row.first _ _ _ _
  have x2 : Row W5 (w3.heap.size + 1) 25 [.int .i64 W2, .slice A2 rows2.length c2] := by rw [← hW5]; exact Row.second _ _ _ _
  have BX := Lib.hid (fun (z : World) (hz : Below W5.heap.size W5 z) => show (z.cell? ⟨w3.heap.size, 0, none⟩ = some (.int .i64 W1) ∧ z.cell? ⟨w3.heap.size, 1, none⟩ = some (.slice A1 rows1.length c1) ∧ z.cell? ⟨w3.heap.size + 1, 0, none⟩ = some (.int .i64 W2) ∧ z.cell? ⟨w3.heap.size + 1, 1, none⟩ = some (.slice A2 rows2.length c2))
    from ⟨(x1.on hz).cell 0, (x1.on hz).cell 1, (x2.on hz).cell 0, (x2.on hz).cell 1⟩)
  have HB3 := Lib.hid (And.intro hb3 B5)
  have HW5 := Lib.hid hW5
  have HL := Lib.hid (And.intro hl1 hl2)
  have HCA := Lib.hid (And.intro hc11 (And.intro hc12 (And.intro hc21 hc22)))
  have BL5 := Lib.hid (And.intro x1.lt x2.lt)
  have z5 := BX.out _ (Below.refl _ _)
  clear hd1 hd2 hb3 hs1 hs2 ht1 ht2 hr1 hr2 hq x1 x2 B5 hW5 hc11 hc12 hc21 hc22
  go_upto_region 4 with fail
  rw [HW5.out]
  go_wp2_with fail
  refine (K1.out _ HB3.out.2).mono ?_
  intro e w8 hex
  obtain ⟨W8, A8, c8, out, rfl, hT8, hr8, hc81, hc82, hb8⟩ := TabRes.read2 hex
  obtain ⟨W9, hW9⟩ : ∃ z, w8.alloc (.cells #[.int .i64 W8, .slice A8 out.length c8] 25) = z := ⟨_, rfl⟩
  have B9 : Below w8.heap.size w8 W9 := by rw [← hW9]; exact balloc (Below.refl _ _) _
  have x9 : Row W9 w8.heap.size 25 [.int .i64 W8, .slice A8 out.length c8] := by rw [← hW9]; exact Row.new _ _ _
  have H9 := Lib.hid (And.intro (bch hb8 B9) (And.intro x9 (hr8.on B9)))
  have HW9 := Lib.hid hW9
  have HT8 := Lib.hid hT8
  have HC8 := Lib.hid (And.intro hc81 hc82)
  clear hex hT8 hr8 hc81 hc82 hb8 hW9 B9 x9 z5
  go_upto_region 5 with fail
  rw [HW9.out]
  have z9 := BX.out _ H9.out.1
  go_wp2_with fail
  refine (K2.out _ (bch HB3.out.2 H9.out.1)).mono ?_
  intro e w10 hex
  obtain ⟨W10, A10, c10, out10, rfl, hT10, hr10, hc101, hc102, hb10⟩ := SpecTab.read2 hex
  obtain ⟨hWe, hoe⟩ := tab_same HV.out hT10 HT8.out
  subst hWe
  subst hoe
  have hol := (tabC_bd (fun hq r hr => (HV.out hq).2 r ((HV.out hq).1.mem_iff.2 hr)) HT8.out).1
  obtain ⟨W11, hW11⟩ : ∃ z, w10.alloc (.cells #[.int .i64 W8, .slice A10 out.length c10] 25) = z := ⟨_, rfl⟩
  have B11 : Below w10.heap.size w10 W11 := by rw [← hW11]; exact balloc (Below.refl _ _) _
  have x11 : Row W11 w10.heap.size 25 [.int .i64 W8, .slice A10 out.length c10] := by rw [← hW11]; exact Row.new _ _ _
  have hb911 := bch hb10 B11
  have HE := Lib.hid (equalTables_ok W8 W8 A8 A10 c8 c10 out out W11 (by unfold maxLen; omega) (by unfold maxLen; omega) (H9.out.2.2.on hb911) (hr10.on B11) true (by simp))
  have H11 := Lib.hid (And.intro hb911 (H9.out.2.1.on hb911))
  have e0 : W11.cell? ⟨w10.heap.size, 0, none⟩ = some (.int .i64 W8) := x11.cell 0
  have e1 : W11.cell? ⟨w10.heap.size, 1, none⟩ = some (.slice A10 out.length c10) := x11.cell 1
  have e2 : W11.cell? ⟨w8.heap.size, 0, none⟩ = some (.int .i64 W8) := H11.out.2.cell 0
  have e3 : W11.cell? ⟨w8.heap.size, 1, none⟩ = some (.slice A8 out.length c8) := H11.out.2.cell 1
  have HW11 := Lib.hid hW11
  have hqq : (q != q) = false := by simp
  have hqe : (q == q) = true := by simp
  have X11 := Lib.hid x11
  have HR10 := Lib.hid (hr10.on B11)
  have HOL := Lib.hid hol
  clear hex hT10 hr10 hc101 hc102 hb10 hW11 B11 x11 z9 hb911 hol
  go_upto_region 6 with fail
  rw [HW11.out]
  go_wp2_with fail
  refine HE.out.mono ?_
  rintro e w12 ⟨rfl, hb12⟩
  have HBE := Lib.hid hb12
  have HB12 : Hid (Below w3.heap.size w3 w12) := Lib.hid (bch HB3.out.2 (bch H9.out.1 (bch H11.out.1 hb12)))
  have x8 := H11.out.2.on hb12
  have RT := Lib.hid (fun (z : World) (hz : Below w12.heap.size w12 z) => show Rws z z.heap.size A8 out from (H9.out.2.2.on (bch H11.out.1 hb12)).on hz)
  have BZ := Lib.hid (fun (z : World) (hz : Below w12.heap.size w12 z) => show (z.cell? ⟨w3.heap.size, 0, none⟩ = some (.int .i64 W1) ∧ z.cell? ⟨w3.heap.size, 1, none⟩ = some (.slice A1 rows1.length c1) ∧ z.cell? ⟨w3.heap.size + 1, 0, none⟩ = some (.int .i64 W2) ∧ z.cell? ⟨w3.heap.size + 1, 1, none⟩ = some (.slice A2 rows2.length c2) ∧ z.cell? ⟨w8.heap.size, 0, none⟩ = some (.int .i64 W8) ∧ z.cell? ⟨w8.heap.size, 1, none⟩ = some (.slice A8 out.length c8))
    from have h5 := BX.out z (bch H9.out.1 (bch H11.out.1 (bch hb12 hz))); ⟨h5.1, h5.2.1, h5.2.2.1, h5.2.2.2, (x8.on hz).cell 0, (x8.on hz).cell 1⟩)
  have BZB := Lib.hid (show w3.heap.size < w12.heap.size ∧ w3.heap.size + 1 < w12.heap.size ∧ w8.heap.size < w12.heap.size from
    ⟨by have := BL5.out.1; have := H9.out.1.size; have := H11.out.1.size; have := hb12.size; omega, by have := BL5.out.2; have := H9.out.1.size; have := H11.out.1.size; have := hb12.size; omega, x8.lt⟩)
  clear hb12 x8 e2 e3
  have z12 := BZ.out _ (Below.refl _ _)
  cases hq1 : q
  · -- no tables of one width: both say so
    clear hq1
    have y0 := (X11.out.on HBE.out).cell 0
    have y1 := (X11.out.on HBE.out).cell 1
    have HE2 := Lib.hid (equalTables_ok W8 W8 A8 A10 c8 c10 out out w12 (by have := HOL.out; unfold maxLen; omega) (by have := HOL.out; unfold maxLen; omega) (RT.out _ (Below.refl _ _)) (HR10.out.on HBE.out) true (by simp))
    go_wp2_with fail
    refine HE2.out.mono ?_
    rintro e w13 ⟨rfl, hb13⟩
    have H13 := Lib.hid hb13
    clear hb13
    go_wp2
    go_ret
    exact ⟨rfl, bch HB3.out.1 (bch HB12.out H13.out)⟩
  · obtain ⟨hT1, hT2, hWW⟩ := HQ.out.1 hq1
    have ht8 := HT8.out
    rw [hq1] at ht8
    have ⟨hTe, hTp, hTo⟩ := tabC_ok hT1 (keep_sub false rows1 rows2) ht8
    subst hWW
    subst hTe
    clear hq1 HT8 K1 K2 HV HQ
    have HT := Lib.hid (And.intro hT1 (And.intro hT2 (And.intro hTo hTp)))
    have H0 := Lib.hid (show Below w12.heap.size w12 w12 from Below.refl _ _)
    clear hT1 hT2 hTo hTp ht8
    have KK14 := Lib.hid (fun (z : World) (hz : Below w12.heap.size w12 z) => implUnionAll_ok W8 W8 A1 A2 c1 c2 rows1 rows2 z (by have := HT.out.1.2.2.1; omega) (by have := HT.out.2.1.2.2.1; omega) (R1.out z (bch HB12.out hz)) (R2.out z (bch HB12.out hz)) true (iff_of_true rfl ⟨HT.out.1, HT.out.2.1, rfl⟩))
    go_wp2_with fail
    refine (KK14.out _ H0.out ).mono ?_
    intro e w14 hex
    obtain ⟨W14, A14, c14, out14, rfl, hT14, hr14, hc141, hc142, hb14⟩ := TabRes.read2 hex
    have hl14 : (rows1 ++ rows2).length ≤ 400 := by
      have e5 := HL.out
      rw [List.length_append]; omega
    obtain ⟨rfl, hp14, ho14⟩ := tabC_ok2 HT.out.1 (fun r hr => by rcases List.mem_append.1 hr with h | h; exact HT.out.1.srt.1 r h; exact HT.out.2.1.srt.1 r h) hl14 hT14
    have P14 := Lib.hid (And.intro hp14 ho14)
    clear hp14 ho14 hl14
    obtain ⟨V14, hV14⟩ : ∃ z, w14.alloc (.cells #[.int .i64 W14, .slice A14 out14.length c14] 25) = z := ⟨_, rfl⟩
    have hv14 : Below w14.heap.size w14 V14 := by rw [← hV14]; exact balloc (Below.refl _ _) _
    have xv14 : Row V14 w14.heap.size 25 [.int .i64 W14, .slice A14 out14.length c14] := by rw [← hV14]; exact Row.new _ _ _
    have H14 := Lib.hid (show Below w12.heap.size w12 V14 from bch H0.out (bch hb14 hv14))
    have X14 := Lib.hid (And.intro xv14 (And.intro (hr14.on hv14) (And.intro hc141 hc142)))
    have g0_14 : V14.cell? ⟨w14.heap.size, 0, none⟩ = some (.int .i64 W14) := xv14.cell 0
    have g1_14 : V14.cell? ⟨w14.heap.size, 1, none⟩ = some (.slice A14 out14.length c14) := xv14.cell 1
    have HV14 := Lib.hid hV14
    clear hex hT14 hr14 hc141 hc142 hb14 hV14 hv14 xv14 z12
    have z12 := BZ.out _ H14.out
    go_upto_region 9 with fail
    rw [HV14.out]
    have KK16 := Lib.hid (fun (z : World) (hz : Below w12.heap.size w12 z) (hr : Rws z z.heap.size A14 out14) => implExceptAll_ok W14 W14 A14 A2 c14 c2 out14 rows2 z (by have := P14.out.2.2.2.1; omega) (by have := HT.out.2.1.2.2.1; omega) hr (R2.out z (bch HB12.out hz)) true (iff_of_true rfl ⟨P14.out.2, HT.out.2.1, rfl⟩))
    go_wp2_with fail
    refine (KK16.out _ H14.out X14.out.2.1).mono ?_
    intro e w16 hex
    obtain ⟨W16, A16, c16, out16, rfl, hT16, hr16, hc161, hc162, hb16⟩ := TabRes.read2 hex
    obtain ⟨rfl, hp16, ho16⟩ := tabC_ok P14.out.2 (keep_sub false out14 rows2) hT16
    have h0 : rows1 = out16 := by
      refine cnt_eq HT.out.1 ho16 fun z hz => ?_
      rw [cnt_perm hp16, ← bagR_merged false P14.out.2.srt HT.out.2.1.srt, cnt_bag false P14.out.2.srt.1 hz, cnt_perm P14.out.1, cnt_append]
      simp only [Bool.false_eq_true, if_false]
      omega
    subst h0
    clear hp16 ho16
    obtain ⟨V16, hV16⟩ : ∃ z, w16.alloc (.cells #[.int .i64 W16, .slice A16 rows1.length c16] 25) = z := ⟨_, rfl⟩
    have hv16 : Below w16.heap.size w16 V16 := by rw [← hV16]; exact balloc (Below.refl _ _) _
    have xv16 : Row V16 w16.heap.size 25 [.int .i64 W16, .slice A16 rows1.length c16] := by rw [← hV16]; exact Row.new _ _ _
    have H16 := Lib.hid (show Below w12.heap.size w12 V16 from bch H14.out (bch hb16 hv16))
    have X16 := Lib.hid (And.intro xv16 (And.intro (hr16.on hv16) (And.intro hc161 hc162)))
    have g0_16 : V16.cell? ⟨w16.heap.size, 0, none⟩ = some (.int .i64 W16) := xv16.cell 0
    have g1_16 : V16.cell? ⟨w16.heap.size, 1, none⟩ = some (.slice A16 rows1.length c16) := xv16.cell 1
    have HV16 := Lib.hid hV16
    clear hex hT16 hr16 hc161 hc162 hb16 hV16 hv16 xv16 z12
    have z12 := BZ.out _ H16.out
    go_upto_region 10 with fail
    rw [HV16.out]
    have HE := Lib.hid (equalTables_ok W16 W16 A16 A1 c16 c1 rows1 rows1 V16 (by have := HT.out.1.2.2.1; unfold maxLen; omega) (by have := HT.out.1.2.2.1; unfold maxLen; omega) X16.out.2.1 (R1.out _ (bch HB12.out H16.out)) true (by simp))
    go_wp2_with fail
    refine HE.out.mono ?_
    rintro e w18 ⟨rfl, hb18⟩
    have H18 := Lib.hid (bch H16.out hb18)
    clear hb18
    go_wp2
    go_ret
    exact ⟨rfl, bch HB3.out.1 (bch HB12.out H18.out)⟩

namespace lawFnUnionExcept
theorem own : ownKnob Try.prog.godebug = none := by kernel_rfl
theorem laidOut : laidOutB Try.prog = true := by kernel_rfl

set_option maxRecDepth 100000 in
theorem lifted (os : Os) (started : os.Started) (H : Type) (enc : TypeId × Value → H) :
    ReturnsInHanded {} Try.checked os 8 .any (Rows.fnUnionExceptSpec.pre6 enc Try.prog Try.f8 Rows.fnUnionExceptRow.domain false) (Rows.fnUnionExceptSpec.post enc Try.prog Try.f8 false true false false) := by
  refine returnsInHanded_of_change (C := Try.checked) own started (by kernel_rfl) Try.func8
    (ChangeSpec.witness6 (enc := enc) (C := Try.checked) false ⟨#[], #[.slice none 0 0], []⟩ 8 (by kernel_rfl) (by kernel_rfl) (by kernel_rfl) (by kernel_rfl)) ?_
  intro W base args ds gs before hval0 hW hcnd _
  have hval : ∀ (j : Nat) t v, Try.f8.params[j]? = some t → args[j]? = some v → Value.okWide Try.prog W .any base t v := hval0
  have hW' := hW
  obtain ⟨p, q, hA0, hV, rfl, hfz, hnd⟩ := hW
  have hA : DataW.TrodAll enc Try.prog W 0 (fun _ => true) true Try.f8.params.toList args.toList ds p := hA0
  rw [Try.params8] at hA hval
  obtain ⟨v0, vs0, d0, ds0, p0, q0, hargs, rfl, rfl, h0, r0⟩ := trodAll_cons hA
  obtain ⟨rfl, rfl, rfl⟩ := trodAll_nil r0
  obtain rfl : args = #[v0] := by cases args; simp_all
  obtain ⟨rfl, rfl⟩ := trodVars_none hV
  obtain ⟨a0, len0, c0, rfl⟩ := okWide_slice Try.underlying22 (hval 0 22 v0 rfl rfl)
  have k0 := h0
  have lt0 : ∀ x ∈ p0, x.block < W.heap.size := by obtain ⟨m, hm⟩ := k0; exact DataW.trod_lt m _ _ _ hm
  obtain ⟨f0, h0⟩ := h0
  obtain ⟨xs0, rfl, hc0, hm0, g0, s0⟩ := open_sl (sz := 1) (ec := byteC) Try.underlying22 (by kernel_rfl) (by omega) byteC_length (el_byte Try.underlying5) h0
  clear hA0 hval0
  refine (FnUnionExcept_walk a0 c0 xs0 W hc0 hm0 g0 s0).mono fun e W' ⟨he, bel⟩ => ?_
  subst he
  exact ⟨_, rfl, _, _, _, [], _, [], hW', trodAll_mk1 (shut_bool Try.underlying4 _), (trodAll_cons_mk (Below.trod laidOut (by kernel_rfl) (of_decide_eq_true (by kernel_rfl)) k0 bel lt0) trodAll_mk0), rfl, bel.frame _, fun h => by cases h⟩

theorem over : Rows.fnUnionExceptRow.holds Try.pinned (OpenSpec.ofChange Rows.fnUnionExceptSpec) :=
  OpenClaim.holds_of_wide 8 Try.f8 rfl rfl rfl rfl rfl rfl rfl ⟨rfl, rfl, rfl, rfl, rfl⟩ rfl rfl rfl rfl rfl (by kernel_rfl) Try.func8 (by kernel_rfl)
    (of_decide_eq_true (by kernel_rfl)) (by unfold Func.isWrapper; first | (rw [if_pos (by decide +kernel)]; kernel_rfl) | (rw [if_neg (by decide +kernel)]; exact ⟨rfl, rfl⟩))
    (fun os started H enc _ => lifted os started H enc)

theorem proved : Rows.FnUnionExceptSaid := over
end lawFnUnionExcept
#print axioms lawFnUnionExcept.proved

end Go.Proofs.Ytfjpmifdmpoocaa
