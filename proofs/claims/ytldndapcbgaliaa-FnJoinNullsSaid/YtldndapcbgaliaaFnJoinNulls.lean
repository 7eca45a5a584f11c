/-
  FnJoinNulls returns true for all bytes and leaves them as they were. No condition.
-/
import Derived.Test.YtldndapcbgaliaaRows
import Derived.OpenShut
import Derived.Deep.DeepCutAuto
import Derived.Deep.RegionWith
import Derived.Lib.MinMax
import Derived.Test.YtldndapcbgaliaaExc
import Derived.Test.YtldndapcbgaliaaMjM
import Derived.Test.YtldndapcbgaliaaMjE
import Derived.Test.YtldndapcbgaliaaMjF
import Derived.Test.YtldndapcbgaliaaMjG
import Derived.Deep.RegionHeld3
import Derived.Test.YtldndapcbgaliaaDraJ
import Derived.Test.YtldndapcbgaliaaBag
import Derived.Test.YtldndapcbgaliaaSetQ
import Derived.Test.YtldndapcbgaliaaDraT

import Derived.Test.YtldndapcbgaliaaEqL
import Derived.Test.YtldndapcbgaliaaArgB
namespace Go.Proofs.Ytldndapcbgaliaa
open Go.RowKit Go.Qo
open Go.ChangeShapes Go.WideShapes Go.ChangeAt
set_option linter.unusedVariables false
set_option linter.unusedSimpArgs false

set_option maxRecDepth 20000 in
set_option maxHeartbeats 4000000 in
theorem FnJoinNulls_walk (A : Option Addr) (c : Nat) (xs : List Int) (w : World) (hc : xs.length ≤ c) (hm : c ≤ maxLen) (hg : ∀ x ∈ xs, 0 ≤ x ∧ x ≤ 255) (h : Sl 1 byteC w w.heap.size A xs) :
    Calls Try.prog 6 #[.slice A xs.length c] w fun e w' => e = .returned (.bool true) ∧ Below w.heap.size w w' := by
  have HD := Lib.hid (dDrawMergeJoin_ok A c xs w hc hm hg h)
  have hx63 : xs.length ≤ 9223372036854775807 := by unfold maxLen at hm; omega
  clear h hg hc hm
  by_cases hx : (1048576 : Int) < xs.length
  · clear HD
    go_enter Try.func6, Try.ntmps6
    go_wp2
    go_ret
    exact ⟨rfl, Below.refl _ _⟩
  go_enter Try.func6, Try.ntmps6
  go_wp2_with fail
  refine HD.out.mono ?_
  rintro e w3 ⟨W1, v1, W2, v2, ca, cb, rfl, hja0, hja1, hjb0, hjb1, svs1, rows1, svs2, rows2, hd1, hd2, hb3⟩
  have HJ := Lib.hid (And.intro hja0 (And.intro hja1 (And.intro hjb0 hjb1)))
  clear hja0 hja1 hjb0 hjb1
  obtain ⟨A1, c1, rfl, hc11, hc12, hs1, ht1, hl1, hr1⟩ := hd1.read
  obtain ⟨A2, c2, rfl, hc21, hc22, hs2, ht2, hl2, hr2⟩ := hd2.read
  obtain ⟨q, hq⟩ : ∃ q : Bool, q = true ↔ (((TabOk W1 rows1 ∧ 0 ≤ ca ∧ ca < W1) ∧ (TabOk W2 rows2 ∧ 0 ≤ cb ∧ cb < W2)) ∧ W1 + W2 ≤ 6) := ⟨_, @decide_eq_true_iff _ (Classical.propDecidable _)⟩
  have HQ := Lib.hid hq
  have R1 := Lib.hid (fun (z : World) (hz : Below w3.heap.size w3 z) => show Rws z z.heap.size A1 rows1 from (sls_of' hs1 ht1).on hz)
  have R2 := Lib.hid (fun (z : World) (hz : Below w3.heap.size w3 z) => show Rws z z.heap.size A2 rows2 from (sls_of' hs2 ht2).on hz)
  have K1 := Lib.hid (fun (z : World) (hz : Below w3.heap.size w3 z) => implMergeJoin_ok W1 W2 A1 A2 c1 c2 rows1 rows2 ca cb z (by omega) (by omega) (R1.out z hz) (R2.out z hz) q HQ.out)
  have K2 := Lib.hid (fun (z : World) (hz : Below w3.heap.size w3 z) => specMergeJoin_ok W1 W2 A1 A2 c1 c2 rows1 rows2 ca cb z (by omega) (by omega) (R1.out z hz) (R2.out z hz) q HQ.out)
  have HV : Hid (q = true → (mjAll rows1 rows2 ca.toNat cb.toNat).Perm (mjAll rows1 rows2 ca.toNat cb.toNat) ∧ ∀ r ∈ mjAll rows1 rows2 ca.toNat cb.toNat, RowOk (W1 + W2) r) := Lib.hid (by
    intro hq
    obtain ⟨⟨⟨h1, _, _⟩, ⟨h2, _, _⟩⟩, h6⟩ := HQ.out.1 hq
    exact ⟨List.Perm.refl _, mjAll_ok (tabRows1 h1) (tabRows1 h2) h6⟩)
  obtain ⟨W5, hW5⟩ : ∃ z, (w3.alloc (.cells #[.int .i64 W1, .slice A1 rows1.length c1] 25)).alloc (.cells #[.int .i64 W2, .slice A2 rows2.length c2] 25) = z := ⟨_, rfl⟩
  have B5 : Below w3.heap.size w3 W5 := by rw [← hW5]; exact balloc (balloc (Below.refl _ _) _) _
  have x1 : Row W5 w3.heap.size 25 [.int .i64 W1, .slice A1 rows1.length c1] := by rw [← hW5]; exact Row.first _ _ _ _
  have x2 : Row W5 (w3.heap.size + 1) 25 [.int .i64 W2, .slice A2 rows2.length c2] := by rw [← hW5]; exact Row.second _ _ _ _
  have BX := Lib.hid (fun (z : World) (hz : Below W5.heap.size W5 z) => show (z.cell? ⟨w3.heap.size, 0, none⟩ = some (.int .i64 W1) ∧ z.cell? ⟨w3.heap.size, 1, none⟩ = some (.slice A1 rows1.length c1) ∧ z.cell? ⟨w3.heap.size + 1, 0, none⟩ = some (.int .i64 W2) ∧ z.cell? ⟨w3.heap.size + 1, 1, none⟩ = some (.slice A2 rows2.length c2))
    from ⟨(x1.on hz).cell 0, (x1.on hz).cell 1, (x2.on hz).cell 0, (x2.on hz).cell 1⟩)
  have HB3 := Lib.hid (And.intro hb3 B5)
  have HW5 := Lib.hid hW5
  have HL := Lib.hid (And.intro hl1 hl2)
  have HCA := Lib.hid (And.intro hc11 (And.intro hc12 (And.intro hc21 hc22)))
  have BL5 := Lib.hid (And.intro x1.lt x2.lt)
  have z5 := BX.out _ (Below.refl _ _)
  clear hd1 hd2 hb3 hs1 hs2 ht1 ht2 hr1 hr2 hq x1 x2 B5 hW5 hc11 hc12 hc21 hc22
  go_upto_region 4 with fail
  rw [HW5.out]
  go_wp2_with fail
  refine (K1.out _ HB3.out.2).mono ?_
  intro e w8 hex
  obtain ⟨W8, A8, c8, out, rfl, hT8, hr8, hc81, hc82, hb8⟩ := TabRes.read2 hex
  obtain ⟨W9, hW9⟩ : ∃ z, w8.alloc (.cells #[.int .i64 W8, .slice A8 out.length c8] 25) = z := ⟨_, rfl⟩
  have B9 : Below w8.heap.size w8 W9 := by rw [← hW9]; exact balloc (Below.refl _ _) _
  have x9 : Row W9 w8.heap.size 25 [.int .i64 W8, .slice A8 out.length c8] := by rw [← hW9]; exact Row.new _ _ _
  have H9 := Lib.hid (And.intro (bch hb8 B9) (And.intro x9 (hr8.on B9)))
  have HW9 := Lib.hid hW9
  have HT8 := Lib.hid hT8
  have HC8 := Lib.hid (And.intro hc81 hc82)
  clear hex hT8 hr8 hc81 hc82 hb8 hW9 B9 x9 z5
  go_upto_region 5 with fail
  rw [HW9.out]
  have z9 := BX.out _ H9.out.1
  go_wp2_with fail
  refine (K2.out _ (bch HB3.out.2 H9.out.1)).mono ?_
  intro e w10 hex
  obtain ⟨W10, A10, c10, out10, rfl, hT10, hr10, hc101, hc102, hb10⟩ := SpecTab.read2 hex
  obtain ⟨hWe, hoe⟩ := tab_same HV.out hT10 HT8.out
  subst hWe
  subst hoe
  have hol := (tabC_bd (fun hq r hr => (HV.out hq).2 r ((HV.out hq).1.mem_iff.2 hr)) HT8.out).1
  obtain ⟨W11, hW11⟩ : ∃ z, w10.alloc (.cells #[.int .i64 W8, .slice A10 out.length c10] 25) = z := ⟨_, rfl⟩
  have B11 : Below w10.heap.size w10 W11 := by rw [← hW11]; exact balloc (Below.refl _ _) _
  have x11 : Row W11 w10.heap.size 25 [.int .i64 W8, .slice A10 out.length c10] := by rw [← hW11]; exact Row.new _ _ _
  have hb911 := bch hb10 B11
  have HE := Lib.hid (equalTables_ok W8 W8 A8 A10 c8 c10 out out W11 (by unfold maxLen; omega) (by unfold maxLen; omega) (H9.out.2.2.on hb911) (hr10.on B11) true (by simp))
  have H11 := Lib.hid (And.intro hb911 (H9.out.2.1.on hb911))
  have e0 : W11.cell? ⟨w10.heap.size, 0, none⟩ = some (.int .i64 W8) := x11.cell 0
  have e1 : W11.cell? ⟨w10.heap.size, 1, none⟩ = some (.slice A10 out.length c10) := x11.cell 1
  have e2 : W11.cell? ⟨w8.heap.size, 0, none⟩ = some (.int .i64 W8) := H11.out.2.cell 0
  have e3 : W11.cell? ⟨w8.heap.size, 1, none⟩ = some (.slice A8 out.length c8) := H11.out.2.cell 1
  have HW11 := Lib.hid hW11
  have hqq : (q != q) = false := by simp
  have hqe : (q == q) = true := by simp
  have X11 := Lib.hid x11
  have HR10 := Lib.hid (hr10.on B11)
  have HOL := Lib.hid hol
  clear hex hT10 hr10 hc101 hc102 hb10 hW11 B11 x11 z9 hb911 hol
  go_upto_region 6 with fail
  rw [HW11.out]
  go_wp2_with fail
  refine HE.out.mono ?_
  rintro e w12 ⟨rfl, hb12⟩
  have HBE := Lib.hid hb12
  have HB12 : Hid (Below w3.heap.size w3 w12) := Lib.hid (bch HB3.out.2 (bch H9.out.1 (bch H11.out.1 hb12)))
  have x8 := H11.out.2.on hb12
  have RT := Lib.hid (fun (z : World) (hz : Below w12.heap.size w12 z) => show Rws z z.heap.size A8 out from (H9.out.2.2.on (bch H11.out.1 hb12)).on hz)
  have BZ := Lib.hid (fun (z : World) (hz : Below w12.heap.size w12 z) => show (z.cell? ⟨w3.heap.size, 0, none⟩ = some (.int .i64 W1) ∧ z.cell? ⟨w8.heap.size, 1, none⟩ = some (.slice A8 out.length c8))
    from have h5 := BX.out z (bch H9.out.1 (bch H11.out.1 (bch hb12 hz))); ⟨h5.1, (x8.on hz).cell 1⟩)
  have HN : Hid (∀ r ∈ out, ∃ (k m : Nat) (v : Int), ca = k ∧ W1 + cb = m ∧ W1 ≤ 6 ∧ m < r.length ∧ k < r.length ∧ r.length ≤ 6 ∧ r[k]? = some (false, v) ∧ r[m]? = some (false, v)) := Lib.hid (by
    intro r hr
    have ht8 := HT8.out
    rcases Bool.eq_false_or_eq_true q with hq1 | hq1
    · obtain ⟨⟨⟨hT1, hca0, hca1⟩, ⟨hT2, hcb0, hcb1⟩⟩, h6⟩ := HQ.out.1 hq1
      rw [hq1] at ht8
      have ⟨_, _, hTm⟩ := tabC_len ht8
      obtain ⟨k, rfl⟩ := Int.eq_ofNat_of_zero_le hca0
      obtain ⟨kb, rfl⟩ := Int.eq_ofNat_of_zero_le hcb0
      obtain ⟨Wn, rfl⟩ := Int.eq_ofNat_of_zero_le (show 0 ≤ W1 by omega)
      obtain ⟨v, h1, h2⟩ := mjAll_both (tabRows1 hT1) (tabRows1 hT2) hca1 hcb1 r (by simpa using hTm r hr)
      have hl := mjAll_ok (tabRows1 hT1) (tabRows1 hT2) h6 r (by simpa using hTm r hr)
      have hl2 := hl.2
      exact ⟨k, Wn + kb, v, rfl, by omega, by omega, by omega, by omega, by omega, h1, h2⟩
    · rw [hq1] at ht8
      rcases ht8 with ⟨_, _, rfl⟩ | ⟨h, _⟩
      · simp at hr
      · cases h)
  have BZB := Lib.hid (show w3.heap.size < w12.heap.size ∧ w8.heap.size < w12.heap.size from
    ⟨by have := BL5.out.1; have := H9.out.1.size; have := H11.out.1.size; have := hb12.size; omega, x8.lt⟩)
  clear hb12 x8 e0 e1 e2 e3 K1 K2 HV HQ HT8 HE
  go_wp2
  go_loopg [11] out.length (fun g iv wr => ∃ i : Nat, i ≤ out.length ∧ g = out.length - i ∧ iv = .int .i64 i ∧ Below w12.heap.size w12 wr)
  case atStart => exact ⟨0, by omega, by omega, rfl, Below.refl _ _⟩
  case round =>
    obtain ⟨i, hi, rfl, rfl, hb⟩ := hrel
    have HB := Lib.hid hb
    have zr := BZ.out _ hb
    have hsz := hb.size
    have hol := HOL.out
    by_cases hlt : i < out.length
    · obtain ⟨b, off, A3, C3, hA3, hB3, c3, hcc3, hmx3, s3⟩ := (RT.out _ HB.out).at_ hlt
      obtain ⟨k, m, v, hk, hm, hW6, hmr, hkr, hr6, g1, g2⟩ := HN.out _ (List.getElem_mem hlt)
      generalize out[i] = x at *
      subst hA3
      subst hk
      obtain ⟨b4, o4, hA4, hB4, d0, d1⟩ := Val.at_ s3 hkr
      obtain ⟨b5, o5, hA5, hB5, d2, d3⟩ := Val.at_ s3 hmr
      rw [List.getElem?_eq_getElem hkr, Option.some.injEq] at g1
      rw [List.getElem?_eq_getElem hmr, Option.some.injEq] at g2
      rw [g1] at d0 d1
      rw [g2] at d2 d3
      subst hA4
      cases hA5
      obtain ⟨L, hL⟩ : ∃ L, x.length = L := ⟨_, rfl⟩
      rw [hL] at c3 hmr hkr hr6
      have hwm : IntKind.i64.wrap (W1 + cb) = (m : Int) := by rw [hm]; exact IntWalk.i64_in _ (by omega)
      have hkl : (k : Int) < (L : Int) := by omega
      have hml : (m : Int) < (L : Int) := by omega
      have hil : (i : Int) < (out.length : Int) := by omega
      obtain ⟨W13, hW13⟩ : ∃ z, wr.alloc (.cells #[.bool false, .int .i64 v] 40) = z := ⟨_, rfl⟩
      have B13 : Below wr.heap.size wr W13 := by rw [← hW13]; exact balloc (Below.refl _ _) _
      have x13 : Row W13 wr.heap.size 40 [.bool false, .int .i64 v] := by rw [← hW13]; exact Row.new _ _ _
      have HW13 := Lib.hid hW13
      have H13 := Lib.hid (bch HB.out B13)
      have bl1 : w3.heap.size < wr.heap.size := by have := BZB.out.1; omega
      have bl2 : w8.heap.size < wr.heap.size := by have := BZB.out.2; omega
      have e0 := (B13.cell (p := ⟨w3.heap.size, 0, none⟩) bl1).trans zr.1
      have e1 := (B13.cell (p := ⟨w8.heap.size, 1, none⟩) bl2).trans zr.2
      have e2 := (B13.cell (p := ⟨b, _, none⟩) hB3).trans c3
      have e3 := (B13.cell (p := ⟨b4, _, none⟩) hB4).trans d2
      have e4 := (B13.cell (p := ⟨b4, _, none⟩) hB4).trans d3
      have x0 : W13.cell? ⟨wr.heap.size, 0, none⟩ = some (.bool false) := x13.cell 0
      have x1 : W13.cell? ⟨wr.heap.size, 1, none⟩ = some (.int .i64 v) := x13.cell 1
      have hne := fun z => neqVal (x := (false, v)) (y := (false, v)) false (by simp) z
      dsimp only at hne
      clear hb s3 g1 g2 hW13 B13 x13 hcc3 hmx3 hL hm hlt hsz
      go_upto_region 12 with fail
      rw [HW13.out]
      go_wp2
      go_quiet (fail)
      go_wp2
      go_roundg (out.length - (i + 1))
      case measure => omega
      case rel => exact ⟨i + 1, by omega, rfl, by go_num, bdrewN H13.out _⟩
    · have : i = out.length := by omega
      subst this
      clear hb hlt hsz
      go_wp2
      go_ret
      exact ⟨rfl, bch HB3.out.1 (bch HB12.out HB.out)⟩

namespace lawFnJoinNulls
theorem own : ownKnob Try.prog.godebug = none := by kernel_rfl
theorem laidOut : laidOutB Try.prog = true := by kernel_rfl

set_option maxRecDepth 100000 in
theorem lifted (os : Os) (started : os.Started) (H : Type) (enc : TypeId × Value → H) :
    ReturnsInHanded {} Try.checked os 6 .any (Rows.fnJoinNullsSpec.pre6 enc Try.prog Try.f6 Rows.fnJoinNullsRow.domain false) (Rows.fnJoinNullsSpec.post enc Try.prog Try.f6 false true false false) := by
  refine returnsInHanded_of_change (C := Try.checked) own started (by kernel_rfl) Try.func6
    (ChangeSpec.witness6 (enc := enc) (C := Try.checked) false ⟨#[], #[.slice none 0 0], []⟩ 8 (by kernel_rfl) (by kernel_rfl) (by kernel_rfl) (by kernel_rfl)) ?_
  intro W base args ds gs before hval0 hW hcnd _
  have hval : ∀ (j : Nat) t v, Try.f6.params[j]? = some t → args[j]? = some v → Value.okWide Try.prog W .any base t v := hval0
  have hW' := hW
  obtain ⟨p, q, hA0, hV, rfl, hfz, hnd⟩ := hW
  have hA : DataW.TrodAll enc Try.prog W 0 (fun _ => true) true Try.f6.params.toList args.toList ds p := hA0
  rw [Try.params6] at hA hval
  obtain ⟨v0, vs0, d0, ds0, p0, q0, hargs, rfl, rfl, h0, r0⟩ := trodAll_cons hA
  obtain ⟨rfl, rfl, rfl⟩ := trodAll_nil r0
  obtain rfl : args = #[v0] := by cases args; simp_all
  obtain ⟨rfl, rfl⟩ := trodVars_none hV
  obtain ⟨a0, len0, c0, rfl⟩ := okWide_slice Try.underlying22 (hval 0 22 v0 rfl rfl)
  have k0 := h0
  have lt0 : ∀ x ∈ p0, x.block < W.heap.size := by obtain ⟨m, hm⟩ := k0; exact DataW.trod_lt m _ _ _ hm
  obtain ⟨f0, h0⟩ := h0
  obtain ⟨xs0, rfl, hc0, hm0, g0, s0⟩ := open_sl (sz := 1) (ec := byteC) Try.underlying22 (by kernel_rfl) (by omega) byteC_length (el_byte Try.underlying5) h0
  clear hA0 hval0
  refine (FnJoinNulls_walk a0 c0 xs0 W hc0 hm0 g0 s0).mono fun e W' ⟨he, bel⟩ => ?_
  subst he
  exact ⟨_, rfl, _, _, _, [], _, [], hW', trodAll_mk1 (shut_bool Try.underlying4 _), (trodAll_cons_mk (Below.trod laidOut (by kernel_rfl) (of_decide_eq_true (by kernel_rfl)) k0 bel lt0) trodAll_mk0), rfl, bel.frame _, fun h => by cases h⟩

theorem over : Rows.fnJoinNullsRow.holds Try.pinned (OpenSpec.ofChange Rows.fnJoinNullsSpec) :=
  OpenClaim.holds_of_wide 6 Try.f6 rfl rfl rfl rfl rfl rfl rfl ⟨rfl, rfl, rfl, rfl, rfl⟩ rfl rfl rfl rfl rfl (by kernel_rfl) Try.func6 (by kernel_rfl)
    (of_decide_eq_true (by kernel_rfl)) (by unfold Func.isWrapper; first | (rw [if_pos (by decide +kernel)]; kernel_rfl) | (rw [if_neg (by decide +kernel)]; exact ⟨rfl, rfl⟩))
    (fun os started H enc _ => lifted os started H enc)

theorem proved : Rows.FnJoinNullsSaid := over
end lawFnJoinNulls
#print axioms lawFnJoinNulls.proved

end Go.Proofs.Ytldndapcbgaliaa
