/-
  FnPlanSize returns true for all bytes and leaves them as they were. No condition.
-/
import Derived.Test.YtooeicfhciefoaaRows
import Derived.OpenShut
import Derived.Test.YtooeicfhciefoaaDrS
import Derived.Test.YtooeicfhciefoaaPzT
import Derived.Test.YtooeicfhciefoaaArgB
namespace Go.Proofs.Ytooeicfhciefoaa
open Go.RowKit Go.Qo
open Go.ChangeShapes Go.WideShapes Go.ChangeAt
set_option linter.unusedVariables false
set_option linter.unusedSimpArgs false

theorem widthP_kid {ws : List Int} {p x : Pl} (h : widthP ws p ≠ 0) (hx : x ∈ p.kids) : widthP ws x ≠ 0 := by
  obtain ⟨hw, hv⟩ := widthZ_ok h
  obtain ⟨_, k, hk, hv2⟩ := plW_kids hv hx
  obtain rfl : k = 7 := by omega
  unfold widthP
  rw [if_pos hw, plW_more 7 8 x (by omega) hv2]
  exact hv2
theorem szP_pos {ws : List Int} {p : Pl} (h : widthP ws p ≠ 0) : 1 ≤ szP ws p ∧ szP ws p ≤ 511 := by
  have h1 := szP_yes h
  have h2 : p.parts.length = (partsL p.kids).length + 1 := by rw [parts_eq, List.length_cons]
  omega

set_option maxRecDepth 20000 in
set_option maxHeartbeats 4000000 in
theorem FnPlanSize_walk (A : Option Addr) (c : Nat) (xs : List Int) (w : World) (hc : xs.length ≤ c) (hm : c ≤ maxLen) (hg : ∀ x ∈ xs, 0 ≤ x ∧ x ≤ 255) (h : Sl 1 byteC w w.heap.size A xs) :
    Calls Try.prog 4 #[.slice A xs.length c] w fun e w' => e = .returned (.bool true) ∧ Below w.heap.size w w' := by
  have HD := Lib.hid (drawPlanSize_ok A c xs w hc hm hg h)
  have hx63 : xs.length ≤ 9223372036854775807 := by unfold maxLen at hm; omega
  clear h hg hc hm
  by_cases hx : (1048576 : Int) < xs.length
  · clear HD
    go_enter Try.func4, Try.ntmps4
    go_wp2
    go_ret
    exact ⟨rfl, Below.refl _ _⟩
  go_enter Try.func4, Try.ntmps4
  go_wp2_with fail
  refine HD.out.mono ?_
  rintro e w3 ⟨pf, px, v2, ws, rfl, ⟨hx3, how3, hwl, hwr⟩, hb3⟩
  obtain ⟨A2, c2, rfl, hc21, hc22, hs2⟩ := how3.shape intC_length
  unfold fpV
  obtain ⟨R, hR⟩ : ∃ R, szP ws px = R := ⟨_, rfl⟩
  obtain ⟨W4, hW4⟩ : ∃ z, w3.alloc (.cells #[.int .i64 pf.kind, .int .i64 pf.table, .slice pf.es.A pf.es.n pf.es.c, .slice pf.cs.A pf.cs.n pf.cs.c, .slice pf.ks.A pf.ks.n pf.ks.c] 27) = z := ⟨_, rfl⟩
  have B4 : Below w3.heap.size w3 W4 := by rw [← hW4]; exact balloc (Below.refl _ _) _
  obtain ⟨a1, a2, ⟨a3, a3', a3''⟩, ⟨a4, a4', a4''⟩, ⟨a5, a5', a5''⟩, _⟩ := hx3.in_.flat
  have r4 : Row W4 w3.heap.size 27 (fpC pf) := by rw [← hW4]; exact Row.new _ _ _
  have BX := Lib.hid (fun (z : World) (hz : Below W4.heap.size W4 z) => show (z.cell? ⟨w3.heap.size, 0, none⟩ = some (.int .i64 pf.kind) ∧ z.cell? ⟨w3.heap.size, 1, none⟩ = some (.int .i64 pf.table) ∧ z.cell? ⟨w3.heap.size, 2, none⟩ = some (.slice pf.es.A pf.es.n pf.es.c) ∧ z.cell? ⟨w3.heap.size, 3, none⟩ = some (.slice pf.cs.A pf.cs.n pf.cs.c) ∧ z.cell? ⟨w3.heap.size, 4, none⟩ = some (.slice pf.ks.A pf.ks.n pf.ks.c)) from ⟨(r4.on hz).cell 0, (r4.on hz).cell 1, (r4.on hz).cell 2, (r4.on hz).cell 3, (r4.on hz).cell 4⟩)
  have hwb : ws.length ≤ maxLen := by unfold maxLen; omega
  have KI := Lib.hid (fun (p : Pl) (f : FP) (Q : Int) (z : World) (hz : Below w3.heap.size w3 z) (hp : PlIn z z.heap.size f p) (hQ : szP ws p = Q) => implPlanSize_ok p f ws A2 c2 z Q hp hwb (hs2.sl.on hz) hQ)
  have KS := Lib.hid (fun (z : World) (hz : Below w3.heap.size w3 z) => specPlanSize_ok px pf ws A2 c2 z R (hx3.in_.on hz) hwb (hs2.sl.on hz) hR)
  have KW := Lib.hid (fun (z : World) (hz : Below w3.heap.size w3 z) (Q : Int) (hQ : widthP ws px = Q) => PlanWidth_ok px pf ws A2 c2 z Q (hx3.in_.on hz) hwb (hs2.sl.on hz) hQ)
  have KT := Lib.hid (fun (z : World) (hz : Below w3.heap.size w3 z) (hv : widthP ws px ≠ 0) => tablesOf_ok px pf ws A2 c2 z (hx3.in_.on hz) hwb (hs2.sl.on hz) hv)
  have K1 := Lib.hid (KI.out px pf R W4 B4 (hx3.in_.on B4) hR)
  unfold fpV at KS K1 KW KT
  have HX3 := Lib.hid (fun (z : World) (hz : Below w3.heap.size w3 z) => hx3.in_.on hz)
  have HR := Lib.hid hR
  have HB3 := Lib.hid (And.intro hb3 B4)
  have HW4 := Lib.hid hW4
  have Ha5 := Lib.hid a5
  have hkm : px.kids.length ≤ 9223372036854775807 := by unfold maxLen at a5''; omega
  obtain ⟨x0, x1, x2, x3, x4⟩ := BX.out _ (Below.refl _ _)
  clear hx3 how3 hwl hwr hs2 hb3 B4 r4 hW4 hR hc21 hwb HD a1 a2 a3 a3' a3'' a4 a4' a4'' a5 a5' a5''
  go_upto_region 4 with fail
  rw [HW4.out]
  go_wp2_with fail
  refine K1.out.mono ?_
  rintro e w5 ⟨rfl, hb5⟩
  have H5 := Lib.hid hb5
  obtain ⟨y0, y1, y2, y3, y4⟩ := BX.out _ hb5
  clear hb5 x0 x1 x2 x3 x4
  have hnn : (R != R) = false := by simp
  have hee : (R == R) = true := by simp
  go_wp2_with fail
  refine (KS.out _ (bch HB3.out.2 H5.out)).mono ?_
  rintro e w6 ⟨rfl, hb6⟩
  have H6 := Lib.hid (bch H5.out hb6)
  obtain ⟨x0, x1, x2, x3, x4⟩ := BX.out _ H6.out
  clear hb6 y0 y1 y2 y3 y4
  by_cases hR0 : R = 0
  · have hw0 : widthP ws px = 0 := Classical.byContradiction fun hn => by have := szP_pos hn; have := HR.out; omega
    subst hR0
    have Hw0 := Lib.hid hw0
    clear hw0
    go_wp2_with fail
    refine (KS.out _ (bch HB3.out.2 H6.out)).mono ?_
    rintro e w7 ⟨rfl, hb7⟩
    have H7 := Lib.hid (bch H6.out hb7)
    obtain ⟨y0, y1, y2, y3, y4⟩ := BX.out _ H7.out
    clear hb7 x0 x1 x2 x3 x4
    go_wp2_with fail
    refine (KW.out _ (bch HB3.out.2 H7.out) 0 Hw0.out).mono ?_
    rintro e w8 ⟨rfl, hb8⟩
    go_wp2
    go_ret
    exact ⟨rfl, bch HB3.out.1 (bch (bch HB3.out.2 H7.out) hb8)⟩
  have hR0' : (R == 0) = false := by simpa using hR0
  have hwn : widthP ws px ≠ 0 := fun hn => hR0 (by rw [← HR.out]; exact szP_no hn)
  have hRp : R = (px.parts.length : Nat) ∧ px.parts.length ≤ 511 := by rw [← HR.out]; exact szP_yes hwn
  obtain ⟨N, hN⟩ : ∃ N, px.parts.length = N := ⟨_, rfl⟩
  have hNk : 1 + (partsL px.kids).length = N := by rw [← hN, parts_eq, List.length_cons]; omega
  rw [hN] at hRp
  obtain ⟨hRN, hN5⟩ := hRp
  have HRN := Lib.hid (And.intro hRN (And.intro hN hNk))
  have Hwn := Lib.hid hwn
  subst hRN
  clear hwn hN hNk hR0
  go_wp2
  go_loopg [6, 7] px.kids.length (fun g tv iv wr => ∃ (i m : Nat), i ≤ px.kids.length ∧ g = px.kids.length - i ∧ iv = .int .i64 i ∧ tv = .int .i64 m ∧ m = 1 + (partsL (px.kids.take i)).length ∧ m ≤ 511 ∧ Below W4.heap.size W4 wr)
  case atStart => exact ⟨0, 1, by omega, by omega, rfl, rfl, by rw [List.take_zero, partsL]; rfl, by omega, H6.out⟩
  case round =>
    obtain ⟨i, m, hi, rfl, rfl, rfl, hm, hm5, hb⟩ := hrel
    have HM := Lib.hid hm
    have HB := Lib.hid hb
    obtain ⟨z0, z1, z2, z3, z4⟩ := BX.out _ hb
    rw [Ha5.out] at z4
    clear hm hb x0 x1 x2 x3 x4
    by_cases hil : i < px.kids.length
    · have hiI : (i : Int) < (px.kids.length : Int) := by omega
      obtain ⟨qi, oi, g, hAi, hqi, ⟨d0, d1, d2, d3, d4⟩, hg⟩ := (HX3.out _ (bch HB3.out.2 HB.out)).kid hil
      rw [hAi] at z4
      have hst : (partsL (px.kids.take (i + 1))).length = (partsL (px.kids.take i)).length + (px.kids[i]).parts.length := by rw [partsL_take hil, List.length_append]
      have htot : (partsL (px.kids.take (i + 1))).length ≤ (partsL px.kids).length := by
        have h2 : partsL px.kids = partsL (px.kids.take (i + 1)) ++ partsL (px.kids.drop (i + 1)) := by rw [← partsL_append, List.take_append_drop]
        rw [h2, List.length_append]; omega
      have hwk := widthP_kid Hwn.out (List.getElem_mem hil)
      obtain ⟨s, hs⟩ : ∃ s, (px.kids[i]).parts.length = s := ⟨_, rfl⟩
      have HX := Lib.hid (KI.out px.kids[i] g s wr (bch HB3.out.2 HB.out) hg (by rw [(szP_yes hwk).1, hs]))
      unfold fpV at HX
      rw [hs] at hst
      have hms : m + s ≤ 511 := by have := HRN.out; have := HM.out; omega
      have Hst := Lib.hid (show m + s = 1 + (partsL (px.kids.take (i + 1))).length by have := HM.out; omega)
      clear hAi hg hs hst htot hwk
      go_wp2_with fail
      refine HX.out.mono ?_
      rintro e w9 ⟨rfl, hb9⟩
      have HB9 := Lib.hid (bch HB.out hb9)
      have hww : IntKind.i64.wrap ((m : Int) + (s : Int)) = (m : Int) + (s : Int) := IntWalk.i64_in _ (by omega)
      clear hb9
      go_wp2
      go_roundg (px.kids.length - (i + 1))
      case measure => omega
      case rel => exact ⟨i + 1, m + s, by omega, rfl, by go_num, by congr 1, Hst.out, hms, HB9.out⟩
    · have hiI : ¬ (i : Int) < (px.kids.length : Int) := by omega
      have hmN : m = N := by rw [HM.out, List.take_of_length_le (show px.kids.length ≤ i by omega)]; exact HRN.out.2.2
      subst hmN
      rw [Ha5.out] at KT
      obtain ⟨j, hj, hjs⟩ := parts_scan (ws := ws) 8 px (widthZ_ok Hwn.out).2
      have HT := Lib.hid (show 0 < (tabsOf ws.length px.parts).length ∧ (tabsOf ws.length px.parts).length ≤ m from ⟨tabsOf_pos hj hjs, by rw [← HRN.out.2.1]; exact tabsOf_le _ _⟩)
      obtain ⟨t, ht⟩ : ∃ t, (tabsOf ws.length px.parts).length = t := ⟨_, rfl⟩
      rw [ht] at HT KT
      obtain ⟨ht0, htm⟩ := HT.out
      have hmm : ((m : Int) == (m : Int)) = true := by simp
      have ht0I : (0 : Int) < (t : Int) := by omega
      have htmI : (t : Int) ≤ (m : Int) := by omega
      clear hj hjs ht
      go_wp2_with fail
      refine (KT.out _ (bch HB3.out.2 HB.out) Hwn.out).mono ?_
      rintro e w10 ⟨v10, ts, rfl, how10, hl10, hb10⟩
      obtain ⟨A10, d10, rfl, _, _, _⟩ := how10.shape intC_length
      have HB10 := Lib.hid (bch HB.out hb10)
      obtain ⟨y0, y1, y2, y3, y4⟩ := BX.out _ HB10.out
      rw [Ha5.out] at y4
      rw [hl10]
      clear how10 hl10 hb10 z0 z1 z2 z3 z4
      go_wp2_with fail
      refine (KT.out _ (bch HB3.out.2 HB10.out) Hwn.out).mono ?_
      rintro e w11 ⟨v11, ts2, rfl, how11, hl11, hb11⟩
      obtain ⟨A11, d11, rfl, _, _, _⟩ := how11.shape intC_length
      have HB11 := Lib.hid (bch HB10.out hb11)
      rw [hl11]
      clear how11 hl11 hb11
      go_wp2
      go_ret
      exact ⟨rfl, bch HB3.out.1 (bch HB3.out.2 HB11.out)⟩

namespace lawFnPlanSize
theorem own : ownKnob Try.prog.godebug = none := by kernel_rfl
theorem laidOut : laidOutB Try.prog = true := by kernel_rfl

set_option maxRecDepth 100000 in
theorem lifted (os : Os) (started : os.Started) (H : Type) (enc : TypeId × Value → H) :
    ReturnsInHanded {} Try.checked os 4 .any (Rows.fnPlanSizeSpec.pre6 enc Try.prog Try.f4 Rows.fnPlanSizeRow.domain false) (Rows.fnPlanSizeSpec.post enc Try.prog Try.f4 false true false false) := by
  refine returnsInHanded_of_change (C := Try.checked) own started (by kernel_rfl) Try.func4
    (ChangeSpec.witness6 (enc := enc) (C := Try.checked) false ⟨#[], #[.slice none 0 0], []⟩ 8 (by kernel_rfl) (by kernel_rfl) (by kernel_rfl) (by kernel_rfl)) ?_
  intro W base args ds gs before hval0 hW hcnd _
  have hval : ∀ (j : Nat) t v, Try.f4.params[j]? = some t → args[j]? = some v → Value.okWide Try.prog W .any base t v := hval0
  have hW' := hW
  obtain ⟨p, q, hA0, hV, rfl, hfz, hnd⟩ := hW
  have hA : DataW.TrodAll enc Try.prog W 0 (fun _ => true) true Try.f4.params.toList args.toList ds p := hA0
  rw [Try.params4] at hA hval
  obtain ⟨v0, vs0, d0, ds0, p0, q0, hargs, rfl, rfl, h0, r0⟩ := trodAll_cons hA
  obtain ⟨rfl, rfl, rfl⟩ := trodAll_nil r0
  obtain rfl : args = #[v0] := by cases args; simp_all
  obtain ⟨rfl, rfl⟩ := trodVars_none hV
  obtain ⟨a0, len0, c0, rfl⟩ := okWide_slice Try.underlying22 (hval 0 22 v0 rfl rfl)
  have k0 := h0
  have lt0 : ∀ x ∈ p0, x.block < W.heap.size := by obtain ⟨m, hm⟩ := k0; exact DataW.trod_lt m _ _ _ hm
  obtain ⟨f0, h0⟩ := h0
  obtain ⟨xs0, rfl, hc0, hm0, g0, s0⟩ := open_sl (sz := 1) (ec := byteC) Try.underlying22 (by kernel_rfl) (by omega) byteC_length (el_byte Try.underlying5) h0
  clear hA0 hval0
  refine (FnPlanSize_walk a0 c0 xs0 W hc0 hm0 g0 s0).mono fun e W' ⟨he, bel⟩ => ?_
  subst he
  exact ⟨_, rfl, _, _, _, [], _, [], hW', trodAll_mk1 (shut_bool Try.underlying4 _), (trodAll_cons_mk (Below.trod laidOut (by kernel_rfl) (of_decide_eq_true (by kernel_rfl)) k0 bel lt0) trodAll_mk0), rfl, bel.frame _, fun h => by cases h⟩

theorem over : Rows.fnPlanSizeRow.holds Try.pinned (OpenSpec.ofChange Rows.fnPlanSizeSpec) :=
  OpenClaim.holds_of_wide 4 Try.f4 rfl rfl rfl rfl rfl rfl rfl ⟨rfl, rfl, rfl, rfl, rfl⟩ rfl rfl rfl rfl rfl (by kernel_rfl) Try.func4 (by kernel_rfl)
    (of_decide_eq_true (by kernel_rfl)) (by unfold Func.isWrapper; first | (rw [if_pos (by decide +kernel)]; kernel_rfl) | (rw [if_neg (by decide +kernel)]; exact ⟨rfl, rfl⟩))
    (fun os started H enc _ => lifted os started H enc)

theorem proved : Rows.FnPlanSizeSaid := over
end lawFnPlanSize
#print axioms lawFnPlanSize.proved

end Go.Proofs.Ytooeicfhciefoaa
