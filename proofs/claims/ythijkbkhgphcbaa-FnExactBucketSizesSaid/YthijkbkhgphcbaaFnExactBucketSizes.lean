/-
  FnExactBucketSizes returns true for all arguments and leaves them as they were. No condition.
-/
import Derived.Test.YthijkbkhgphcbaaRows
import Derived.OpenShut
import Derived.Test.YthijkbkhgphcbaaBkI
import Derived.Test.YthijkbkhgphcbaaArg
import Derived.Test.YthijkbkhgphcbaaArgT
namespace Go.Proofs.Ythijkbkhgphcbaa
open Go.RowKit Go.Qo
open Go.ChangeShapes Go.WideShapes Go.ChangeAt
set_option linter.unusedVariables false
set_option linter.unusedSimpArgs false

set_option maxRecDepth 20000 in
set_option maxHeartbeats 4000000 in
theorem FnExactBucketSizes_walk (W : Int) (A : Option Addr) (c : Nat) (xs : List Row1) (col nb : Int) (w : World) (hn : xs.length ≤ maxLen) (h : Rws w w.heap.size A xs) (wf1 : (Lit.int .i64 col).wf = true) (wf2 : (Lit.int .i64 nb).wf = true) :
    Calls Try.prog 6 #[.agg #[.int .i64 W, .slice A xs.length c], .int .i64 col, .int .i64 nb] w fun e w' => e = .returned (.bool true) ∧ Below w.heap.size w w' := by
  clear wf1 wf2
  obtain ⟨l, hl⟩ : ∃ l, szR 1048576 xs = l := ⟨_, rfl⟩
  have K1 := Lib.hid (fun (z : World) (hz : Below w.heap.size w z) => szTable_ok W A c xs 1048576 z hn (by omega) (by omega) (h.on hz) l hl)
  have hr1 := szR_range xs 1048576 (by omega)
  rw [hl] at hr1
  have Hr1 := Lib.hid hr1
  clear hr1 hl
  rcases Hr1.out with rfl | ⟨hl0, hl1, hx1, hx2⟩
  · clear h
    go_enter Try.func6, Try.ntmps6
    go_wp2_with fail
    refine (K1.out _ (balloc (Below.refl _ _) _)).mono ?_; rintro e w1 ⟨rfl, hb1⟩
    go_wp2_with fail
    go_ret
    exact ⟨rfl, bbox1 hb1⟩
  · obtain ⟨d, hd⟩ : ∃ d : Bool, d = true ↔ BkOk W col nb xs := ⟨_, @decide_eq_true_iff _ (Classical.propDecidable _)⟩
    obtain ⟨ns, hns⟩ : ∃ ns, (if d then bSizes col nb.toNat xs else []) = ns := ⟨_, rfl⟩
    have hnl : ns.length ≤ 1048576 := by
      rw [← hns]
      split
      · rename_i hdt
        have := (hd.1 hdt).2.2
        rw [bSizes_length]; omega
      · simp
    have HX := Lib.hid (And.intro hx1 hx2)
    have HH := Lib.hid h
    have hxl : xs.length ≤ 1048576 := by have := hx1; omega
    have S1 := Lib.hid (fun (B : Option Addr) (cc : Nat) (z : World) (hz : Rws z z.heap.size B xs) => (specBucketSizes_ok W col nb B cc xs z hxl hz d hd))
    have S2 := Lib.hid (fun (B : Option Addr) (cc : Nat) (z : World) (hz : Rws z z.heap.size B xs) => (implBucketSizes_ok W col nb B cc xs z hxl hz d hd))
    rw [hns] at S1 S2
    have T1 := Lib.hid (fun (z : World) (hz : Below w.heap.size w z) => toTable_ok W A c xs z (by omega) (fun r hr => by have := HX.out.2 r hr; omega) (HH.out.on hz))
    have ML := Lib.hid (fun r (hr : r ∈ xs) => show r.length ≤ maxLen by have := HX.out.2 r hr; unfold maxLen; omega)
    have ML2 := Lib.hid (fun r (hr : r ∈ xs) => show r.length ≤ 1048576 by have := HX.out.2 r hr; omega)
    clear h hd hns hx1 hx2
    go_enter Try.func6, Try.ntmps6
    go_wp2_with fail
    refine (K1.out _ (balloc (Below.refl _ _) _)).mono ?_; rintro e w1 ⟨rfl, hb1⟩
    have R1 := Lib.hid ((Row.new w 30 #[.int .i64 W, .slice A xs.length c]).on hb1)
    have B1 := Lib.hid (bbox1 hb1)
    have KS := Lib.hid (fun (z : World) (hz : Below w1.heap.size w1 z) => show (z.cell? ⟨w.heap.size, 0, none⟩ = some (.int .i64 W) ∧ z.cell? ⟨w.heap.size, 1, none⟩ = some (.slice A xs.length c)) from ⟨(R1.out.on hz).cell 0, (R1.out.on hz).cell 1⟩)
    have h1a := (KS.out w1 (Below.refl _ _)).1
    have h1b := (KS.out w1 (Below.refl _ _)).2
    clear hb1
    go_wp2_with fail
    refine (T1.out _ B1.out).mono ?_; rintro e w2 ⟨b2, bs2, rfl, hb2, ho2⟩
    have O2 := Lib.hid (ho2.svs (by omega) valC_length ML.out)
    have H2 := Lib.hid hb2
    clear hb2 ho2
    go_wp2_with fail
    refine (S1.out _ _ _ O2.out).mono ?_; rintro e w3 ⟨v3, rfl, how3, hb3⟩
    obtain ⟨A3, c3, rfl, hc31, hc32, hs3⟩ := how3.shape intC_length
    have HS3 := Lib.hid hs3.sl
    have H3 := Lib.hid (bch H2.out hb3)
    clear how3 hb3 hs3 hc31 hc32
    have h3a := (KS.out w3 H3.out).1
    have h3b := (KS.out w3 H3.out).2
    go_wp2_with fail
    refine (T1.out _ (bch B1.out H3.out)).mono ?_; rintro e w4 ⟨b4, bs4, rfl, hb4, ho4⟩
    have O4 := Lib.hid ho4
    have H4 := Lib.hid hb4
    clear hb4 ho4
    have B4 := Lib.hid (bch H3.out H4.out)
    have h4a := (KS.out w4 B4.out).1
    have h4b := (KS.out w4 B4.out).2
    go_wp2_with fail
    have hbA := balloc (Below.refl _ w4) (.cells #[.int .i64 W, .slice (some ⟨b4, 0, none⟩) xs.length xs.length] 35)
    have R4 := Lib.hid (Row.new w4 35 #[.int .i64 W, .slice (some ⟨b4, 0, none⟩) xs.length xs.length])
    have HbA := Lib.hid hbA
    refine (S2.out _ _ _ ((O4.out.on HbA.out).svs (by omega) valC_length ML.out)).mono ?_; rintro e w5 ⟨v5, rfl, how5, hb5⟩
    obtain ⟨A5, c5, rfl, hc51, hc52, hs5⟩ := how5.shape intC_length
    have HO5 := Lib.hid how5
    have HS5 := Lib.hid hs5
    have H5 := Lib.hid (bch HbA.out hb5)
    have B5 := Lib.hid (bch B4.out H5.out)
    have R5 := Lib.hid (R4.out.on hb5)
    clear hbA how5 hs5 hb5 hc51 hc52 h4a h4b h3a h3b h1a h1b
    go_wp2_with fail
    refine (eqIntS_ok A5 A3 c5 c3 ns ns w5 (by unfold maxLen; omega) (by unfold maxLen; omega) HS5.out.sl (HS3.out.on (bch H4.out H5.out))).mono ?_
    rintro e w6 ⟨rfl, hb6⟩
    rw [decide_eq_true rfl]
    have H6 := Lib.hid hb6
    have B6 := Lib.hid (bch B5.out hb6)
    have R6 := Lib.hid (R5.out.on hb6)
    clear hb6
    have BX := Lib.hid (fun (bb : Nat) (hbb : bb ∈ bs4) => show w3.heap.size ≤ bb ∧ bb < w4.heap.size by
      refine ⟨(O4.out.low bb hbb).1, ?_⟩
      obtain ⟨i, hi, rfl⟩ := List.mem_iff_getElem.1 hbb
      have hi' : i < xs.length := by rw [← O4.out.len]; exact hi
      exact (O4.out.inner i _ _ (List.getElem?_eq_getElem hi) (List.getElem?_eq_getElem hi')).lt)
    go_wp2_with fail
    have hd6 : Below w6.heap.size w6 w6.drew := (Below.refl _ _).drew
    have Hd6 := Lib.hid hd6
    clear hd6
    have H46 := Lib.hid (bch H5.out H6.out)
    have KT := Lib.hid (fun (z : World) (hz : Below w6.heap.size w6 z) => show ((z.cell? ⟨w4.heap.size, 0, none⟩ = some (.int .i64 W) ∧ z.cell? ⟨w4.heap.size, 1, none⟩ = some (.slice (some ⟨b4, 0, none⟩) xs.length xs.length)) ∧ z.cell? ⟨w.heap.size, 0, none⟩ = some (.int .i64 W) ∧ z.cell? ⟨w.heap.size, 1, none⟩ = some (.slice A xs.length c))
      from ⟨⟨(R6.out.on hz).cell 0, (R6.out.on hz).cell 1⟩, KS.out _ (bch B6.out hz)⟩)
    have X6 := Lib.hid (fun (z : World) (hz : Below w6.heap.size w6 z) => ((O4.out.on H46.out).on hz).svs (by omega) valC_length ML.out)
    have hS6 := KT.out _ Hd6.out
    go_region_held3 (fun z => (z.cell? ⟨w4.heap.size, 0, none⟩ = some (.int .i64 W) ∧ z.cell? ⟨w4.heap.size, 1, none⟩ = some (.slice (some ⟨b4, 0, none⟩) xs.length xs.length)) ∧ z.cell? ⟨w.heap.size, 0, none⟩ = some (.int .i64 W) ∧ z.cell? ⟨w.heap.size, 1, none⟩ = some (.slice A xs.length c))
      (assumption)
      (first
        | (go_at_call 16; refine (T1.out _ (bch (bch B1.out B6.out) Hd6.out)).mono ?_; rintro e w7 ⟨b7, bs7, rfl, hb7, ho7⟩; have H7 := Lib.hid (bch Hd6.out hb7); have hS7 := KT.out _ H7.out; have O7 := Lib.hid ho7; clear hb7 ho7)
        | (go_at_call 18; refine (eqTable_ok W W _ _ _ _ xs xs _ hn hn (X6.out _ H7.out) (O7.out.svs (by omega) valC_length ML.out) true (by simp)).mono ?_; rintro e w8 ⟨rfl, hb8⟩; have H8 := Lib.hid (bch H7.out hb8); have hS8 := KT.out _ H8.out; clear hb8))
    go_wp2_with fail
    have P3 := Lib.hid (bch H4.out (bch H46.out H8.out))
    refine (markTable_ok W _ b4 _ bs4 xs _ 1 _ (by omega) (by omega) hxl ML2.out ((O4.out.on H46.out).on H8.out)).mono ?_
    rintro e w9 ⟨q9, rfl, hq9, hon9⟩
    have hq9n : ¬ (q9 < 0) := by omega
    have ON := Lib.hid hon9
    have P9 := Lib.hid (Only.from_ P3.out rfl ON.out (fun i hi => (BX.out i hi).1))
    clear hon9 hS6 hS7 hS8
    have hO9 : Ow (w4.alloc (.cells #[.int .i64 W, .slice (some ⟨b4, 0, none⟩) xs.length xs.length] 35)).heap.size 3 1 intC w9 (.slice A5 ns.length c5) ns :=
      ((HO5.out.on H6.out).on H8.out).only ON.out (fun b hb => .inl (by have := (BX.out b hb).2; have := HbA.out.size; omega))
    have HO9 := Lib.hid hO9
    obtain ⟨A9, c9, he9, _, _, hs9⟩ := hO9.shape intC_length
    injection he9 with e9a e9b e9c
    subst e9a
    have HS9 := Lib.hid hs9
    clear hO9 hs9 e9b e9c
    go_wp2_with fail
    refine (eqIntS_ok A5 A3 c5 c3 ns ns w9 (by unfold maxLen; omega) (by unfold maxLen; omega) HS9.out.sl (HS3.out.on P9.out)).mono ?_
    rintro e w10 ⟨rfl, hb10⟩
    rw [decide_eq_true rfl]
    have P10 := Lib.hid (bch P9.out hb10)
    have HO10 := Lib.hid (HO9.out.on hb10)
    clear hb10
    go_wp2_with fail
    refine (markIntS_ok _ A5 c5 ns 1 w10 (by omega) (by omega) hnl HO10.out).mono ?_
    rintro e w11 ⟨rfl, ho11, hon11, _⟩
    have ON11 := Lib.hid hon11
    have P11 := Lib.hid (Only.from_ P10.out rfl ON11.out (fun i hi => by have h1 := (HO10.out.ty i hi).1; have h2 := HbA.out.size; have h3 := H4.out.size; omega))
    have HO11 := Lib.hid ho11
    obtain ⟨A11, c11, he11, _, _, hs11⟩ := ho11.shape intC_length
    injection he11 with e11a e11b e11c
    subst e11a
    have HS11 := Lib.hid hs11.sl
    clear ho11 hon11 hs11 e11b e11c
    have hq0 : (0 : Int) ≤ 1 + ns.length := by omega
    have hqq : ((1 + (ns.length : Int)) != 1 + ns.length) = false := by simp
    go_wp2_with fail
    refine (heldIntS_ok A5 c5 ns.length 1 w11 (by omega) (by omega) hnl HS11.out).mono ?_
    rintro e w12 ⟨rfl, rfl⟩
    have hS11 := (KS.out _ (bch H3.out P11.out))
    go_wp2_with fail
    refine (T1.out _ (bch B1.out (bch H3.out P11.out))).mono ?_; rintro e w13 ⟨b13, bs13, rfl, hb13, ho13⟩
    have O13 := Lib.hid (ho13.svs (by omega) valC_length ML.out)
    have H13 := Lib.hid hb13
    clear hb13 ho13
    go_wp2_with fail
    refine (S2.out _ _ _ O13.out).mono ?_; rintro e w14 ⟨v14, rfl, how14, hb14⟩
    obtain ⟨A14, c14, rfl, _, _, hs14⟩ := how14.shape intC_length
    have HS14 := Lib.hid hs14.sl
    have H14 := Lib.hid (bch H13.out hb14)
    clear how14 hb14 hs14
    go_wp2_with fail
    refine (eqIntS_ok A14 A3 c14 c3 ns ns w14 (by unfold maxLen; omega) (by unfold maxLen; omega) HS14.out (HS3.out.on (bch P11.out H14.out))).mono ?_
    rintro e w15 ⟨rfl, hb15⟩
    rw [decide_eq_true rfl]
    have H15 := Lib.hid (bch H14.out hb15)
    clear hb15
    go_wp2_with fail
    refine (heldIntS_ok A5 c5 ns.length 1 w15 (by omega) (by omega) hnl (HS11.out.on H15.out)).mono ?_
    rintro e w16 ⟨rfl, rfl⟩
    go_wp2_with fail
    go_ret
    exact ⟨rfl, bch B1.out (bch H3.out (bch P11.out H15.out))⟩

namespace lawFnExactBucketSizes
theorem own : ownKnob Try.prog.godebug = none := by kernel_rfl
theorem laidOut : laidOutB Try.prog = true := by kernel_rfl
theorem valTypes : ValTypes Try.prog 108 4 3 := ⟨⟨_, _, Try.underlying108, rfl, rfl, rfl, rfl⟩, Try.underlying4, Try.underlying3, by kernel_rfl, by kernel_rfl, by kernel_rfl⟩

set_option maxRecDepth 100000 in
theorem lifted (os : Os) (started : os.Started) (H : Type) (enc : TypeId × Value → H) :
    ReturnsInHanded {} Try.checked os 6 .any (Rows.fnExactBucketSizesSpec.pre6 enc Try.prog Try.f6 Rows.fnExactBucketSizesRow.domain false) (Rows.fnExactBucketSizesSpec.post enc Try.prog Try.f6 false true false false) := by
  refine returnsInHanded_of_change (C := Try.checked) own started (by kernel_rfl) Try.func6
    (ChangeSpec.witness6 (enc := enc) (C := Try.checked) false ⟨#[], #[.agg #[.int .i64 0, .slice none 0 0], .int .i64 0, .int .i64 0], []⟩ 8 (by kernel_rfl) (by kernel_rfl) (by kernel_rfl) (by kernel_rfl)) ?_
  intro W base args ds gs before hval0 hW hcnd _
  have hval : ∀ (j : Nat) t v, Try.f6.params[j]? = some t → args[j]? = some v → Value.okWide Try.prog W .any base t v := hval0
  have hW' := hW
  obtain ⟨p, q, hA0, hV, rfl, hfz, hnd⟩ := hW
  have hA : DataW.TrodAll enc Try.prog W 0 (fun _ => true) true Try.f6.params.toList args.toList ds p := hA0
  rw [Try.params6] at hA hval
  obtain ⟨v0, vs0, d0, ds0, p0, q0, hargs, rfl, rfl, h0, r0⟩ := trodAll_cons hA
  obtain ⟨v1, vs1, d1, ds1, p1, q1, rfl, rfl, rfl, h1, r1⟩ := trodAll_cons r0
  obtain ⟨v2, vs2, d2, ds2, p2, q2, rfl, rfl, rfl, h2, r2⟩ := trodAll_cons r1
  obtain ⟨rfl, rfl, rfl⟩ := trodAll_nil r2
  obtain rfl : args = #[v0, v1, v2] := by cases args; simp_all
  obtain ⟨rfl, rfl⟩ := trodVars_none hV
  obtain ⟨cs0, rfl, hz0⟩ := okWide_struct Try.underlying30 (hval 0 30 v0 rfl rfl)
  obtain ⟨cs0⟩ := cs0
  obtain ⟨n1, rfl⟩ := okWide_int Try.underlying3 (hval 1 3 v1 rfl rfl)
  obtain ⟨n2, rfl⟩ := okWide_int Try.underlying3 (hval 2 3 v2 rfl rfl)
  have k0 := h0
  have lt0 : ∀ x ∈ p0, x.block < W.heap.size := by obtain ⟨m, hm⟩ := k0; exact DataW.trod_lt m _ _ _ hm
  obtain ⟨f0, h0⟩ := h0
  have k1 := h1
  have lt1 : ∀ x ∈ p1, x.block < W.heap.size := by obtain ⟨m, hm⟩ := k1; exact DataW.trod_lt m _ _ _ hm
  obtain ⟨f1, h1⟩ := h1
  have k2 := h2
  have lt2 : ∀ x ∈ p2, x.block < W.heap.size := by obtain ⟨m, hm⟩ := k2; exact DataW.trod_lt m _ _ _ hm
  obtain ⟨f2, h2⟩ := h2
  obtain ⟨W0, a0, c0, xs0, hcs0, _, hc0, hm0, s0⟩ := open_tab valTypes Try.underlying28 Try.underlying73 (by kernel_rfl) (by kernel_rfl) ⟨_, _, Try.underlying30, rfl, rfl, rfl, rfl⟩ (hz0.trans (by kernel_rfl)) h0
  have hcs0 : cs0 = [.int .i64 W0, .slice a0 xs0.length c0] := hcs0
  subst hcs0
  have wf1 : (Lit.int .i64 n1).wf = true := by
    obtain ⟨_, hq, _, wq⟩ := DataW.trod_int Try.underlying3 h1
    cases hq
    exact wq
  have wf2 : (Lit.int .i64 n2).wf = true := by
    obtain ⟨_, hq, _, wq⟩ := DataW.trod_int Try.underlying3 h2
    cases hq
    exact wq
  clear hA0 hval0
  refine (FnExactBucketSizes_walk W0 a0 c0 xs0 n1 n2 W (Nat.le_trans hc0 hm0) s0 wf1 wf2).mono fun e W' ⟨he, bel⟩ => ?_
  subst he
  exact ⟨_, rfl, _, _, _, [], _, [], hW', trodAll_mk1 (shut_bool Try.underlying4 _), (trodAll_cons_mk (Below.trod laidOut (by kernel_rfl) (of_decide_eq_true (by kernel_rfl)) k0 bel lt0) (trodAll_cons_mk (Below.trod laidOut (by kernel_rfl) (of_decide_eq_true (by kernel_rfl)) k1 bel lt1) (trodAll_cons_mk (Below.trod laidOut (by kernel_rfl) (of_decide_eq_true (by kernel_rfl)) k2 bel lt2) trodAll_mk0))), rfl, bel.frame _, fun h => by cases h⟩

theorem over : Rows.fnExactBucketSizesRow.holds Try.pinned (OpenSpec.ofChange Rows.fnExactBucketSizesSpec) :=
  OpenClaim.holds_of_wide 6 Try.f6 rfl rfl rfl rfl rfl rfl rfl ⟨rfl, rfl, rfl, rfl, rfl⟩ rfl rfl rfl rfl rfl (by kernel_rfl) Try.func6 (by kernel_rfl)
    (of_decide_eq_true (by kernel_rfl)) (by unfold Func.isWrapper; first | (rw [if_pos (by decide +kernel)]; kernel_rfl) | (rw [if_neg (by decide +kernel)]; exact ⟨rfl, rfl⟩))
    (fun os started H enc _ => lifted os started H enc)

theorem proved : Rows.FnExactBucketSizesSaid := over
end lawFnExactBucketSizes
#print axioms lawFnExactBucketSizes.proved

end Go.Proofs.Ythijkbkhgphcbaa
