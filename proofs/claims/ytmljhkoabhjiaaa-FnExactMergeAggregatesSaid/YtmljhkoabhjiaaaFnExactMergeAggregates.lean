/-
  FnExactMergeAggregates returns true for all arguments and leaves them as they were. No condition.
-/
import Derived.Test.YtmljhkoabhjiaaaRows
import Derived.OpenShut
import Derived.Deep.RegionHeld3
import Derived.Deep.DeepCutAuto
import Derived.Test.YtmljhkoabhjiaaaAgM
import Derived.Test.YtmljhkoabhjiaaaArg
import Derived.Test.YtmljhkoabhjiaaaArgT
namespace Go.Proofs.Ytmljhkoabhjiaaa
open Go.RowKit Go.Qo
open Go.ChangeShapes Go.WideShapes Go.ChangeAt
set_option linter.unusedVariables false
set_option linter.unusedSimpArgs false

set_option maxRecDepth 20000 in
set_option maxHeartbeats 2000000 in
theorem FnExactMergeAggregates_walk (a b : Val) (k : Int) (w : World) (wfa : (Lit.int .i64 a.2).wf = true) (wfb : (Lit.int .i64 b.2).wf = true) (wf : (Lit.int .i64 k).wf = true) :
    Calls Try.prog 4 #[.agg #[.bool a.1, .int .i64 a.2], .agg #[.bool b.1, .int .i64 b.2], .int .i64 k] w fun e w' => e = .returned (.bool true) ∧ Below w.heap.size w w' := by
  clear wf wfa wfb
  obtain ⟨d, hd⟩ : ∃ d : Bool, d = true ↔ MergeOk k a b := ⟨_, @decide_eq_true_iff _ (Classical.propDecidable _)⟩
  obtain ⟨m, hm⟩ : ∃ m : Val, (if d then mergeF k a b else zV) = m := ⟨_, rfl⟩
  have S1 := Lib.hid (fun (z : World) => specMerge_ok a b k z d hd)
  have S2 := Lib.hid (fun (z : World) => implMerge_ok a b k z d hd)
  rw [hm] at S1 S2
  unfold vAgg2 at S1 S2
  clear hd hm
  obtain ⟨W2, hW2⟩ : ∃ W2, (w.alloc (.cells #[.bool a.1, .int .i64 a.2] 33)).alloc (.cells #[.bool b.1, .int .i64 b.2] 33) = W2 := ⟨_, rfl⟩
  have HWE := Lib.hid hW2
  have hB2 : Below w.heap.size w W2 := by rw [← hW2]; exact balloc (balloc (Below.refl _ _) _) _
  have hRa : Row W2 w.heap.size 33 [.bool a.1, .int .i64 a.2] := by rw [← hW2]; exact Row.first _ _ _ _
  have hRb : Row W2 (w.heap.size + 1) 33 [.bool b.1, .int .i64 b.2] := by rw [← hW2]; exact Row.second _ _ _ _
  have HW := Lib.hid (And.intro hB2 (And.intro hRa hRb))
  have BX := Lib.hid (fun (z : World) (hz : Below W2.heap.size W2 z) => show (z.cell? ⟨w.heap.size, 0, none⟩ = some (.bool a.1) ∧ z.cell? ⟨w.heap.size, 1, none⟩ = some (.int .i64 a.2) ∧ z.cell? ⟨w.heap.size + 1, 0, none⟩ = some (.bool b.1) ∧ z.cell? ⟨w.heap.size + 1, 1, none⟩ = some (.int .i64 b.2))
    from ⟨(HW.out.2.1.on hz).cell 0, (HW.out.2.1.on hz).cell 1, (HW.out.2.2.on hz).cell 0, (HW.out.2.2.on hz).cell 1⟩)
  clear hB2 hRa hRb hW2
  have H2 := Lib.hid (show Below W2.heap.size W2 W2.drew from (Below.refl _ _).drew)
  have x2 := BX.out _ H2.out
  go_enter Try.func4, Try.ntmps4
  go_upto_region 1 with fail
  rw [HWE.out]
  go_cut [7, 8] (fun s7 s8 wx => s8 = .bool d ∧ ∃ q : Nat, s7 = .pointer (some ⟨q, 0, none⟩) ∧ Below W2.heap.size W2 wx ∧ W2.heap.size ≤ q ∧ Row wx q 25 [.bool m.1, .int .i64 m.2])
  case first =>
    go_region_held3 (fun z => z.cell? ⟨w.heap.size, 0, none⟩ = some (.bool a.1) ∧ z.cell? ⟨w.heap.size, 1, none⟩ = some (.int .i64 a.2) ∧ z.cell? ⟨w.heap.size + 1, 0, none⟩ = some (.bool b.1) ∧ z.cell? ⟨w.heap.size + 1, 1, none⟩ = some (.int .i64 b.2))
      (first | assumption | exact BX.out _ (balloc H2.out _) | exact BX.out _ (balloc H3.out _) | exact BX.out _ (balloc H4.out _) | exact BX.out _ (balloc H5.out _) | exact BX.out _ (below_put H5.out (by first | exact Nat.le_refl _ | exact H3.out.size | exact H4.out.size) _ _))
      (first
        | (go_at_call 21; refine (S1.out _).mono ?_; rintro e w5 ⟨rfl, hb5⟩; have H5 : Hid (Below W2.heap.size W2 w5) := Lib.hid (by first | exact bch H4.out hb5 | exact bch (balloc H4.out _) hb5); have x5 := BX.out _ H5.out; (first | (have R7 := Lib.hid (R7.out.on hb5)) | (have R7 := Lib.hid ((Row.new w4 25 #[.bool false, .int .i64 0]).on hb5)) | skip); clear hb5; (first | (have q0 := R7.out.lt; have q1 := R7.out.frozen 0; have q2 := R7.out.frozen 1; have q3 := (show _ = some (Value.bool false) from R7.out.cell 0); have q4 := (show _ = some (Value.int .i64 0) from R7.out.cell 1)) | skip))
        | (go_at_call_of 22 (Value.agg #[Value.bool b.1, Value.int .i64 b.2]); refine (toValue_ok b _).mono ?_; rintro e w4 ⟨rfl, hb4⟩; have H4 : Hid (Below W2.heap.size W2 w4) := Lib.hid (by first | exact bch H3.out hb4 | exact bch (balloc H3.out _) hb4); have x4 := BX.out _ H4.out; (first | (have R7 := Lib.hid (R7.out.on hb4)) | (have R7 := Lib.hid ((Row.new w3 25 #[.bool false, .int .i64 0]).on hb4)) | skip); clear hb4)
        | (go_at_call_of 22 (Value.agg #[Value.bool a.1, Value.int .i64 a.2]); refine (toValue_ok a _).mono ?_; rintro e w3 ⟨rfl, hb3⟩; have H3 : Hid (Below W2.heap.size W2 w3) := Lib.hid (by first | exact bch H2.out hb3 | exact bch (balloc H2.out _) hb3); have x3 := BX.out _ H3.out; (first | (have R7 := Lib.hid (show Row w3 W2.heap.size 25 [.bool false, .int .i64 0] from (Row.new W2.drew 25 #[.bool false, .int .i64 0]).on hb3)) | skip); clear hb3))
    all_goals
      go_wp2_with fail
      go_meet
      first
      | exact ⟨rfl, _, rfl, balloc H5.out _, H5.out.size, Row.new w5 _ _⟩
      | exact ⟨rfl, _, rfl, below_put H5.out (by first | exact Nat.le_refl _ | exact H3.out.size | exact H4.out.size) _ _, (by first | exact Nat.le_refl _ | exact H3.out.size | exact H4.out.size), row_put R7.out m⟩
  case rest =>
  obtain ⟨rfl, q, rfl, hBc, hqc, hrc⟩ := hcut
  clear H2 x2
  obtain ⟨W4, hW4⟩ : ∃ W4, W4 = wc := ⟨_, rfl⟩
  subst hW4
  have HC := Lib.hid (And.intro hBc hrc)
  have BY := Lib.hid (fun (z : World) (hz : Below W4.heap.size W4 z) => BX.out z (bch HC.out.1 hz))
  have H2 := Lib.hid (show Below W4.heap.size W4 W4.drew from (Below.refl _ _).drew)
  have x2 := BY.out _ H2.out
  have hqn := hrc.lt
  clear hBc hqc hrc
  go_upto_region 2 with fail
  go_cut [9, 10] (fun s7 s8 wx => s8 = .bool d ∧ ∃ q : Nat, s7 = .pointer (some ⟨q, 0, none⟩) ∧ Below W4.heap.size W4 wx ∧ W4.heap.size ≤ q ∧ Row wx q 25 [.bool m.1, .int .i64 m.2])
  case first =>
    go_region_held3 (fun z => z.cell? ⟨w.heap.size, 0, none⟩ = some (.bool a.1) ∧ z.cell? ⟨w.heap.size, 1, none⟩ = some (.int .i64 a.2) ∧ z.cell? ⟨w.heap.size + 1, 0, none⟩ = some (.bool b.1) ∧ z.cell? ⟨w.heap.size + 1, 1, none⟩ = some (.int .i64 b.2))
      (first | assumption | exact BY.out _ (balloc H2.out _) | exact BY.out _ (balloc H3.out _) | exact BY.out _ (balloc H4.out _) | exact BY.out _ (balloc H5.out _) | exact BY.out _ (below_put H5.out (by first | exact Nat.le_refl _ | exact H3.out.size | exact H4.out.size) _ _))
      (first
        | (go_at_call 23; refine (S2.out _).mono ?_; rintro e w5 ⟨rfl, hb5⟩; have H5 : Hid (Below W4.heap.size W4 w5) := Lib.hid (by first | exact bch H4.out hb5 | exact bch (balloc H4.out _) hb5); have x5 := BY.out _ H5.out; (first | (have R7 := Lib.hid (R7.out.on hb5)) | (have R7 := Lib.hid ((Row.new w4 25 #[.bool false, .int .i64 0]).on hb5)) | skip); clear hb5; (first | (have q0 := R7.out.lt; have q1 := R7.out.frozen 0; have q2 := R7.out.frozen 1; have q3 := (show _ = some (Value.bool false) from R7.out.cell 0); have q4 := (show _ = some (Value.int .i64 0) from R7.out.cell 1)) | skip))
        | (go_at_call_of 22 (Value.agg #[Value.bool b.1, Value.int .i64 b.2]); refine (toValue_ok b _).mono ?_; rintro e w4 ⟨rfl, hb4⟩; have H4 : Hid (Below W4.heap.size W4 w4) := Lib.hid (by first | exact bch H3.out hb4 | exact bch (balloc H3.out _) hb4); have x4 := BY.out _ H4.out; (first | (have R7 := Lib.hid (R7.out.on hb4)) | (have R7 := Lib.hid ((Row.new w3 25 #[.bool false, .int .i64 0]).on hb4)) | skip); clear hb4)
        | (go_at_call_of 22 (Value.agg #[Value.bool a.1, Value.int .i64 a.2]); refine (toValue_ok a _).mono ?_; rintro e w3 ⟨rfl, hb3⟩; have H3 : Hid (Below W4.heap.size W4 w3) := Lib.hid (by first | exact bch H2.out hb3 | exact bch (balloc H2.out _) hb3); have x3 := BY.out _ H3.out; (first | (have R7 := Lib.hid (show Row w3 W4.heap.size 25 [.bool false, .int .i64 0] from (Row.new W4.drew 25 #[.bool false, .int .i64 0]).on hb3)) | skip); clear hb3))
    all_goals
      go_wp2_with fail
      go_meet
      first
      | exact ⟨rfl, _, rfl, balloc H5.out _, H5.out.size, Row.new w5 _ _⟩
      | exact ⟨rfl, _, rfl, below_put H5.out (by first | exact Nat.le_refl _ | exact H3.out.size | exact H4.out.size) _ _, (by first | exact Nat.le_refl _ | exact H3.out.size | exact H4.out.size), row_put R7.out m⟩
  case rest =>
  obtain ⟨rfl, q2, rfl, hBd, hqd, hrd⟩ := hcut
  have hr1 := HC.out.2.on hBd
  have c0 : wc.cell? ⟨q, 0, none⟩ = some (.bool m.1) := hr1.cell 0
  have c1 : wc.cell? ⟨q, 1, none⟩ = some (.int .i64 m.2) := hr1.cell 1
  have c2 : wc.cell? ⟨q2, 0, none⟩ = some (.bool m.1) := hrd.cell 0
  have c3 : wc.cell? ⟨q2, 1, none⟩ = some (.int .i64 m.2) := hrd.cell 1
  have HB := Lib.hid (bch HW.out.1 (bch HC.out.1 hBd))
  have hdd : (d != d) = false := by simp
  clear hBd hqd hrd hr1 H2 x2
  go_wp2_with fail
  refine (eqValue_ok m m _).mono ?_
  rintro e w7 ⟨rfl, hb7⟩
  rw [decide_eq_true rfl]
  have H7 := Lib.hid (bch HB.out hb7)
  clear hb7
  go_wp2_with fail
  go_ret
  exact ⟨rfl, H7.out⟩

namespace lawFnExactMergeAggregates
theorem own : ownKnob Try.prog.godebug = none := by kernel_rfl
theorem laidOut : laidOutB Try.prog = true := by kernel_rfl
theorem valTypes : ValTypes Try.prog 33 4 3 := ⟨⟨_, _, Try.underlying33, rfl, rfl, rfl, rfl⟩, Try.underlying4, Try.underlying3, by kernel_rfl, by kernel_rfl, by kernel_rfl⟩

set_option maxRecDepth 100000 in
theorem lifted (os : Os) (started : os.Started) (H : Type) (enc : TypeId × Value → H) :
    ReturnsInHanded {} Try.checked os 4 .any (Rows.fnExactMergeAggregatesSpec.pre6 enc Try.prog Try.f4 Rows.fnExactMergeAggregatesRow.domain false) (Rows.fnExactMergeAggregatesSpec.post enc Try.prog Try.f4 false true false false) := by
  refine returnsInHanded_of_change (C := Try.checked) own started (by kernel_rfl) Try.func4
    (ChangeSpec.witness6 (enc := enc) (C := Try.checked) false ⟨#[], #[.agg #[.bool false, .int .i64 0], .agg #[.bool false, .int .i64 0], .int .i64 0], []⟩ 8 (by kernel_rfl) (by kernel_rfl) (by kernel_rfl) (by kernel_rfl)) ?_
  intro W base args ds gs before hval0 hW hcnd _
  have hval : ∀ (j : Nat) t v, Try.f4.params[j]? = some t → args[j]? = some v → Value.okWide Try.prog W .any base t v := hval0
  have hW' := hW
  obtain ⟨p, q, hA0, hV, rfl, hfz, hnd⟩ := hW
  have hA : DataW.TrodAll enc Try.prog W 0 (fun _ => true) true Try.f4.params.toList args.toList ds p := hA0
  rw [Try.params4] at hA hval
  obtain ⟨v0, vs0, d0, ds0, p0, q0, hargs, rfl, rfl, h0, r0⟩ := trodAll_cons hA
  obtain ⟨v1, vs1, d1, ds1, p1, q1, rfl, rfl, rfl, h1, r1⟩ := trodAll_cons r0
  obtain ⟨v2, vs2, d2, ds2, p2, q2, rfl, rfl, rfl, h2, r2⟩ := trodAll_cons r1
  obtain ⟨rfl, rfl, rfl⟩ := trodAll_nil r2
  obtain rfl : args = #[v0, v1, v2] := by cases args; simp_all
  obtain ⟨rfl, rfl⟩ := trodVars_none hV
  obtain ⟨cs0, rfl, hz0⟩ := okWide_struct Try.underlying33 (hval 0 33 v0 rfl rfl)
  obtain ⟨cs0⟩ := cs0
  obtain ⟨cs1, rfl, hz1⟩ := okWide_struct Try.underlying33 (hval 1 33 v1 rfl rfl)
  obtain ⟨cs1⟩ := cs1
  obtain ⟨n2, rfl⟩ := okWide_int Try.underlying3 (hval 2 3 v2 rfl rfl)
  have k0 := h0
  have lt0 : ∀ x ∈ p0, x.block < W.heap.size := by obtain ⟨m, hm⟩ := k0; exact DataW.trod_lt m _ _ _ hm
  obtain ⟨f0, h0⟩ := h0
  have k1 := h1
  have lt1 : ∀ x ∈ p1, x.block < W.heap.size := by obtain ⟨m, hm⟩ := k1; exact DataW.trod_lt m _ _ _ hm
  obtain ⟨f1, h1⟩ := h1
  have k2 := h2
  have lt2 : ∀ x ∈ p2, x.block < W.heap.size := by obtain ⟨m, hm⟩ := k2; exact DataW.trod_lt m _ _ _ hm
  obtain ⟨f2, h2⟩ := h2
  obtain ⟨x0, hcs0, wf0⟩ := ValTypes.el valTypes _ _ _ (hz0.trans (by kernel_rfl)) h0
  have hcs0 : cs0 = [.bool x0.1, .int .i64 x0.2] := hcs0
  subst hcs0
  obtain ⟨x1, hcs1, wf1⟩ := ValTypes.el valTypes _ _ _ (hz1.trans (by kernel_rfl)) h1
  have hcs1 : cs1 = [.bool x1.1, .int .i64 x1.2] := hcs1
  subst hcs1
  have wf2 : (Lit.int .i64 n2).wf = true := by
    obtain ⟨_, hq, _, wq⟩ := DataW.trod_int Try.underlying3 h2
    cases hq
    exact wq
  clear hA0 hval0
  refine (FnExactMergeAggregates_walk x0 x1 n2 W wf0 wf1 wf2).mono fun e W' ⟨he, bel⟩ => ?_
  subst he
  exact ⟨_, rfl, _, _, _, [], _, [], hW', trodAll_mk1 (shut_bool Try.underlying4 _), (trodAll_cons_mk (Below.trod laidOut (by kernel_rfl) (of_decide_eq_true (by kernel_rfl)) k0 bel lt0) (trodAll_cons_mk (Below.trod laidOut (by kernel_rfl) (of_decide_eq_true (by kernel_rfl)) k1 bel lt1) (trodAll_cons_mk (Below.trod laidOut (by kernel_rfl) (of_decide_eq_true (by kernel_rfl)) k2 bel lt2) trodAll_mk0))), rfl, bel.frame _, fun h => by cases h⟩

theorem over : Rows.fnExactMergeAggregatesRow.holds Try.pinned (OpenSpec.ofChange Rows.fnExactMergeAggregatesSpec) :=
  OpenClaim.holds_of_wide 4 Try.f4 rfl rfl rfl rfl rfl rfl rfl ⟨rfl, rfl, rfl, rfl, rfl⟩ rfl rfl rfl rfl rfl (by kernel_rfl) Try.func4 (by kernel_rfl)
    (of_decide_eq_true (by kernel_rfl)) (by unfold Func.isWrapper; first | (rw [if_pos (by decide +kernel)]; kernel_rfl) | (rw [if_neg (by decide +kernel)]; exact ⟨rfl, rfl⟩))
    (fun os started H enc _ => lifted os started H enc)

theorem proved : Rows.FnExactMergeAggregatesSaid := over
end lawFnExactMergeAggregates
#print axioms lawFnExactMergeAggregates.proved

end Go.Proofs.Ytmljhkoabhjiaaa
