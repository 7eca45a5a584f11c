/-
  FnExactAggregate returns true for all arguments and leaves them as they were. No condition.
-/
import Derived.Test.YtmljhkoabhjiaaaRows
import Derived.OpenShut
import Derived.Test.YtmljhkoabhjiaaaAgK
import Derived.Test.YtmljhkoabhjiaaaArg
import Derived.Test.YtmljhkoabhjiaaaArgT
namespace Go.Proofs.Ytmljhkoabhjiaaa
open Go.RowKit Go.Qo
open Go.ChangeShapes Go.WideShapes Go.ChangeAt
set_option linter.unusedVariables false
set_option linter.unusedSimpArgs false

set_option maxRecDepth 20000 in
set_option maxHeartbeats 1000000 in
theorem FnExactAggregate_walk (A : Option Addr) (c : Nat) (xs : List Val) (k : Int) (w : World) (hn : xs.length ≤ maxLen) (h : Sl 2 valC w w.heap.size A xs) (wf : (Lit.int .i64 k).wf = true) :
    Calls Try.prog 3 #[.slice A xs.length c, .int .i64 k] w fun e w' => e = .returned (.bool true) ∧ Below w.heap.size w w' := by
  clear wf
  obtain ⟨l, hl⟩ : ∃ l : Int, (if (1048576 : Int) - (xs.length : Int) < 0 then (-1 : Int) else (1048576 : Int) - (xs.length : Int)) = l := ⟨_, rfl⟩
  have K1 := Lib.hid (fun (z : World) => szValueS_ok A xs.length c 1048576 z hn (by omega) (by omega) l hl)
  by_cases hbig : (xs.length : Int) ≤ 1048576
  · have hl0 : 0 ≤ l := by rw [← hl]; split <;> omega
    have hl' : ¬ l < 0 := by omega
    have hx : xs.length ≤ 1048576 := by omega
    obtain ⟨d, hd⟩ : ∃ d : Bool, d = true ↔ AggOk k xs := ⟨_, @decide_eq_true_iff _ (Classical.propDecidable _)⟩
    obtain ⟨m, hm⟩ : ∃ m : Val, (if d then aggF k xs else zV) = m := ⟨_, rfl⟩
    have S1 := Lib.hid (fun (B : Option Addr) (cc : Nat) (z : World) (hz : Sl 2 valC z z.heap.size B xs) => (specAggregate_ok B cc xs k z hx hz d hd))
    have S2 := Lib.hid (fun (B : Option Addr) (cc : Nat) (z : World) (hz : Sl 2 valC z z.heap.size B xs) => (implAggregate_ok B cc xs k z hx hz d hd))
    rw [hm] at S1 S2
    have T1 := Lib.hid (fun (z : World) (hz : Below w.heap.size w z) => toValueS_ok A c xs z hx (h.on hz))
    clear hl hbig hd hm h
    go_enter Try.func3, Try.ntmps3
    go_wp2_with fail
    refine (K1.out _).mono ?_; rintro e w1 ⟨rfl, rfl⟩
    go_wp2_with fail
    refine (T1.out _ (Below.refl _ _)).mono ?_; rintro e w2 ⟨rfl, hb2, hr2⟩
    have H2 := Lib.hid hb2
    have X2 := Lib.hid (Row.sl' valC_length hr2)
    clear hb2 hr2
    go_wp2_with fail
    refine (S1.out _ _ _ X2.out).mono ?_; rintro e w3 ⟨rfl, hb3⟩
    have H3 := Lib.hid (bch H2.out hb3)
    clear hb3
    unfold vAgg2
    go_wp2_with fail
    have B4 := Lib.hid (balloc H3.out (.cells #[.bool m.1, .int .i64 m.2] 25))
    have R4 := Lib.hid (Row.new w3 25 #[.bool m.1, .int .i64 m.2])
    refine (T1.out _ B4.out).mono ?_; rintro e w5 ⟨rfl, hb5, hr5⟩
    have H5 := Lib.hid (bch B4.out hb5)
    have R5 := Lib.hid (R4.out.on hb5)
    simp only [World.size_alloc] at hr5
    have X5 := Lib.hid hr5
    clear hb5 hr5
    go_wp2_with fail
    refine (S2.out _ _ _ (Row.sl' valC_length X5.out)).mono ?_; rintro e w6 ⟨rfl, hb6⟩
    have H6 := Lib.hid (bch H5.out hb6)
    have R6 := Lib.hid (R5.out.on hb6)
    have X6 := Lib.hid (X5.out.on hb6)
    have c0 : w6.cell? ⟨w3.heap.size, 0, none⟩ = some (.bool m.1) := R6.out.cell 0
    have c1 : w6.cell? ⟨w3.heap.size, 1, none⟩ = some (.int .i64 m.2) := R6.out.cell 1
    have e0 := R6.out.lt
    clear hb6
    unfold vAgg2
    go_wp2_with fail
    refine (eqValue_ok m m _).mono ?_
    rintro e w7 ⟨rfl, hb7⟩
    rw [decide_eq_true rfl]
    have B6 := Lib.hid (balloc H6.out (.cells #[.bool m.1, .int .i64 m.2] 25))
    have H7 := Lib.hid (bch B6.out hb7)
    have X7 := Lib.hid ((X6.out.alloc _).on hb7)
    have hdd : (d != d) = false := by simp
    clear hb7 c0 c1 e0
    go_wp2_with fail
    refine (T1.out _ H7.out).mono ?_; rintro e w8 ⟨rfl, hb8, hr8⟩
    have H8 := Lib.hid (bch H7.out hb8)
    have X8 := Lib.hid (And.intro (Row.sl' valC_length (X7.out.on hb8)) (Row.sl' valC_length hr8))
    clear hb8 hr8
    go_wp2_with fail
    refine (eqValueS_ok _ _ _ _ xs xs _ hn hn X8.out.1 X8.out.2).mono ?_
    rintro e w9 ⟨rfl, hb9⟩
    rw [decide_eq_true rfl]
    have H9 := Lib.hid (bch H8.out hb9)
    clear hb9
    go_wp2_with fail
    go_ret
    exact ⟨rfl, H9.out⟩
  · have hl0 : l < 0 := by rw [← hl]; split <;> omega
    clear hl h
    go_enter Try.func3, Try.ntmps3
    go_wp2_with fail
    refine (K1.out _).mono ?_; rintro e w1 ⟨rfl, rfl⟩
    go_wp2_with fail
    go_ret
    exact ⟨rfl, Below.refl _ _⟩

namespace lawFnExactAggregate
theorem own : ownKnob Try.prog.godebug = none := by kernel_rfl
theorem laidOut : laidOutB Try.prog = true := by kernel_rfl
theorem valTypes : ValTypes Try.prog 33 4 3 := ⟨⟨_, _, Try.underlying33, rfl, rfl, rfl, rfl⟩, Try.underlying4, Try.underlying3, by kernel_rfl, by kernel_rfl, by kernel_rfl⟩

set_option maxRecDepth 100000 in
theorem lifted (os : Os) (started : os.Started) (H : Type) (enc : TypeId × Value → H) :
    ReturnsInHanded {} Try.checked os 3 .any (Rows.fnExactAggregateSpec.pre6 enc Try.prog Try.f3 Rows.fnExactAggregateRow.domain false) (Rows.fnExactAggregateSpec.post enc Try.prog Try.f3 false true false false) := by
  refine returnsInHanded_of_change (C := Try.checked) own started (by kernel_rfl) Try.func3
    (ChangeSpec.witness6 (enc := enc) (C := Try.checked) false ⟨#[], #[.slice none 0 0, .int .i64 0], []⟩ 8 (by kernel_rfl) (by kernel_rfl) (by kernel_rfl) (by kernel_rfl)) ?_
  intro W base args ds gs before hval0 hW hcnd _
  have hval : ∀ (j : Nat) t v, Try.f3.params[j]? = some t → args[j]? = some v → Value.okWide Try.prog W .any base t v := hval0
  have hW' := hW
  obtain ⟨p, q, hA0, hV, rfl, hfz, hnd⟩ := hW
  have hA : DataW.TrodAll enc Try.prog W 0 (fun _ => true) true Try.f3.params.toList args.toList ds p := hA0
  rw [Try.params3] at hA hval
  obtain ⟨v0, vs0, d0, ds0, p0, q0, hargs, rfl, rfl, h0, r0⟩ := trodAll_cons hA
  obtain ⟨v1, vs1, d1, ds1, p1, q1, rfl, rfl, rfl, h1, r1⟩ := trodAll_cons r0
  obtain ⟨rfl, rfl, rfl⟩ := trodAll_nil r1
  obtain rfl : args = #[v0, v1] := by cases args; simp_all
  obtain ⟨rfl, rfl⟩ := trodVars_none hV
  obtain ⟨a0, len0, c0, rfl⟩ := okWide_slice Try.underlying22 (hval 0 22 v0 rfl rfl)
  obtain ⟨n1, rfl⟩ := okWide_int Try.underlying3 (hval 1 3 v1 rfl rfl)
  have k0 := h0
  have lt0 : ∀ x ∈ p0, x.block < W.heap.size := by obtain ⟨m, hm⟩ := k0; exact DataW.trod_lt m _ _ _ hm
  obtain ⟨f0, h0⟩ := h0
  have k1 := h1
  have lt1 : ∀ x ∈ p1, x.block < W.heap.size := by obtain ⟨m, hm⟩ := k1; exact DataW.trod_lt m _ _ _ hm
  obtain ⟨f1, h1⟩ := h1
  obtain ⟨xs0, rfl, hc0, hm0, s0⟩ := open_row valTypes Try.underlying22 h0
  have wf1 : (Lit.int .i64 n1).wf = true := by
    obtain ⟨_, hq, _, wq⟩ := DataW.trod_int Try.underlying3 h1
    cases hq
    exact wq
  clear hA0 hval0
  refine (FnExactAggregate_walk a0 c0 xs0 n1 W (Nat.le_trans hc0 hm0) s0 wf1).mono fun e W' ⟨he, bel⟩ => ?_
  subst he
  exact ⟨_, rfl, _, _, _, [], _, [], hW', trodAll_mk1 (shut_bool Try.underlying4 _), (trodAll_cons_mk (Below.trod laidOut (by kernel_rfl) (of_decide_eq_true (by kernel_rfl)) k0 bel lt0) (trodAll_cons_mk (Below.trod laidOut (by kernel_rfl) (of_decide_eq_true (by kernel_rfl)) k1 bel lt1) trodAll_mk0)), rfl, bel.frame _, fun h => by cases h⟩

theorem over : Rows.fnExactAggregateRow.holds Try.pinned (OpenSpec.ofChange Rows.fnExactAggregateSpec) :=
  OpenClaim.holds_of_wide 3 Try.f3 rfl rfl rfl rfl rfl rfl rfl ⟨rfl, rfl, rfl, rfl, rfl⟩ rfl rfl rfl rfl rfl (by kernel_rfl) Try.func3 (by kernel_rfl)
    (of_decide_eq_true (by kernel_rfl)) (by unfold Func.isWrapper; first | (rw [if_pos (by decide +kernel)]; kernel_rfl) | (rw [if_neg (by decide +kernel)]; exact ⟨rfl, rfl⟩))
    (fun os started H enc _ => lifted os started H enc)

theorem proved : Rows.FnExactAggregateSaid := over
end lawFnExactAggregate
#print axioms lawFnExactAggregate.proved

end Go.Proofs.Ytmljhkoabhjiaaa
