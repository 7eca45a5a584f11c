/-
  FnAggregateBounds returns true for all bytes and leaves them as they were. No condition.
-/
import Derived.Test.YtmljhkoabhjiaaaRows
import Derived.OpenShut
import Derived.Test.YtmljhkoabhjiaaaAgK
import Derived.Test.YtmljhkoabhjiaaaAgG
import Derived.Test.YtmljhkoabhjiaaaArgB
import Derived.Deep.DeepCutAuto
namespace Go.Proofs.Ytmljhkoabhjiaaa
open Go.RowKit Go.Qo
open Go.ChangeShapes Go.WideShapes Go.ChangeAt
set_option linter.unusedVariables false
set_option linter.unusedSimpArgs false

theorem aggOk_k {k q : Int} {xs : List Val} (h : AggOk k xs) (h1 : 1 ≤ q) (h5 : q ≤ 5) : AggOk q xs := ⟨h.all, h.len, h1, h5⟩
set_option maxRecDepth 20000 in
set_option maxHeartbeats 2000000 in
theorem FnAggregateBounds_walk (A : Option Addr) (c : Nat) (xs : List Int) (w : World) (hc : xs.length ≤ c) (hm : c ≤ maxLen) (hg : ∀ x ∈ xs, 0 ≤ x ∧ x ≤ 255) (h : Sl 1 byteC w w.heap.size A xs) :
    Calls Try.prog 6 #[.slice A xs.length c] w fun e w' => e = .returned (.bool true) ∧ Below w.heap.size w w' := by
  have HD := Lib.hid (drawAggregate_ok A c xs w hc hm hg h)
  have hx63 : xs.length ≤ 9223372036854775807 := by unfold maxLen at hm; omega
  have hg := eqgVal
  clear h hc hm
  by_cases hx : (1048576 : Int) < xs.length
  · clear HD
    go_enter Try.func6, Try.ntmps6
    go_wp2
    go_ret
    exact ⟨rfl, Below.refl _ _⟩
  · go_enter Try.func6, Try.ntmps6
    go_wp2_with fail
    refine HD.out.mono ?_
    rintro e w1 ⟨v1, v2, rfl, ys, k, rfl, hl, hsm, how, hb1⟩
    obtain ⟨A1, c1, rfl, hc11, hc12, hs1⟩ := how.shape valC_length
    obtain ⟨d, hd⟩ : ∃ d : Bool, d = true ↔ AggOk k ys := ⟨_, @decide_eq_true_iff _ (Classical.propDecidable _)⟩
    obtain ⟨m, hmm⟩ : ∃ m : Val, (if d then aggF k ys else zV) = m := ⟨_, rfl⟩
    have HL := Lib.hid (And.intro hs1.sl hb1)
    have S1 := Lib.hid (fun (z : World) (hz : Below w1.heap.size w1 z) => specAggregate_ok A1 c1 ys k z (by omega) (HL.out.1.on hz) d hd)
    have S2 := Lib.hid (fun (z : World) (hz : Below w1.heap.size w1 z) => implAggregate_ok A1 c1 ys k z (by omega) (HL.out.1.on hz) d hd)
    rw [hmm] at S1 S2
    unfold vAgg2 at S1 S2
    have HM := Lib.hid hmm
    have Hd := Lib.hid hd
    have hne := neqVal (x := m) (y := m) false (by simp)
    have heq := eqlVal (x := m) (y := m) true (by simp)
    clear hd hmm how hs1 hc11 hc12 hb1 hsm
    have hdd : (d != d) = false := by simp
    have hdd2 : (d == d) = true := by simp
    go_wp2_with fail
    refine (S2.out _ (Below.refl _ _)).mono ?_
    rintro e w2 ⟨rfl, hb2⟩
    have H2 := Lib.hid (balloc hb2 (.cells #[.bool m.1, .int .i64 m.2] 25))
    have R2 := Lib.hid (Row.new w2 25 #[.bool m.1, .int .i64 m.2])
    clear hb2
    go_wp2_with fail
    refine (S1.out _ H2.out).mono ?_
    rintro e w3 ⟨rfl, hb3⟩
    have H3 := Lib.hid (bch H2.out hb3)
    have R3 := Lib.hid (R2.out.on hb3)
    have c0 : w3.cell? ⟨w2.heap.size, 0, none⟩ = some (.bool m.1) := R3.out.cell 0
    have c1' : w3.cell? ⟨w2.heap.size, 1, none⟩ = some (.int .i64 m.2) := R3.out.cell 1
    have e0 := R3.out.lt
    clear hb3
    cases d
    · go_wp2
      go_ret
      exact ⟨rfl, bch HL.out.2 (balloc H3.out _)⟩
    · have HOK := Lib.hid (Hd.out.1 rfl)
      have hnl := nnN_le ys
      obtain ⟨lo, hlo⟩ : ∃ v, lowN ys = v := ⟨_, rfl⟩
      obtain ⟨hi', hhi⟩ : ∃ v, highN ys = v := ⟨_, rfl⟩
      have HA4 := Lib.hid (fun (z : World) (hz : Below w1.heap.size w1 z) => implAggregate_ok A1 c1 ys 4 z (by omega) (HL.out.1.on hz) true ⟨fun _ => aggOk_k HOK.out (by omega) (by omega), fun _ => rfl⟩)
      have HA5 := Lib.hid (fun (z : World) (hz : Below w1.heap.size w1 z) => implAggregate_ok A1 c1 ys 5 z (by omega) (HL.out.1.on hz) true ⟨fun _ => aggOk_k HOK.out (by omega) (by omega), fun _ => rfl⟩)
      have HA8 := Lib.hid (fun (z : World) (hz : Below w1.heap.size w1 z) => implAggregate_ok A1 c1 ys 2 z (by omega) (HL.out.1.on hz) true ⟨fun _ => aggOk_k HOK.out (by omega) (by omega), fun _ => rfl⟩)
      rw [show (if (true : Bool) = true then aggF 4 ys else zV) = lo from hlo] at HA4
      rw [show (if (true : Bool) = true then aggF 5 ys else zV) = hi' from hhi] at HA5
      rw [show (if (true : Bool) = true then aggF 2 ys else zV) = (false, (nnN ys : Int)) from numV_in (by omega) (by omega)] at HA8
      unfold vAgg2 at HA4 HA5 HA8
      have HE := Lib.hid (And.intro hlo hhi)
      have HX := Lib.hid (fun (x : Val) (hx : x ∈ ys) (hn : x.1 = false) => show lo.2 ≤ x.2 ∧ x.2 ≤ hi'.2 by
        have h0 : nnN ys ≠ 0 := fun h0 => by rw [nn_null h0 x hx] at hn; cases hn
        rw [← hlo, ← hhi]
        exact ⟨(lowN_spec h0).2.2 x hx hn, (highN_spec h0).2.2 x hx hn⟩)
      have H5 := Lib.hid (balloc H3.out (.cells #[.bool m.1, .int .i64 m.2] 25))
      clear hlo hhi
      go_wp2_with fail
      refine (HA4.out _ H5.out).mono ?_
      rintro e w4 ⟨rfl, hb4⟩
      have H4 := Lib.hid (balloc (bch H5.out hb4) (.cells #[.bool lo.1, .int .i64 lo.2] 25))
      have R4 := Lib.hid (Row.new w4 25 #[.bool lo.1, .int .i64 lo.2])
      clear hb4 c0 c1' e0
      go_wp2_with fail
      refine (HA5.out _ H4.out).mono ?_
      rintro e w5 ⟨rfl, hb5⟩
      have H6 := Lib.hid (balloc (bch H4.out hb5) (.cells #[.bool hi'.1, .int .i64 hi'.2] 25))
      have R5 := Lib.hid (And.intro ((R4.out.on hb5).alloc (.cells #[.bool hi'.1, .int .i64 hi'.2] 25)) (Row.new w5 25 #[.bool hi'.1, .int .i64 hi'.2]))
      clear hb5
      go_wp2_with fail
      refine (HA8.out _ H6.out).mono ?_
      rintro e w6 ⟨rfl, hb6⟩
      have H7 := Lib.hid (balloc (bch H6.out hb6) (.cells #[.bool false, .int .i64 (nnN ys)] 25))
      have R6 := Lib.hid (And.intro ((R5.out.1.on hb6).alloc (.cells #[.bool false, .int .i64 (nnN ys)] 25)) (And.intro ((R5.out.2.on hb6).alloc (.cells #[.bool false, .int .i64 (nnN ys)] 25)) (Row.new w6 25 #[.bool false, .int .i64 (nnN ys)])))
      clear hb6
      obtain ⟨W7, hW7⟩ : ∃ W7, w6.alloc (.cells #[.bool false, .int .i64 (nnN ys)] 25) = W7 := ⟨_, rfl⟩
      rw [hW7] at H7 R6
      have HW7 := Lib.hid hW7
      clear hW7
      have KX := Lib.hid (fun (z : World) (hz : Below W7.heap.size W7 z) => show ((z.cell? ⟨w4.heap.size, 0, none⟩ = some (.bool lo.1) ∧ z.cell? ⟨w4.heap.size, 1, none⟩ = some (.int .i64 lo.2)) ∧ (z.cell? ⟨w5.heap.size, 0, none⟩ = some (.bool hi'.1) ∧ z.cell? ⟨w5.heap.size, 1, none⟩ = some (.int .i64 hi'.2)) ∧ z.cell? ⟨w6.heap.size, 1, none⟩ = some (.int .i64 (nnN ys)))
        from ⟨⟨(R6.out.1.on hz).cell 0, (R6.out.1.on hz).cell 1⟩, ⟨(R6.out.2.1.on hz).cell 0, (R6.out.2.1.on hz).cell 1⟩, (R6.out.2.2.on hz).cell 1⟩)
      go_upto_region 11 with fail
      rw [HW7.out]
      go_wp2
      go_loopg [15, 16, 17] ys.length (fun g pv qv iv wr => ∃ i : Nat, i ≤ ys.length ∧ g = ys.length - i ∧ iv = .int .i64 i ∧ pv = .bool ((ys.take i).any fun v => decide (v = lo)) ∧ qv = .bool ((ys.take i).any fun v => decide (v = hi')) ∧ Below W7.heap.size W7 wr)
      case atStart => exact ⟨0, by omega, by omega, rfl, rfl, rfl, Below.refl _ _⟩
      case round =>
        obtain ⟨i, hi, rfl, rfl, rfl, rfl, hb⟩ := hrel
        have HB := Lib.hid hb
        obtain ⟨⟨l0, l1⟩, ⟨g0, g1⟩, n1⟩ := KX.out wr hb
        obtain ⟨p, hp⟩ : ∃ p, ((ys.take i).any fun v => decide (v = lo)) = p := ⟨_, rfl⟩
        obtain ⟨q, hq⟩ : ∃ q, ((ys.take i).any fun v => decide (v = hi')) = q := ⟨_, rfl⟩
        rw [hp, hq]
        have HPQ := Lib.hid (And.intro hp hq)
        clear hp hq
        by_cases hlt : i < ys.length
        · obtain ⟨b0, off, hA, hBl, d0, d1⟩ := Val.at_ (HL.out.1.on (bch H7.out hb)) hlt
          subst hA
          have hx := Lib.hid (List.getElem?_eq_getElem hlt)
          have HXX := Lib.hid (HX.out _ (List.getElem_mem hlt))
          generalize ys[i] = x at *
          have HTT := Lib.hid (take_at hx.out)
          obtain ⟨r1, hr1⟩ : ∃ r, decide (x = lo) = r := ⟨_, rfl⟩
          obtain ⟨r2, hr2⟩ : ∃ r, decide (x = hi') = r := ⟨_, rfl⟩
          have he1 := eqlVal (x := x) (y := lo) r1 hr1
          have he2 := eqlVal (x := x) (y := hi') r2 hr2
          have HRR := Lib.hid (And.intro hr1 hr2)
          obtain ⟨nx, x⟩ := x
          clear hr1 hr2 hb
          have hxr : nx = false → (lo.2 ≤ x ∧ x ≤ hi'.2) := fun h => HXX.out h
          cases nx
          · have hx1 : ¬ (x < lo.2) := by have := (hxr rfl).1; omega
            have hx2 : ¬ (hi'.2 < x) := by have := (hxr rfl).2; omega
            have hx3 : decide (x < lo.2) = false := decide_eq_false hx1
            have hx4 : decide (x > hi'.2) = false := decide_eq_false hx2
            clear hxr
            cases p <;> cases q
            all_goals
              dsimp only at *
              go_wp2
              go_quiet (fail)
              go_wp2
              go_quiet (fail)
              go_wp2
              go_quiet (fail)
              go_wp2
              go_roundg (ys.length - (i + 1))
              case measure => omega
              case rel =>
                refine ⟨i + 1, by omega, rfl, by go_num, congrArg Value.bool ?_, congrArg Value.bool ?_, bdrewN HB.out _⟩
                · rw [HTT.out, List.any_append, HPQ.out.1]; simp [HRR.out.1]
                · rw [HTT.out, List.any_append, HPQ.out.2]; simp [HRR.out.2]
          · clear hxr
            cases p <;> cases q
            all_goals
              dsimp only at *
              go_wp2
              go_quiet (fail)
              go_wp2
              go_quiet (fail)
              go_wp2
              go_quiet (fail)
              go_wp2
              go_roundg (ys.length - (i + 1))
              case measure => omega
              case rel =>
                refine ⟨i + 1, by omega, rfl, by go_num, congrArg Value.bool ?_, congrArg Value.bool ?_, bdrewN HB.out _⟩
                · rw [HTT.out, List.any_append, HPQ.out.1]; simp [HRR.out.1]
                · rw [HTT.out, List.any_append, HPQ.out.2]; simp [HRR.out.2]
        · obtain rfl : i = ys.length := by omega
          have hBB := Lib.hid (bch HL.out.2 (bch H7.out hb))
          clear hb
          by_cases h0 : nnN ys = 0
          · have el : lo = (true, 0) := by rw [← HE.out.1, lowN_null h0]
            have eh : hi' = (true, 0) := by rw [← HE.out.2, highN_null h0]
            have hn0 : ((nnN ys : Int) == 0) = true := by simp [h0]
            have hn1 : (nnN ys : Int) = 0 := by omega
            subst el
            subst eh
            dsimp only at l0 l1 g0 g1
            go_wp2
            go_ret
            exact ⟨rfl, hBB.out⟩
          · have el : lo.1 = false := by rw [← HE.out.1]; exact (lowN_spec h0).1
            have eh : hi'.1 = false := by rw [← HE.out.2]; exact (highN_spec h0).1
            have ep : p = true := by
              rw [← HPQ.out.1, List.take_length, List.any_eq_true]
              exact ⟨lo, by rw [← HE.out.1]; exact (lowN_spec h0).2.1, by simp⟩
            have eq : q = true := by
              rw [← HPQ.out.2, List.take_length, List.any_eq_true]
              exact ⟨hi', by rw [← HE.out.2]; exact (highN_spec h0).2.1, by simp⟩
            have hn0 : ((nnN ys : Int) == 0) = false := by simp [h0]
            have hn1 : ¬ ((nnN ys : Int) = 0) := by omega
            subst ep
            subst eq
            rw [el] at l0
            rw [eh] at g0
            go_wp2
            go_ret
            exact ⟨rfl, hBB.out⟩

namespace lawFnAggregateBounds
theorem own : ownKnob Try.prog.godebug = none := by kernel_rfl
theorem laidOut : laidOutB Try.prog = true := by kernel_rfl

set_option maxRecDepth 100000 in
theorem lifted (os : Os) (started : os.Started) (H : Type) (enc : TypeId × Value → H) :
    ReturnsInHanded {} Try.checked os 6 .any (Rows.fnAggregateBoundsSpec.pre6 enc Try.prog Try.f6 Rows.fnAggregateBoundsRow.domain false) (Rows.fnAggregateBoundsSpec.post enc Try.prog Try.f6 false true false false) := by
  refine returnsInHanded_of_change (C := Try.checked) own started (by kernel_rfl) Try.func6
    (ChangeSpec.witness6 (enc := enc) (C := Try.checked) false ⟨#[], #[.slice none 0 0], []⟩ 8 (by kernel_rfl) (by kernel_rfl) (by kernel_rfl) (by kernel_rfl)) ?_
  intro W base args ds gs before hval0 hW hcnd _
  have hval : ∀ (j : Nat) t v, Try.f6.params[j]? = some t → args[j]? = some v → Value.okWide Try.prog W .any base t v := hval0
  have hW' := hW
  obtain ⟨p, q, hA0, hV, rfl, hfz, hnd⟩ := hW
  have hA : DataW.TrodAll enc Try.prog W 0 (fun _ => true) true Try.f6.params.toList args.toList ds p := hA0
  rw [Try.params6] at hA hval
  obtain ⟨v0, vs0, d0, ds0, p0, q0, hargs, rfl, rfl, h0, r0⟩ := trodAll_cons hA
  obtain ⟨rfl, rfl, rfl⟩ := trodAll_nil r0
  obtain rfl : args = #[v0] := by cases args; simp_all
  obtain ⟨rfl, rfl⟩ := trodVars_none hV
  obtain ⟨a0, len0, c0, rfl⟩ := okWide_slice Try.underlying37 (hval 0 37 v0 rfl rfl)
  have k0 := h0
  have lt0 : ∀ x ∈ p0, x.block < W.heap.size := by obtain ⟨m, hm⟩ := k0; exact DataW.trod_lt m _ _ _ hm
  obtain ⟨f0, h0⟩ := h0
  obtain ⟨xs0, rfl, hc0, hm0, g0, s0⟩ := open_sl (sz := 1) (ec := byteC) Try.underlying37 (by kernel_rfl) (by omega) byteC_length (el_byte Try.underlying5) h0
  clear hA0 hval0
  refine (FnAggregateBounds_walk a0 c0 xs0 W hc0 hm0 g0 s0).mono fun e W' ⟨he, bel⟩ => ?_
  subst he
  exact ⟨_, rfl, _, _, _, [], _, [], hW', trodAll_mk1 (shut_bool Try.underlying4 _), (trodAll_cons_mk (Below.trod laidOut (by kernel_rfl) (of_decide_eq_true (by kernel_rfl)) k0 bel lt0) trodAll_mk0), rfl, bel.frame _, fun h => by cases h⟩

theorem over : Rows.fnAggregateBoundsRow.holds Try.pinned (OpenSpec.ofChange Rows.fnAggregateBoundsSpec) :=
  OpenClaim.holds_of_wide 6 Try.f6 rfl rfl rfl rfl rfl rfl rfl ⟨rfl, rfl, rfl, rfl, rfl⟩ rfl rfl rfl rfl rfl (by kernel_rfl) Try.func6 (by kernel_rfl)
    (of_decide_eq_true (by kernel_rfl)) (by unfold Func.isWrapper; first | (rw [if_pos (by decide +kernel)]; kernel_rfl) | (rw [if_neg (by decide +kernel)]; exact ⟨rfl, rfl⟩))
    (fun os started H enc _ => lifted os started H enc)

theorem proved : Rows.FnAggregateBoundsSaid := over
end lawFnAggregateBounds
#print axioms lawFnAggregateBounds.proved

end Go.Proofs.Ytmljhkoabhjiaaa
