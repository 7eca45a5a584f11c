/-
  FnExactOrderCovers returns true for all arguments and leaves them as they were. No condition.
-/
import Derived.Test.YthijkbkhgphcbaaRows
import Derived.ProofKit
import Derived.OpenShut
import Derived.Test.YthijkbkhgphcbaaKey
import Derived.Test.YthijkbkhgphcbaaArg
namespace Go.Proofs.Ythijkbkhgphcbaa
open Go.RowKit Go.Qo
open Go.ChangeShapes Go.WideShapes Go.ChangeAt
set_option linter.unusedVariables false

theorem szKeyI (A : Option Addr) (xs : List Key) (c : Nat) (left : Int) (w : World) (hn : xs.length ≤ maxLen) (h0 : 0 ≤ left) (h1 : left ≤ 1048576) (r : Int) (hr : (if left - xs.length < 0 then -1 else left - xs.length) = r) :
    Calls Try.prog 9 #[.slice A xs.length c, .int .i64 left] w fun e w' => e = .returned (.int .i64 r) ∧ w = w' := hr ▸ szSortKeyS_ok A xs.length c left w hn h0 h1

set_option maxHeartbeats 800000 in
theorem FnExactOrderCovers_walk (A A' : Option Addr) (c c' : Nat) (xs ys : List Key) (w : World) (hn : xs.length ≤ maxLen) (hn' : ys.length ≤ maxLen) (h : Sl 2 keyC w w.heap.size A xs) (h' : Sl 2 keyC w w.heap.size A' ys) :
    Calls Try.prog 3 #[.slice A xs.length c, .slice A' ys.length c'] w fun e w' => e = .returned (.bool true) ∧ Below w.heap.size w w' := by
  by_cases h1 : (1048576 : Int) - xs.length < 0
  · have k1 := Lib.hid (szKeyI A xs c 1048576 w hn (by omega) (by omega) (-1) (if_pos h1))
    clear h1
    go_enter Try.func3, Try.ntmps3
    go_wp2_with (go_at_call 9; refine k1.out.mono ?_; rintro e w' ⟨rfl, rfl⟩)
    go_ret
    exact ⟨rfl, Below.refl _ _⟩
  · have hx : xs.length ≤ 1048576 := by omega
    obtain ⟨l, hl⟩ : ∃ l : Int, (1048576 : Int) - xs.length = l := ⟨_, rfl⟩
    have k1 := Lib.hid (szKeyI A xs c 1048576 w hn (by omega) (by omega) l (by rw [if_neg h1, hl]))
    have hl0 : 0 ≤ l := by omega
    have hl1 : l ≤ 1048576 := by omega
    clear h1 hl
    by_cases h2 : l - ys.length < 0
    · have k2 := Lib.hid (szKeyI A' ys c' l w hn' hl0 hl1 (-1) (if_pos h2))
      clear h2
      go_enter Try.func3, Try.ntmps3
      go_wp2_with fail
      refine k1.out.mono ?_
      rintro e w' ⟨rfl, rfl⟩
      go_wp2_with fail
      refine k2.out.mono ?_
      rintro e w' ⟨rfl, rfl⟩
      go_wp2_with fail
      go_ret
      exact ⟨rfl, Below.refl _ _⟩
    · have hy : ys.length ≤ 1048576 := by omega
      obtain ⟨m, hm⟩ : ∃ m : Int, l - ys.length = m := ⟨_, rfl⟩
      have k2 := Lib.hid (szKeyI A' ys c' l w hn' hl0 hl1 m (by rw [if_neg h2, hm]))
      have hm0 : 0 ≤ m := by omega
      clear h2 hm
      go_enter Try.func3, Try.ntmps3
      go_wp2_with fail
      refine k1.out.mono ?_
      rintro e w' ⟨rfl, rfl⟩
      go_wp2_with fail
      refine k2.out.mono ?_
      rintro e w' ⟨rfl, rfl⟩
      go_wp2_with fail
      refine (toSortKeyS_ok A c xs _ hx h).mono ?_
      rintro e w1 ⟨rfl, hb1, hr1⟩
      go_wp2_with fail
      refine (toSortKeyS_ok A' c' ys _ hy (h'.on hb1)).mono ?_
      rintro e w2 ⟨rfl, hb2, hr2⟩
      go_wp2_with fail
      have s1 := (hr1.sl' keyC_length).on hb2
      refine (specOrderCovers_ok _ _ _ _ xs ys _ hn hn' s1 (hr2.sl' keyC_length)).mono ?_
      generalize hd : decide (ys.length ≤ xs.length ∧ xs.take ys.length = ys) = d
      have Hd := Lib.hid hd
      clear hd
      rintro e w3 ⟨rfl, hb3⟩
      go_wp2_with fail
      have a3 := bch (bch hb1 hb2) hb3
      refine (toSortKeyS_ok A c xs _ hx (h.on a3)).mono ?_
      rintro e w4 ⟨rfl, hb4, hr4⟩
      go_wp2_with fail
      have a4 := bch a3 hb4
      refine (toSortKeyS_ok A' c' ys _ hy (h'.on a4)).mono ?_
      rintro e w5 ⟨rfl, hb5, hr5⟩
      go_wp2_with fail
      have s4 := (hr4.sl' keyC_length).on hb5
      have s5 := hr5.sl' keyC_length
      refine (implOrderCovers_ok _ _ _ _ xs ys _ hn hn' (Nat.le_refl _) hn s4 s5).mono ?_
      rw [Hd.out]
      rintro e w6 ⟨rfl, hb6⟩
      go_wp2_with fail
      have a6 := bch (bch a4 hb5) hb6
      refine (toSortKeyS_ok A c xs _ hx (h.on a6)).mono ?_
      rintro e w7 ⟨rfl, hb7, hr7⟩
      go_wp2_with fail
      refine (eqSortKeyS_ok _ _ _ _ xs xs _ hn hn ((s4.on hb6).on hb7) (hr7.sl' keyC_length)).mono ?_
      rintro e w8 ⟨rfl, hb8⟩
      rw [decide_eq_true rfl]
      go_wp2_with fail
      have a8 := bch (bch a6 hb7) hb8
      refine (toSortKeyS_ok A' c' ys _ hy (h'.on a8)).mono ?_
      rintro e w9 ⟨rfl, hb9, hr9⟩
      go_wp2_with fail
      refine (eqSortKeyS_ok _ _ _ _ ys ys _ hn' hn' ((((s5.on hb6).on hb7).on hb8).on hb9) (hr9.sl' keyC_length)).mono ?_
      rintro e w10 ⟨rfl, hb10⟩
      rw [decide_eq_true rfl]
      go_wp2_with fail
      go_ret
      exact ⟨rfl, bch (bch a8 hb9) hb10⟩


namespace lawFnExactOrderCovers
theorem own : ownKnob Try.prog.godebug = none := by kernel_rfl
theorem laidOut : laidOutB Try.prog = true := by kernel_rfl

set_option maxRecDepth 100000 in
theorem lifted (os : Os) (started : os.Started) (H : Type) (enc : TypeId × Value → H) :
    ReturnsInHanded {} Try.checked os 3 .any (Rows.fnExactOrderCoversSpec.pre6 enc Try.prog Try.f3 Rows.fnExactOrderCoversRow.domain false) (Rows.fnExactOrderCoversSpec.post enc Try.prog Try.f3 false true false false) := by
  refine returnsInHanded_of_change (C := Try.checked) own started (by kernel_rfl) Try.func3
    (ChangeSpec.witness6 (enc := enc) (C := Try.checked) false ⟨#[], #[.slice none 0 0, .slice none 0 0], []⟩ 8 (by kernel_rfl) (by kernel_rfl) (by kernel_rfl) (by kernel_rfl)) ?_
  intro W base args ds gs before hval0 hW hcnd _
  have hval : ∀ (j : Nat) t v, Try.f3.params[j]? = some t → args[j]? = some v → Value.okWide Try.prog W .any base t v := hval0
  have hW' := hW
  obtain ⟨p, q, hA0, hV, rfl, hfz, hnd⟩ := hW
  have hA : DataW.TrodAll enc Try.prog W 0 (fun _ => true) true Try.f3.params.toList args.toList ds p := hA0
  rw [Try.params3] at hA hval
  obtain ⟨v0, vs0, d0, ds0, p0, q0, hargs, rfl, rfl, h0, r0⟩ := trodAll_cons hA
  obtain ⟨v1, vs1, d1, ds1, p1, q1, rfl, rfl, rfl, h1, r1⟩ := trodAll_cons r0
  obtain ⟨rfl, rfl, rfl⟩ := trodAll_nil r1
  obtain rfl : args = #[v0, v1] := by cases args; simp_all
  obtain ⟨rfl, rfl⟩ := trodVars_none hV
  obtain ⟨a0, len0, cap0, rfl⟩ := okWide_slice Try.underlying22 (hval 0 22 v0 rfl rfl)
  obtain ⟨a1, len1, cap1, rfl⟩ := okWide_slice Try.underlying22 (hval 1 22 v1 rfl rfl)
  have k0 := h0
  have k1 := h1
  have lt0 : ∀ x ∈ p0, x.block < W.heap.size := by obtain ⟨m, hm⟩ := k0; exact DataW.trod_lt m _ _ _ hm
  have lt1 : ∀ x ∈ p1, x.block < W.heap.size := by obtain ⟨m, hm⟩ := k1; exact DataW.trod_lt m _ _ _ hm
  obtain ⟨f0, h0⟩ := h0
  obtain ⟨f1, h1⟩ := h1
  have kk : Try.prog.cellsOf 65 = 2 := by kernel_rfl
  obtain ⟨xs, rfl, hc0, hm0, _, s0⟩ := open_sl (sz := 2) (ec := keyC) Try.underlying22 kk (by omega) keyC_length
    (el_int_bool Try.underlying65 rfl rfl (by kernel_rfl) (by kernel_rfl) Try.underlying3 Try.underlying4) h0
  obtain ⟨ys, rfl, hc1, hm1, _, s1⟩ := open_sl (sz := 2) (ec := keyC) Try.underlying22 kk (by omega) keyC_length
    (el_int_bool Try.underlying65 rfl rfl (by kernel_rfl) (by kernel_rfl) Try.underlying3 Try.underlying4) h1
  clear hA0 hval0
  refine (FnExactOrderCovers_walk a0 a1 cap0 cap1 xs ys W (Nat.le_trans hc0 hm0) (Nat.le_trans hc1 hm1) s0 s1).mono fun e W' ⟨he, bel⟩ => ?_
  subst he
  exact ⟨_, rfl, _, _, _, [], _, [], hW', trodAll_mk1 (shut_bool Try.underlying4 _), (trodAll_cons_mk (Below.trod laidOut (by kernel_rfl) (of_decide_eq_true (by kernel_rfl)) k0 bel lt0) (trodAll_cons_mk (Below.trod laidOut (by kernel_rfl) (of_decide_eq_true (by kernel_rfl)) k1 bel lt1) trodAll_mk0)), rfl, bel.frame _, fun h => by cases h⟩

theorem over : Rows.fnExactOrderCoversRow.holds Try.pinned (OpenSpec.ofChange Rows.fnExactOrderCoversSpec) :=
  OpenClaim.holds_of_wide 3 Try.f3 rfl rfl rfl rfl rfl rfl rfl ⟨rfl, rfl, rfl, rfl, rfl⟩ rfl rfl rfl rfl rfl (by kernel_rfl) Try.func3 (by kernel_rfl)
    (of_decide_eq_true (by kernel_rfl)) (by unfold Func.isWrapper; first | (rw [if_pos (by decide +kernel)]; kernel_rfl) | (rw [if_neg (by decide +kernel)]; exact ⟨rfl, rfl⟩))
    (fun os started H enc _ => lifted os started H enc)

theorem proved : Rows.FnExactOrderCoversSaid := over
end lawFnExactOrderCovers
#print axioms lawFnExactOrderCovers.proved

end Go.Proofs.Ythijkbkhgphcbaa
