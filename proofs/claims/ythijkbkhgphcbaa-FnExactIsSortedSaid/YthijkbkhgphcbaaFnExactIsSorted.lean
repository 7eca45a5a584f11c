/-
  FnExactIsSorted returns true for all arguments and leaves them as they were. No condition.
-/
import Derived.Test.YthijkbkhgphcbaaRows
import Derived.OpenShut
import Derived.Test.YthijkbkhgphcbaaIsSrtI
import Derived.Test.YthijkbkhgphcbaaArg
import Derived.Test.YthijkbkhgphcbaaArgT
namespace Go.Proofs.Ythijkbkhgphcbaa
open Go.RowKit Go.Qo
open Go.ChangeShapes Go.WideShapes Go.ChangeAt
set_option linter.unusedVariables false
set_option linter.unusedSimpArgs false

theorem szKeyI (A : Option Addr) (xs : List Key) (c : Nat) (left : Int) (w : World) (hn : xs.length ≤ maxLen) (h0 : 0 ≤ left) (h1 : left ≤ 1048576) (r : Int) (hr : (if left - xs.length < 0 then -1 else left - xs.length) = r) :
    Calls Try.prog 9 #[.slice A xs.length c, .int .i64 left] w fun e w' => e = .returned (.int .i64 r) ∧ w = w' := hr ▸ szSortKeyS_ok A xs.length c left w hn h0 h1

set_option maxHeartbeats 2000000 in
theorem FnExactIsSorted_walk (A : Option Addr) (c : Nat) (xs : List Row1) (A' : Option Addr) (c' : Nat) (ys : List Key) (w : World) (hn : xs.length ≤ maxLen) (h : Rws w w.heap.size A xs) (hn' : ys.length ≤ maxLen) (h' : Sl 2 keyC w w.heap.size A' ys) :
    Calls Try.prog 5 #[.slice A xs.length c, .slice A' ys.length c'] w fun e w' => e = .returned (.bool true) ∧ Below w.heap.size w w' := by
  obtain ⟨l, hl⟩ : ∃ l, szR 1048576 xs = l := ⟨_, rfl⟩
  have K1 := Lib.hid (fun (z : World) (hz : Below w.heap.size w z) => szValueSS_ok A c xs 1048576 z hn (by omega) (by omega) (h.on hz) l hl)
  have hr1 := szR_range xs 1048576 (by omega)
  rw [hl] at hr1
  have Hr1 := Lib.hid hr1
  have HH := Lib.hid (And.intro (And.intro hn hn') (And.intro h h'))
  clear hr1 hl h h'
  rcases Hr1.out with rfl | ⟨hl0, hl1, hx1, hx2⟩
  · go_enter Try.func5, Try.ntmps5
    go_wp2_with fail
    refine (K1.out _ (Below.refl _ _)).mono ?_; rintro e w1 ⟨rfl, rfl⟩
    go_wp2_with fail
    go_ret
    exact ⟨rfl, Below.refl _ _⟩
  · obtain ⟨m, hm⟩ : ∃ m, (if l - ys.length < 0 then -1 else l - ys.length) = m := ⟨_, rfl⟩
    have K2 := Lib.hid (szKeyI A' ys c' l w hn' hl0 hl1 m hm)
    have hm2 : m = -1 ∨ (0 ≤ m ∧ ys.length ≤ 1048576) := by split at hm <;> omega
    have Hm2 := Lib.hid hm2
    have HX := Lib.hid (And.intro hx1 hx2)
    clear hm2 hm hx1 hx2
    rcases Hm2.out with rfl | ⟨hm0, hy⟩
    · go_enter Try.func5, Try.ntmps5
      go_wp2_with fail
      refine (K1.out _ (Below.refl _ _)).mono ?_; rintro e w1 ⟨rfl, rfl⟩
      go_wp2_with fail
      refine K2.out.mono ?_; rintro e w1 ⟨rfl, rfl⟩
      go_wp2_with fail
      go_ret
      exact ⟨rfl, Below.refl _ _⟩
    · obtain ⟨d, hd⟩ : ∃ d : Bool, d = true ↔ IsSortedP ys xs := ⟨_, @decide_eq_true_iff _ (Classical.propDecidable _)⟩
      have Hd := Lib.hid hd
      have hxl := HX.out.1
      have ML := Lib.hid (fun r (hr : r ∈ xs) => show r.length ≤ maxLen by have := HX.out.2 r hr; unfold maxLen; omega)
      have T1 := Lib.hid (fun (z : World) (hz : Below w.heap.size w z) => toValueSS_ok A c xs z (by omega) (fun r hr => by have := HX.out.2 r hr; omega) (HH.out.2.1.on hz))
      have T2 := Lib.hid (fun (z : World) (hz : Below w.heap.size w z) => toSortKeyS_ok A' c' ys z hy (HH.out.2.2.on hz))
      clear hd
      have Hy := Lib.hid (And.intro (show xs.length ≤ 1048576 by omega) hy)
      clear hxl
      go_enter Try.func5, Try.ntmps5
      go_wp2_with fail
      refine (K1.out _ (Below.refl _ _)).mono ?_; rintro e w1 ⟨rfl, rfl⟩
      go_wp2_with fail
      refine K2.out.mono ?_; rintro e w1 ⟨rfl, rfl⟩
      go_wp2_with fail
      refine (T1.out _ (Below.refl _ _)).mono ?_; rintro e w1 ⟨rfl, hb1, bs1, ho1⟩
      go_wp2_with fail
      refine (T2.out _ hb1).mono ?_; rintro e w2 ⟨rfl, hb2, ho2⟩
      go_wp2_with fail
      refine (specIsSorted_ok _ _ _ _ xs ys _ Hy.out.1 Hy.out.2 ((ho1.svs (by omega) valC_length ML.out).on hb2) (ho2.sl' keyC_length) d Hd.out).mono ?_
      rintro e w3 ⟨rfl, hb3⟩
      have B3 := Lib.hid (bch hb1 (bch hb2 hb3))
      clear hb1 hb2 hb3 ho1 ho2
      go_wp2_with fail
      refine (T1.out _ B3.out).mono ?_; rintro e w4 ⟨rfl, hb4, bs4, ho4⟩
      have B4 := Lib.hid (bch B3.out hb4)
      have O4 := Lib.hid (ho4.svs (by omega) valC_length ML.out)
      clear hb4 ho4
      go_wp2_with fail
      refine (T2.out _ B4.out).mono ?_; rintro e w5 ⟨rfl, hb5, ho5⟩
      have B5 := Lib.hid (bch B4.out hb5)
      have O4' := Lib.hid (O4.out.on hb5)
      have O5 := Lib.hid (ho5.sl' keyC_length)
      clear hb5 ho5
      go_wp2_with fail
      refine (implIsSorted_ok _ _ _ _ xs ys _ Hy.out.1 Hy.out.2 O4'.out O5.out d Hd.out).mono ?_
      rintro e w6 ⟨rfl, hb6⟩
      have B6 := Lib.hid (bch B5.out hb6)
      have H6 := Lib.hid hb6
      clear hb6
      go_wp2_with fail
      refine (T1.out _ B6.out).mono ?_; rintro e w7 ⟨rfl, hb7, bs7, ho7⟩
      have B7 := Lib.hid (bch B6.out hb7)
      have H7 := Lib.hid hb7
      have O7 := Lib.hid (ho7.svs (by omega) valC_length ML.out)
      clear hb7 ho7
      go_wp2_with fail
      refine (eqValueSS_ok _ _ _ _ xs xs _ HH.out.1.1 HH.out.1.1 ((O4'.out.on H6.out).on H7.out) O7.out).mono ?_
      rintro e w8 ⟨rfl, hb8⟩
      have B8 := Lib.hid (bch B7.out hb8)
      have H8 := Lib.hid hb8
      clear hb8
      rw [decide_eq_true rfl]
      go_wp2_with fail
      refine (T2.out _ B8.out).mono ?_; rintro e w9 ⟨rfl, hb9, ho9⟩
      have B9 := Lib.hid (bch B8.out hb9)
      have H9 := Lib.hid hb9
      have O9 := Lib.hid (ho9.sl' keyC_length)
      clear hb9 ho9
      go_wp2_with fail
      refine (eqSortKeyS_ok _ _ _ _ ys ys _ HH.out.1.2 HH.out.1.2 ((((O5.out.on H6.out).on H7.out).on H8.out).on H9.out) O9.out).mono ?_
      rintro e w10 ⟨rfl, hb10⟩
      rw [decide_eq_true rfl]
      go_wp2_with fail
      go_ret
      exact ⟨rfl, bch B9.out hb10⟩

namespace lawFnExactIsSorted
theorem own : ownKnob Try.prog.godebug = none := by kernel_rfl
theorem laidOut : laidOutB Try.prog = true := by kernel_rfl
theorem valTypes : ValTypes Try.prog 108 4 3 := ⟨⟨_, _, Try.underlying108, rfl, rfl, rfl, rfl⟩, Try.underlying4, Try.underlying3, by kernel_rfl, by kernel_rfl, by kernel_rfl⟩

set_option maxRecDepth 100000 in
theorem lifted (os : Os) (started : os.Started) (H : Type) (enc : TypeId × Value → H) :
    ReturnsInHanded {} Try.checked os 5 .any (Rows.fnExactIsSortedSpec.pre6 enc Try.prog Try.f5 Rows.fnExactIsSortedRow.domain false) (Rows.fnExactIsSortedSpec.post enc Try.prog Try.f5 false true false false) := by
  refine returnsInHanded_of_change (C := Try.checked) own started (by kernel_rfl) Try.func5
    (ChangeSpec.witness6 (enc := enc) (C := Try.checked) false ⟨#[], #[.slice none 0 0, .slice none 0 0], []⟩ 8 (by kernel_rfl) (by kernel_rfl) (by kernel_rfl) (by kernel_rfl)) ?_
  intro W base args ds gs before hval0 hW hcnd _
  have hval : ∀ (j : Nat) t v, Try.f5.params[j]? = some t → args[j]? = some v → Value.okWide Try.prog W .any base t v := hval0
  have hW' := hW
  obtain ⟨p, q, hA0, hV, rfl, hfz, hnd⟩ := hW
  have hA : DataW.TrodAll enc Try.prog W 0 (fun _ => true) true Try.f5.params.toList args.toList ds p := hA0
  rw [Try.params5] at hA hval
  obtain ⟨v0, vs0, d0, ds0, p0, q0, hargs, rfl, rfl, h0, r0⟩ := trodAll_cons hA
  obtain ⟨v1, vs1, d1, ds1, p1, q1, rfl, rfl, rfl, h1, r1⟩ := trodAll_cons r0
  obtain ⟨rfl, rfl, rfl⟩ := trodAll_nil r1
  obtain rfl : args = #[v0, v1] := by cases args; simp_all
  obtain ⟨rfl, rfl⟩ := trodVars_none hV
  obtain ⟨a0, len0, c0, rfl⟩ := okWide_slice Try.underlying28 (hval 0 28 v0 rfl rfl)
  obtain ⟨a1, len1, c1, rfl⟩ := okWide_slice Try.underlying22 (hval 1 22 v1 rfl rfl)
  have k0 := h0
  have lt0 : ∀ x ∈ p0, x.block < W.heap.size := by obtain ⟨m, hm⟩ := k0; exact DataW.trod_lt m _ _ _ hm
  obtain ⟨f0, h0⟩ := h0
  have k1 := h1
  have lt1 : ∀ x ∈ p1, x.block < W.heap.size := by obtain ⟨m, hm⟩ := k1; exact DataW.trod_lt m _ _ _ hm
  obtain ⟨f1, h1⟩ := h1
  obtain ⟨xs0, rfl, hc0, hm0, s0⟩ := open_rows valTypes Try.underlying28 Try.underlying73 (by kernel_rfl) h0
  obtain ⟨xs1, rfl, hc1, hm1, _, s1⟩ := open_sl (sz := 2) (ec := keyC) Try.underlying22 (by kernel_rfl) (by omega) keyC_length
    (el_int_bool Try.underlying65 rfl rfl (by kernel_rfl) (by kernel_rfl) Try.underlying3 Try.underlying4) h1
  clear hA0 hval0
  refine (FnExactIsSorted_walk a0 c0 xs0 a1 c1 xs1 W (Nat.le_trans hc0 hm0) s0 (Nat.le_trans hc1 hm1) s1).mono fun e W' ⟨he, bel⟩ => ?_
  subst he
  exact ⟨_, rfl, _, _, _, [], _, [], hW', trodAll_mk1 (shut_bool Try.underlying4 _), (trodAll_cons_mk (Below.trod laidOut (by kernel_rfl) (of_decide_eq_true (by kernel_rfl)) k0 bel lt0) (trodAll_cons_mk (Below.trod laidOut (by kernel_rfl) (of_decide_eq_true (by kernel_rfl)) k1 bel lt1) trodAll_mk0)), rfl, bel.frame _, fun h => by cases h⟩

theorem over : Rows.fnExactIsSortedRow.holds Try.pinned (OpenSpec.ofChange Rows.fnExactIsSortedSpec) :=
  OpenClaim.holds_of_wide 5 Try.f5 rfl rfl rfl rfl rfl rfl rfl ⟨rfl, rfl, rfl, rfl, rfl⟩ rfl rfl rfl rfl rfl (by kernel_rfl) Try.func5 (by kernel_rfl)
    (of_decide_eq_true (by kernel_rfl)) (by unfold Func.isWrapper; first | (rw [if_pos (by decide +kernel)]; kernel_rfl) | (rw [if_neg (by decide +kernel)]; exact ⟨rfl, rfl⟩))
    (fun os started H enc _ => lifted os started H enc)

theorem proved : Rows.FnExactIsSortedSaid := over
end lawFnExactIsSorted
#print axioms lawFnExactIsSorted.proved

end Go.Proofs.Ythijkbkhgphcbaa
