/-
  FnMergeSymmetric returns true for all bytes and leaves them as they were. No condition.
-/
import Derived.Test.YtmljhkoabhjiaaaRows
import Derived.OpenShut
import Derived.Test.YtmljhkoabhjiaaaAgM
import Derived.Test.YtmljhkoabhjiaaaAgH
import Derived.Test.YtmljhkoabhjiaaaArgB
namespace Go.Proofs.Ytmljhkoabhjiaaa
open Go.RowKit Go.Qo
open Go.ChangeShapes Go.WideShapes Go.ChangeAt
set_option linter.unusedVariables false
set_option linter.unusedSimpArgs false

set_option maxRecDepth 20000 in
set_option maxHeartbeats 2000000 in
theorem FnMergeSymmetric_walk (A : Option Addr) (c : Nat) (xs : List Int) (w : World) (hc : xs.length ≤ c) (hm : c ≤ maxLen) (hg : ∀ x ∈ xs, 0 ≤ x ∧ x ≤ 255) (h : Sl 1 byteC w w.heap.size A xs) :
    Calls Try.prog 8 #[.slice A xs.length c] w fun e w' => e = .returned (.bool true) ∧ Below w.heap.size w w' := by
  have HD := Lib.hid (drawMerge_ok A c xs w hc hm hg h)
  have hx63 : xs.length ≤ 9223372036854775807 := by unfold maxLen at hm; omega
  have hgv := eqgVal
  clear h hc hm hg
  by_cases hx : (1048576 : Int) < xs.length
  · clear HD
    go_enter Try.func8, Try.ntmps8
    go_wp2
    go_ret
    exact ⟨rfl, Below.refl _ _⟩
  · go_enter Try.func8, Try.ntmps8
    go_wp2_with fail
    refine HD.out.mono ?_
    rintro e w1 ⟨x, y, k, rfl, hb1⟩
    obtain ⟨d, hd⟩ : ∃ d : Bool, d = true ↔ MergeOk k x y := ⟨_, @decide_eq_true_iff _ (Classical.propDecidable _)⟩
    obtain ⟨m, hmm⟩ : ∃ m : Val, (if d then mergeF k x y else zV) = m := ⟨_, rfl⟩
    have S1 := Lib.hid (fun (z : World) => specMerge_ok x y k z d hd)
    have S2 := Lib.hid (fun (z : World) => implMerge_ok x y k z d hd)
    rw [hmm] at S1 S2
    unfold vAgg2 at S1 S2
    have HM := Lib.hid hmm
    have Hd := Lib.hid hd
    have HL := Lib.hid hb1
    have hne := neqVal (x := m) (y := m) false (by simp)
    have heq := eqlVal (x := m) (y := m) true (by simp)
    have heqx := eqlVal (x := x) (y := x) true (by simp)
    have B0 := Lib.hid (balloc (balloc (Below.refl w1.heap.size w1) (.cells #[.bool x.1, .int .i64 x.2] 25)) (.cells #[.bool y.1, .int .i64 y.2] 25))
    have RX := Lib.hid (Row.first w1 25 #[.bool x.1, .int .i64 x.2] (.cells #[.bool y.1, .int .i64 y.2] 25))
    have RY := Lib.hid (Row.second w1 (.cells #[.bool x.1, .int .i64 x.2] 25) 25 #[.bool y.1, .int .i64 y.2])
    clear hd hmm hb1
    have hdd : (d != d) = false := by simp
    have hdd2 : (d == d) = true := by simp
    go_wp2_with fail
    refine (S2.out _).mono ?_
    rintro e w3 ⟨rfl, hb3⟩
    have H3 := Lib.hid (bch B0.out hb3)
    have RX3 := Lib.hid (And.intro (RX.out.on hb3) (RY.out.on hb3))
    have KX := Lib.hid (fun (z : World) (hz : Below w3.heap.size w3 z) => show (z.cell? ⟨w1.heap.size, 0, none⟩ = some (.bool x.1) ∧ z.cell? ⟨w1.heap.size, 1, none⟩ = some (.int .i64 x.2) ∧ z.cell? ⟨w1.heap.size + 1, 0, none⟩ = some (.bool y.1) ∧ z.cell? ⟨w1.heap.size + 1, 1, none⟩ = some (.int .i64 y.2))
      from ⟨(RX3.out.1.on hz).cell 0, (RX3.out.1.on hz).cell 1, (RX3.out.2.on hz).cell 0, (RX3.out.2.on hz).cell 1⟩)
    have x3 := KX.out w3 (Below.refl _ _)
    have l3 := RX3.out.1.lt
    have l3' := RX3.out.2.lt
    clear hb3
    go_wp2_with fail
    have B3 := Lib.hid (balloc (Below.refl w3.heap.size w3) (.cells #[.bool m.1, .int .i64 m.2] 25))
    refine (S1.out _).mono ?_
    rintro e w4 ⟨rfl, hb4⟩
    have H4 := Lib.hid (bch B3.out hb4)
    have RM := Lib.hid ((Row.new w3 25 #[.bool m.1, .int .i64 m.2]).on hb4)
    have x4 := KX.out w4 H4.out
    have l4 := (RX3.out.1.on H4.out).lt
    have l4' := (RX3.out.2.on H4.out).lt
    have c0 : w4.cell? ⟨w3.heap.size, 0, none⟩ = some (.bool m.1) := RM.out.cell 0
    have c1 : w4.cell? ⟨w3.heap.size, 1, none⟩ = some (.int .i64 m.2) := RM.out.cell 1
    have e0 := RM.out.lt
    clear hb4 x3 l3 l3'
    cases d
    · go_wp2
      go_ret
      exact ⟨rfl, bch HL.out (bch H3.out (balloc H4.out _))⟩
    · have hok := Hd.out.1 rfl
      have hmk : mergeF k x y = m := HM.out
      have K5 := Lib.hid (fun (z : World) => implMerge_ok y x k z true ⟨fun _ => ⟨hok.b, hok.a, hok.k1, hok.k5⟩, fun _ => rfl⟩)
      have K6 := Lib.hid (fun (z : World) => implMerge_ok x (true, 0) k z true ⟨fun _ => ⟨hok.a, rfl, hok.k1, hok.k5⟩, fun _ => rfl⟩)
      rw [show (if (true : Bool) = true then mergeF k y x else zV) = m from (mergeF_comm hok).trans hmk] at K5
      rw [show (if (true : Bool) = true then mergeF k x (true, 0) else zV) = x from mergeF_null hok] at K6
      unfold vAgg2 at K5 K6
      clear hok hmk
      have B4 := Lib.hid (balloc H4.out (.cells #[.bool m.1, .int .i64 m.2] 25))
      have RM4 := Lib.hid (RM.out.alloc (.cells #[.bool m.1, .int .i64 m.2] 25))
      go_wp2_with fail
      refine (K5.out _).mono ?_
      rintro e w5 ⟨rfl, hb5⟩
      have H5 := Lib.hid (bch B4.out hb5)
      have RM5 := Lib.hid (RM4.out.on hb5)
      have x5 := KX.out w5 H5.out
      have l5 := (RX3.out.1.on H5.out).lt
      have l5' := (RX3.out.2.on H5.out).lt
      clear hb5 x4 l4 l4' c0 c1 e0
      have B5 := Lib.hid (balloc H5.out (.cells #[.bool m.1, .int .i64 m.2] 25))
      have RM6 := Lib.hid (And.intro (RM5.out.alloc (.cells #[.bool m.1, .int .i64 m.2] 25)) (Row.new w5 25 #[.bool m.1, .int .i64 m.2]))
      go_wp2_with fail
      refine (K6.out _).mono ?_
      rintro e w6 ⟨rfl, hb6⟩
      have H6 := Lib.hid (bch B5.out hb6)
      have RM7 := Lib.hid (And.intro (RM6.out.1.on hb6) (RM6.out.2.on hb6))
      have x6 := KX.out w6 H6.out
      have l6 := (RX3.out.1.on H6.out).lt
      have c0 : w6.cell? ⟨w3.heap.size, 0, none⟩ = some (.bool m.1) := RM7.out.1.cell 0
      have c1 : w6.cell? ⟨w3.heap.size, 1, none⟩ = some (.int .i64 m.2) := RM7.out.1.cell 1
      have c2 : w6.cell? ⟨w5.heap.size, 0, none⟩ = some (.bool m.1) := RM7.out.2.cell 0
      have c3 : w6.cell? ⟨w5.heap.size, 1, none⟩ = some (.int .i64 m.2) := RM7.out.2.cell 1
      have e1 := RM7.out.1.lt
      have e2 := RM7.out.2.lt
      clear hb6 x5 l5 l5'
      go_wp2
      go_ret
      exact ⟨rfl, bch HL.out (bch H3.out (balloc H6.out _))⟩

namespace lawFnMergeSymmetric
theorem own : ownKnob Try.prog.godebug = none := by kernel_rfl
theorem laidOut : laidOutB Try.prog = true := by kernel_rfl

set_option maxRecDepth 100000 in
theorem lifted (os : Os) (started : os.Started) (H : Type) (enc : TypeId × Value → H) :
    ReturnsInHanded {} Try.checked os 8 .any (Rows.fnMergeSymmetricSpec.pre6 enc Try.prog Try.f8 Rows.fnMergeSymmetricRow.domain false) (Rows.fnMergeSymmetricSpec.post enc Try.prog Try.f8 false true false false) := by
  refine returnsInHanded_of_change (C := Try.checked) own started (by kernel_rfl) Try.func8
    (ChangeSpec.witness6 (enc := enc) (C := Try.checked) false ⟨#[], #[.slice none 0 0], []⟩ 8 (by kernel_rfl) (by kernel_rfl) (by kernel_rfl) (by kernel_rfl)) ?_
  intro W base args ds gs before hval0 hW hcnd _
  have hval : ∀ (j : Nat) t v, Try.f8.params[j]? = some t → args[j]? = some v → Value.okWide Try.prog W .any base t v := hval0
  have hW' := hW
  obtain ⟨p, q, hA0, hV, rfl, hfz, hnd⟩ := hW
  have hA : DataW.TrodAll enc Try.prog W 0 (fun _ => true) true Try.f8.params.toList args.toList ds p := hA0
  rw [Try.params8] at hA hval
  obtain ⟨v0, vs0, d0, ds0, p0, q0, hargs, rfl, rfl, h0, r0⟩ := trodAll_cons hA
  obtain ⟨rfl, rfl, rfl⟩ := trodAll_nil r0
  obtain rfl : args = #[v0] := by cases args; simp_all
  obtain ⟨rfl, rfl⟩ := trodVars_none hV
  obtain ⟨a0, len0, c0, rfl⟩ := okWide_slice Try.underlying37 (hval 0 37 v0 rfl rfl)
  have k0 := h0
  have lt0 : ∀ x ∈ p0, x.block < W.heap.size := by obtain ⟨m, hm⟩ := k0; exact DataW.trod_lt m _ _ _ hm
  obtain ⟨f0, h0⟩ := h0
  obtain ⟨xs0, rfl, hc0, hm0, g0, s0⟩ := open_sl (sz := 1) (ec := byteC) Try.underlying37 (by kernel_rfl) (by omega) byteC_length (el_byte Try.underlying5) h0
  clear hA0 hval0
  refine (FnMergeSymmetric_walk a0 c0 xs0 W hc0 hm0 g0 s0).mono fun e W' ⟨he, bel⟩ => ?_
  subst he
  exact ⟨_, rfl, _, _, _, [], _, [], hW', trodAll_mk1 (shut_bool Try.underlying4 _), (trodAll_cons_mk (Below.trod laidOut (by kernel_rfl) (of_decide_eq_true (by kernel_rfl)) k0 bel lt0) trodAll_mk0), rfl, bel.frame _, fun h => by cases h⟩

theorem over : Rows.fnMergeSymmetricRow.holds Try.pinned (OpenSpec.ofChange Rows.fnMergeSymmetricSpec) :=
  OpenClaim.holds_of_wide 8 Try.f8 rfl rfl rfl rfl rfl rfl rfl ⟨rfl, rfl, rfl, rfl, rfl⟩ rfl rfl rfl rfl rfl (by kernel_rfl) Try.func8 (by kernel_rfl)
    (of_decide_eq_true (by kernel_rfl)) (by unfold Func.isWrapper; first | (rw [if_pos (by decide +kernel)]; kernel_rfl) | (rw [if_neg (by decide +kernel)]; exact ⟨rfl, rfl⟩))
    (fun os started H enc _ => lifted os started H enc)

theorem proved : Rows.FnMergeSymmetricSaid := over
end lawFnMergeSymmetric
#print axioms lawFnMergeSymmetric.proved

end Go.Proofs.Ytmljhkoabhjiaaa
