/-
  Contracts: the states of values (stateOf of both), a value of a state (valueOf).
-/
import Derived.Test.YtcbfbgngkdiijaaProg
import Derived.Test.YtcbfbgngkdiijaaZnNuD
import Derived.Test.YtcbfbgngkdiijaaZnPln
import Derived.Deep.CutBlock
namespace Go.Proofs.Ytcbfbgngkdiijaa
open Go.RowKit Go.Qo
set_option linter.unusedVariables false
set_option linter.unusedSimpArgs false

theorem stV_null {v : Val} (h : v.1 = true) : stV v = 4 := by unfold stV; rw [if_pos h]
theorem stV_zero {v : Val} (h : v.1 = false) (h0 : v.2 = 0) : stV v = 1 := by unfold stV; rw [if_neg (by rw [h]; decide), if_pos h0]
theorem stV_other {v : Val} (h : v.1 = false) (h0 : ¬ v.2 = 0) : stV v = 2 := by unfold stV; rw [if_neg (by rw [h]; decide), if_neg h0]

set_option maxHeartbeats 1000000 in
theorem implStateOf_ok (v : Val) (w : World) : Calls Try.prog 52 #[.agg #[.bool v.1, .int .i64 v.2]] w fun e w' => e = .returned (.int .i64 (stV v)) ∧ Below w.heap.size w w' := by
  obtain ⟨nl, n⟩ := v
  obtain ⟨W1, hW1⟩ : ∃ z, w.alloc (.cells #[.bool nl, .int .i64 n] 64) = z := ⟨_, rfl⟩
  have B1 : Below w.heap.size w W1 := by rw [← hW1]; exact balloc (Below.refl _ _) _
  have r1 : Row W1 w.heap.size 64 [.bool nl, .int .i64 n] := by rw [← hW1]; exact Row.new _ _ _
  have c0 := r1.cell 0
  have c1 := r1.cell 1
  have HB1 := Lib.hid B1
  have HW1 := Lib.hid hW1
  clear B1 r1 hW1
  obtain ⟨R, hR⟩ : ∃ R, stV (nl, n) = R := ⟨_, rfl⟩
  rw [hR]
  cases nl with
  | true =>
    rw [stV_null rfl] at hR
    subst hR
    go_enter Try.func52, Try.ntmps52
    go_upto_region 1 with fail
    rw [HW1.out]
    go_wp2
    go_ret
    exact ⟨rfl, HB1.out⟩
  | false =>
    by_cases h0 : n = 0
    · subst h0
      rw [stV_zero rfl rfl] at hR
      subst hR
      go_enter Try.func52, Try.ntmps52
      go_upto_region 1 with fail
      rw [HW1.out]
      go_wp2
      go_ret
      exact ⟨rfl, HB1.out⟩
    · rw [stV_other rfl h0] at hR
      subst hR
      have hb : (n == 0) = false := by rw [beq_eq_false_iff_ne]; exact h0
      clear h0
      go_enter Try.func52, Try.ntmps52
      go_upto_region 1 with fail
      rw [HW1.out]
      go_wp2
      go_ret
      exact ⟨rfl, HB1.out⟩

set_option maxHeartbeats 1000000 in
theorem specStateOf_ok (v : Val) (w : World) : Calls Try.prog 58 #[.agg #[.bool v.1, .int .i64 v.2]] w fun e w' => e = .returned (.int .i64 (stV v)) ∧ Below w.heap.size w w' := by
  obtain ⟨nl, n⟩ := v
  obtain ⟨W1, hW1⟩ : ∃ z, w.alloc (.cells #[.bool nl, .int .i64 n] 64) = z := ⟨_, rfl⟩
  have B1 : Below w.heap.size w W1 := by rw [← hW1]; exact balloc (Below.refl _ _) _
  have r1 : Row W1 w.heap.size 64 [.bool nl, .int .i64 n] := by rw [← hW1]; exact Row.new _ _ _
  have c0 := r1.cell 0
  have c1 := r1.cell 1
  have HB1 := Lib.hid B1
  have HW1 := Lib.hid hW1
  clear B1 r1 hW1
  obtain ⟨R, hR⟩ : ∃ R, stV (nl, n) = R := ⟨_, rfl⟩
  rw [hR]
  cases nl with
  | true =>
    rw [stV_null rfl] at hR
    subst hR
    go_enter Try.func58, Try.ntmps58
    go_upto_region 1 with fail
    rw [HW1.out]
    go_wp2
    go_ret
    exact ⟨rfl, HB1.out⟩
  | false =>
    by_cases h0 : n = 0
    · subst h0
      rw [stV_zero rfl rfl] at hR
      subst hR
      go_enter Try.func58, Try.ntmps58
      go_upto_region 1 with fail
      rw [HW1.out]
      go_wp2
      go_ret
      exact ⟨rfl, HB1.out⟩
    · rw [stV_other rfl h0] at hR
      subst hR
      have hb : (n == 0) = false := by rw [beq_eq_false_iff_ne]; exact h0
      clear h0
      go_enter Try.func58, Try.ntmps58
      go_upto_region 1 with fail
      rw [HW1.out]
      go_wp2
      go_ret
      exact ⟨rfl, HB1.out⟩

/-- A value of a state. -/
def valS (x : Nat) : Val := if x = 4 then (true, 0) else if x = 2 then (false, 1) else (false, 0)
set_option maxHeartbeats 1000000 in
theorem valueOf_ok (x : Nat) (w : World) (hx : x = 1 ∨ x = 2 ∨ x = 4) : Calls Try.prog 71 #[.int .i64 x] w fun e w' => e = .returned (.agg #[.bool (valS x).1, .int .i64 (valS x).2]) ∧ Below w.heap.size w w' := by
  rcases hx with rfl | rfl | rfl
  · go_enter Try.func71, Try.ntmps71
    go_wp2
    exact bodyPost_ret (v := .agg #[.bool false, .int .i64 0]) (by simp [results, Try.results71, go_sem]) rfl ⟨rfl, balloc (Below.refl _ _) _⟩
  · go_enter Try.func71, Try.ntmps71
    go_wp2
    exact bodyPost_ret (v := .agg #[.bool false, .int .i64 1]) (by simp [results, Try.results71, go_sem]) rfl ⟨rfl, balloc (Below.refl _ _) _⟩
  · go_enter Try.func71, Try.ntmps71
    go_wp2
    exact bodyPost_ret (v := .agg #[.bool true, .int .i64 0]) (by simp [results, Try.results71, go_sem]) rfl ⟨rfl, balloc (Below.refl _ _) _⟩
end Go.Proofs.Ytcbfbgngkdiijaa
