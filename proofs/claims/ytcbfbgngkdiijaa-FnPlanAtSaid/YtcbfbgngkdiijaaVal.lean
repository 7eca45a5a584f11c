/-
  Contracts of the functions of values and rows: the laws' own, the reference's, the program's.
-/
import Derived.Test.YtcbfbgngkdiijaaProg
import Derived.Test.YtcbfbgngkdiijaaPln
namespace Go.Proofs.Ytcbfbgngkdiijaa
open Go.RowKit Go.Qo
set_option linter.unusedVariables false
set_option linter.unusedSimpArgs false

/-! ### Numbers -/
set_option maxHeartbeats 400000 in
theorem inRange_ok (n lo hi : Int) (w : World) (r : Bool) (hr : (decide (lo ≤ n) && decide (n ≤ hi)) = r) :
    Calls Try.prog 44 #[.int .i64 n, .int .i64 lo, .int .i64 hi] w fun e w' => e = .returned (.bool r) ∧ w = w' := by
  subst hr
  by_cases h1 : lo ≤ n <;> by_cases h2 : n ≤ hi
  all_goals
    go_enter Try.func44, Try.ntmps44
    go_wp2
    go_ret
    exact ⟨ret_bool (by simp [h1, h2]; try omega), rfl⟩

set_option maxHeartbeats 400000 in
theorem validWidth_ok (n : Int) (w : World) (r : Bool) (hr : (decide (1 ≤ n) && decide (n ≤ 6)) = r) :
    Calls Try.prog 49 #[.int .i64 n] w fun e w' => e = .returned (.bool r) ∧ w = w' := by
  subst hr
  by_cases h1 : 1 ≤ n <;> by_cases h2 : n ≤ 6
  all_goals
    go_enter Try.func49, Try.ntmps49
    go_wp2
    go_ret
    exact ⟨ret_bool (by simp [h1, h2]; try omega), rfl⟩



set_option maxHeartbeats 400000 in
theorem specValidValue_ok (v : Val) (w : World) (r : Bool) (hr : vValid v = r) :
    Calls Try.prog 83 #[.agg #[.bool v.1, .int .i64 v.2]] w fun e w' => e = .returned (.bool r) ∧ Below w.heap.size w w' := by
  subst hr
  obtain ⟨nl, n⟩ := v
  have hx : vValid (nl, n) = ((decide (-9999 ≤ n) && decide (n ≤ 9999)) && (!nl || n == 0)) := by
    unfold vValid; cases nl <;> simp
    by_cases h : n = 0 <;> simp [h]
  obtain ⟨r, hr⟩ : ∃ r, (decide (-9999 ≤ n) && decide (n ≤ 9999)) = r := ⟨_, rfl⟩
  have c1 := Lib.hid (fun w => inRange_ok n (-9999) 9999 w r hr)
  rw [hx, hr]
  clear hx hr
  cases r <;> cases nl
  all_goals
    go_enter Try.func83, Try.ntmps83
    go_wp2_with fail
    refine (c1.out _).mono ?_; rintro e w' ⟨rfl, rfl⟩
    go_wp2
    go_ret
    exact ⟨ret_bool (by simp), balloc (Below.refl _ _) _⟩

set_option maxHeartbeats 400000 in
theorem implValid_ok (v : Val) (w : World) (r : Bool) (hr : vValid v = r) :
    Calls Try.prog 91 #[.agg #[.bool v.1, .int .i64 v.2]] w fun e w' => e = .returned (.bool r) ∧ Below w.heap.size w w' := by
  subst hr
  obtain ⟨nl, n⟩ := v
  unfold vValid
  by_cases h1 : -9999 ≤ n <;> cases nl
  all_goals
    go_enter Try.func91, Try.ntmps91
    go_wp2
    go_ret
    exact ⟨ret_bool (by simp [h1]; try omega), balloc (Below.refl _ _) _⟩


theorem eqlVal {x y : Val} (r : Bool) (hr : decide (x = y) = r) (w : World) : (binOp .eql 64 (.agg #[.bool x.1, .int .i64 x.2]) (.agg #[.bool y.1, .int .i64 y.2])).run Try.prog w = .ok (.bool r) w := by
  have hs : Try.prog.stoodInHeld 64 = false := by kernel_rfl
  subst hr
  obtain ⟨a, b⟩ := x
  obtain ⟨c, d⟩ := y
  simp [go_sem, hs]
  by_cases h1 : a = c <;> by_cases h2 : b = d <;> simp [h1, h2]
theorem neqVal {x y : Val} (r : Bool) (hr : decide (x ≠ y) = r) (w : World) : (binOp .neq 64 (.agg #[.bool x.1, .int .i64 x.2]) (.agg #[.bool y.1, .int .i64 y.2])).run Try.prog w = .ok (.bool r) w := by
  have hs : Try.prog.stoodInHeld 64 = false := by kernel_rfl
  subst hr
  obtain ⟨a, b⟩ := x
  obtain ⟨c, d⟩ := y
  simp [go_sem, hs]
  by_cases h1 : a = c <;> by_cases h2 : b = d <;> simp [h1, h2]
theorem eqgVal (op : BinOp) (x y : Operand) (xs ys : Array Value) (w : World) : (eqGuard op 64 x y (.agg xs) (.agg ys)).run Try.prog w = .ok () w :=
  run_eqGuard_agg w op _ x y xs ys (by kernel_rfl)





theorem zeroVal : (Try.prog.info? 64).map (fun i => (i.zero, i.size, i.bytes)) = some (some (.agg #[.bool false, .int .i64 0]), 2, 16) := by kernel_rfl






end Go.Proofs.Ytcbfbgngkdiijaa
