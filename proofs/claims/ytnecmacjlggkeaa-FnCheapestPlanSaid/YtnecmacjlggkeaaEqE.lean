/-
  Contracts: two expressions that hold one tree are equal (equalExprs, equalLists).
-/
import Derived.Test.YtnecmacjlggkeaaProg
import Derived.Test.YtnecmacjlggkeaaPlD
import Derived.OpenShut
import Derived.Deep.DeepCutAuto
namespace Go.Proofs.Ytnecmacjlggkeaa
open Go.RowKit Go.Qo
set_option linter.unusedVariables false
set_option linter.unusedSimpArgs false

theorem eqlV {x y : Val} (r : Bool) (hr : decide (x = y) = r) (w : World) : (binOp .eql 37 (.agg #[.bool x.1, .int .i64 x.2]) (.agg #[.bool y.1, .int .i64 y.2])).run Try.prog w = .ok (.bool r) w := by
  have hs : Try.prog.stoodInHeld 37 = false := by kernel_rfl
  subst hr
  obtain ⟨a, b⟩ := x
  obtain ⟨c, d⟩ := y
  simp [go_sem, hs]
  by_cases h1 : a = c <;> by_cases h2 : b = d <;> simp [h1, h2]
/-- An expression as a value. -/
def feV (f : FE) : Value := .agg #[.int .i64 f.kind, .int .i64 f.col, .bool f.val.1, .int .i64 f.val.2, .slice f.sv.A f.sv.n f.sv.c]
end Go.Proofs.Ytnecmacjlggkeaa
