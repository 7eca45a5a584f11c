import Derived.Test.YtcbfbgngkdiijaaProg
import Derived.Test.YtcbfbgngkdiijaaZnGa
import Derived.OpenShut
import Derived.Deep.DeepCutAuto
import Derived.Test.YtcbfbgngkdiijaaZnPln
/-
  Contracts: two expressions that hold one tree are equal (equalExprs, equalLists).
-/
namespace Go.Proofs.Ytcbfbgngkdiijaa
open Go.RowKit Go.Qo
set_option linter.unusedVariables false
set_option linter.unusedSimpArgs false

theorem eqlV {x y : Val} (r : Bool) (hr : decide (x = y) = r) (w : World) : (binOp .eql 64 (.agg #[.bool x.1, .int .i64 x.2]) (.agg #[.bool y.1, .int .i64 y.2])).run Try.prog w = .ok (.bool r) w := by
  have hs : Try.prog.stoodInHeld 64 = false := by kernel_rfl
  subst hr
  obtain ⟨a, b⟩ := x
  obtain ⟨c, d⟩ := y
  simp [go_sem, hs]
  by_cases h1 : a = c <;> by_cases h2 : b = d <;> simp [h1, h2]
/-- An expression as a value. -/
def feV (f : FE) : Value := .agg #[.int .i64 f.kind, .int .i64 f.col, .bool f.val.1, .int .i64 f.val.2, .slice f.sv.A f.sv.n f.sv.c]
end Go.Proofs.Ytcbfbgngkdiijaa

/-
  Contracts: lists of numbers compared, marks of numbers still held; marks of tables.
-/
namespace Go.Proofs.Ytcbfbgngkdiijaa
open Go.RowKit Go.Qo
set_option linter.unusedVariables false
set_option linter.unusedSimpArgs false

/-- 'flat_setI' (XMark), for seats that have no markIntS. -/
theorem flat_setI2 : ∀ (xs : List Int) (j : Nat) (y : Int), (xs.flatMap intC).set j (.int .i64 y) = (xs.set j y).flatMap intC
  | [], j, y => by simp
  | x :: xs, 0, y => by simp [intC]
  | x :: xs, j + 1, y => by
    have ih := flat_setI2 xs j y
    simpa [intC] using ih
theorem Ints.at_ {w : World} {B : Nat} {A : Option Addr} {xs : List Int} (h : Sl 1 intC w B A xs) {i : Nat} (hi : i < xs.length) : ∃ b off, A = some ⟨b, off, none⟩ ∧ b < B ∧ w.cell? ⟨b, off + i, none⟩ = some (.int .i64 xs[i]) := Sl.at1 (f := Value.int .i64) h hi

end Go.Proofs.Ytcbfbgngkdiijaa

/-
  Contract: lists of numbers compared (equalInts).
-/
namespace Go.Proofs.Ytcbfbgngkdiijaa
open Go.RowKit Go.Qo
set_option linter.unusedVariables false
set_option linter.unusedSimpArgs false

end Go.Proofs.Ytcbfbgngkdiijaa

/-
  Contract: two plans that hold one tree are equal (equalPlans).
-/
namespace Go.Proofs.Ytcbfbgngkdiijaa
open Go.RowKit Go.Qo
set_option linter.unusedVariables false
set_option linter.unusedSimpArgs false

/-- A plan as a value. -/
def fpV (f : FP) : Value := .agg #[.int .i64 f.kind, .int .i64 f.table, .slice f.es.A f.es.n f.es.c, .slice f.cs.A f.cs.n f.cs.c, .slice f.ks.A f.ks.n f.ks.c]

end Go.Proofs.Ytcbfbgngkdiijaa
