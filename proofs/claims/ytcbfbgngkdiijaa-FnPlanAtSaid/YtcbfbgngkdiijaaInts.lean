/-
  Contracts: lists of numbers compared, marks of numbers still held; marks of tables.
-/
import Derived.Test.YtcbfbgngkdiijaaProg
import Derived.Test.YtcbfbgngkdiijaaPln
namespace Go.Proofs.Ytcbfbgngkdiijaa
open Go.RowKit Go.Qo
set_option linter.unusedVariables false
set_option linter.unusedSimpArgs false

/-- 'flat_setI' (XMark), for seats that have no markIntS. -/
theorem flat_setI2 : ∀ (xs : List Int) (j : Nat) (y : Int), (xs.flatMap intC).set j (.int .i64 y) = (xs.set j y).flatMap intC
  | [], j, y => by simp
  | x :: xs, 0, y => by simp [intC]
  | x :: xs, j + 1, y => by
    have ih := flat_setI2 xs j y
    simpa [intC] using ih
theorem Ints.at_ {w : World} {B : Nat} {A : Option Addr} {xs : List Int} (h : Sl 1 intC w B A xs) {i : Nat} (hi : i < xs.length) : ∃ b off, A = some ⟨b, off, none⟩ ∧ b < B ∧ w.cell? ⟨b, off + i, none⟩ = some (.int .i64 xs[i]) := Sl.at1 (f := Value.int .i64) h hi



end Go.Proofs.Ytcbfbgngkdiijaa
