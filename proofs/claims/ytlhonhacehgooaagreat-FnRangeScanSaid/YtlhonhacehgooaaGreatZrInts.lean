/-
  Contracts: lists of numbers compared, marks of numbers still held; marks of tables.
-/
import Derived.Test.YtlhonhacehgooaaGreatProg
import Derived.Test.YtlhonhacehgooaaGreatZrPln
namespace Go.Proofs.YtlhonhacehgooaaGreat
open Go.RowKit Go.Qo
set_option linter.unusedVariables false
set_option linter.unusedSimpArgs false

theorem Ints.at_ {w : World} {B : Nat} {A : Option Addr} {xs : List Int} (h : Sl 1 intC w B A xs) {i : Nat} (hi : i < xs.length) : ∃ b off, A = some ⟨b, off, none⟩ ∧ b < B ∧ w.cell? ⟨b, off + i, none⟩ = some (.int .i64 xs[i]) := Sl.at1 (f := Value.int .i64) h hi

end Go.Proofs.YtlhonhacehgooaaGreat
