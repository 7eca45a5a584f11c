/-
  Contracts of the reference's keepRows, SemiJoin, AntiJoin.
-/
import Derived.Test.YtldndapcbgaliaaProg
import Derived.Test.YtldndapcbgaliaaSmjS
import Derived.Test.YtldndapcbgaliaaTwo
namespace Go.Proofs.Ytldndapcbgaliaa
open Go.RowKit Go.Qo
set_option linter.unusedVariables false
set_option linter.unusedSimpArgs false

/-- The reference's: whether a row's number occurs in a column. -/
def rMt (ci cj : Nat) (ys : List Row1) (r : Row1) : Bool := match r[ci]? with | some v => sMt cj ys v | none => false
theorem rMt_mt {ci cj : Nat} {ys : List Row1} {r : Row1} : rMt ci cj ys r = mt ci (colN cj ys) r := by
  unfold rMt mt
  cases h : r[ci]? with
  | none => rfl
  | some v =>
    obtain ⟨nl, n⟩ := v
    simp only [sMt_mt]
    cases nl <;> rfl
theorem filter_take_snoc {P : Row1 → Bool} {xs : List Row1} {k : Nat} {x : Row1} (hx : xs[k]? = some x) : (xs.take (k + 1)).filter P = if P x then (xs.take k).filter P ++ [x] else (xs.take k).filter P := by
  rw [take_snoc_ hx, List.filter_append]
  by_cases h : P x = true <;> simp [h]
end Go.Proofs.Ytldndapcbgaliaa
