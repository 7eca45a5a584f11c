/-
  Contract of eachMerged: the program's, whatever visits the rows.
-/
import Derived.Test.YtfhafbincknaeaaProg
import Derived.Test.YtfhafbincknaeaaCol
import Derived.Test.YtfhafbincknaeaaRwt
import Derived.Test.YtfhafbincknaeaaPln
namespace Go.Proofs.Ytfhafbincknaeaa
open Go.RowKit Go.Qo
set_option linter.unusedVariables false
set_option linter.unusedSimpArgs false

theorem head_drop {α : Type} {l : List α} {k : Nat} {x : α} {r : List α} (h : l.drop k = x :: r) : l[k]? = some x ∧ l.drop (k + 1) = r := by
  refine ⟨?_, ?_⟩
  · have := congrArg (fun l => l[0]?) h
    simpa using this
  · rw [← List.drop_drop, h]; rfl

end Go.Proofs.Ytfhafbincknaeaa
