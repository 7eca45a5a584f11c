/-
  How many rows a collected table has.
-/
import Derived.Test.YtldndapcbgaliaaProg
import Derived.Test.YtldndapcbgaliaaCol
namespace Go.Proofs.Ytldndapcbgaliaa
open Go.RowKit Go.Qo
set_option linter.unusedVariables false

theorem tabC_len {W W1 : Int} {rows out : List Row1} (h : TabC true W rows W1 out) : W1 = W ∧ out.length = (if rows.length ≤ 400 then rows.length else 0) ∧ ∀ r ∈ out, r ∈ rows := by
  rcases h with ⟨hq, _, _⟩ | ⟨_, hW, h⟩
  · cases hq
  · refine ⟨hW, ?_⟩
    split at h
    · rename_i hl
      rw [if_pos hl]
      exact ⟨h.1.length_eq, fun r hr => h.1.mem_iff.1 hr⟩
    · rename_i hl
      rw [if_neg hl]
      subst h
      simp
end Go.Proofs.Ytldndapcbgaliaa
