/-
  Contracts of IsSorted: the reference's and the program's. Both say IsSortedP.
-/
import Derived.Test.YtlhonhacehgooaaGreatProg
import Derived.Test.YtlhonhacehgooaaGreatZgSrt
import Derived.Test.YtlhonhacehgooaaGreatZgOrdW
import Derived.Test.YtlhonhacehgooaaGreatZgRwt
namespace Go.Proofs.YtlhonhacehgooaaGreat
open Go.RowKit Go.Qo
set_option linter.unusedVariables false
set_option linter.unusedSimpArgs false

/-- What the first loop of the reference has seen of k rows. -/
def SrtUpto (keys : List Key) (rows : List Row1) (k : Nat) : Prop :=
  ∀ (i : Nat) (r r0 : Row1), i < k → rows[i]? = some r → rows[0]? = some r0 → rowValid r = true ∧ (r.length : Int) = r0.length ∧ KeysOk r0.length keys
theorem SrtUpto.next {keys : List Key} {rows : List Row1} {k : Nat} {x r0 : Row1} (h : SrtUpto keys rows k) (hx : rows[k]? = some x) (h0 : rows[0]? = some r0) (hv : rowValid x = true) (hl : (x.length : Int) = r0.length) (hk : KeysOk r0.length keys) : SrtUpto keys rows (k + 1) := by
  intro i r r' hi hr hr0
  rw [h0] at hr0; cases hr0
  rcases Nat.lt_succ_iff_lt_or_eq.1 hi with h3 | rfl
  · exact h i r _ h3 hr h0
  · rw [hx] at hr; cases hr; exact ⟨hv, hl, hk⟩
theorem SrtUpto.all {keys : List Key} {rows : List Row1} {k : Nat} (h : SrtUpto keys rows k) (hk : rows.length ≤ k) {r0 : Row1} (h0 : rows[0]? = some r0) : AllRows r0.length rows ∧ KeysOk r0.length keys := by
  refine ⟨fun r hr => ?_, ?_⟩
  · obtain ⟨i, hi, rfl⟩ := List.getElem_of_mem hr
    have := h i _ r0 (by omega) (List.getElem?_eq_getElem hi) h0
    exact ⟨this.1, this.2.1⟩
  · have hl := (List.getElem?_eq_some_iff.1 h0).1
    exact (h 0 r0 r0 (by omega) h0 h0).2.2
end Go.Proofs.YtlhonhacehgooaaGreat
