/-
  Arguments opened: a slice whose elements are of whatever type reads as a list.
-/
import Derived.ProofKit
import Derived.Deep.Slices
import Derived.ChangeSame
import Derived.Test.YtcbfbgngkdiijaaZnPln
namespace Go.Qo
open Go.RowKit Go.ChangeShapes Go.WideShapes Go.Deep
set_option linter.unusedVariables false
set_option linter.unusedSimpArgs false

section
variable {H : Type} {enc : TypeId × Value → H} {P : Program} {w : World} {base : Nat} {spare : Nat → Bool} {held : Bool}

/-- What an element's cells are, given by its own reading, makes the slice a list of such elements. -/
theorem open_sl {α : Type} {ec : α → List Value} {Good : α → Prop} {t e : TypeId} {sz : Nat} {fuel : Nat} {A : Option Addr} {n c : Nat} {x : DataW H × List MemPlace}
    (ht : P.underlying t = some (.slice e)) (hC : P.cellsOf e = sz) (hsz : 0 < sz) (hec : ∀ a, (ec a).length = sz)
    (hel : ∀ (fuel : Nat) (cs : List Value) (x : DataW H × List MemPlace), cs.length = sz → DataW.trod enc P w base spare held fuel e cs = some x → ∃ el : α, cs = ec el ∧ Good el)
    (h : DataW.trod enc P w base spare held fuel t [.slice A n c] = some x) :
    ∃ xs : List α, xs.length = n ∧ n ≤ c ∧ c ≤ maxLen ∧ (∀ el ∈ xs, Good el) ∧ Sl sz ec w w.heap.size A xs := by
  rcases open_slice ht h with ⟨hcs, _⟩ | ⟨a, len, cap, m, k, D, Pl, hcs, hb, hl, hm, hmm, _, hi⟩
  · simp only [List.cons.injEq, Value.slice.injEq, and_true] at hcs
    obtain ⟨rfl, rfl, rfl⟩ := hcs
    exact ⟨[], rfl, Nat.le_refl _, by unfold maxLen; omega, by simp, Sl.nil⟩
  · simp only [List.cons.injEq, Value.slice.injEq, and_true] at hcs
    obtain ⟨rfl, rfl, rfl⟩ := hcs
    have hle : n ≤ m := by rw [hmm]; split <;> omega
    have h1 : ∀ i, i < n → ∃ el : α, Good el ∧ ∀ j u, (ec el)[j]? = some u → w.cell? (a.add (i * sz + j)) = some u := by
      intro i hin
      obtain ⟨cs', hc, ht'⟩ := hi i (by omega)
      obtain ⟨_, hcl, hat⟩ := World.cells?_some hc
      rw [hC] at hcl hat
      obtain ⟨el, rfl, hg⟩ := hel _ _ _ hcl ht'
      refine ⟨el, hg, fun j u hu => ?_⟩
      have hj : j < sz := by have := (List.getElem?_eq_some_iff.1 hu).1; rw [hec] at this; exact this
      have := hat j hj
      rw [Go.Deep.add_add] at this
      rw [this, hu]
    rcases Nat.eq_zero_or_pos n with rfl | hn
    · exact ⟨[], rfl, hl, hm, by simp, Sl.nil⟩
    · obtain ⟨el0, _, _⟩ := h1 0 hn
      haveI : Inhabited α := ⟨el0⟩
      obtain ⟨f, hf⟩ := choose_lt h1
      obtain ⟨b, off, spot⟩ := a
      have hc0 : ∃ u, w.cell? (Addr.add ⟨b, off, spot⟩ (0 * sz + 0)) = some u := by
        have hl0 : 0 < (ec (f 0)).length := by rw [hec]; exact hsz
        exact ⟨_, (hf 0 hn).2 0 _ (List.getElem?_eq_getElem hl0)⟩
      obtain ⟨u, hu⟩ := hc0
      have hu' : w.cell? ⟨b, off, spot⟩ = some u := by simpa [Addr.add] using hu
      have hspot : spot = none := by simpa using World.cell?_spot hu'
      subst hspot
      have hb := World.block_lt_of_cell? w _ hu'
      refine ⟨(List.range n).map f, by simp, hl, hm, ?_, fun _ => ⟨b, off, rfl, hb, fun i x hx j u hu => ?_⟩⟩
      · intro el hel
        obtain ⟨i, hi, rfl⟩ := List.mem_map.1 hel
        exact (hf i (List.mem_range.1 hi)).1
      · have hi : i < n := by have := (List.getElem?_eq_some_iff.1 hx).1; simpa using this
        have hx' : x = f i := by simpa [hi] using hx.symm
        subst hx'
        have := (hf i hi).2 j u hu
        rw [Addr.add_lit, ← Nat.add_assoc] at this
        exact this

end

end Go.Qo
