/-
  Contracts of the reader of drawn data: newReader, pick, one.
-/
import Derived.Test.YtmhlpjfijpomkaaGreatDoorProg
import Derived.Test.YtmhlpjfijpomkaaGreatDoorZqPln
namespace Go.Proofs.YtmhlpjfijpomkaaGreatDoor
open Go.RowKit Go.Qo
set_option linter.unusedVariables false
set_option linter.unusedSimpArgs false

/-- The reader at block b: at most 2000 bytes, its counter at most p. -/
def Rd (w : World) (b : Nat) (p : Nat) : Prop :=
  ∃ (A : Option Addr) (xs : List Int) (c : Nat) (q : Nat), xs.length ≤ 2000 ∧ (∀ x ∈ xs, 0 ≤ x ∧ x ≤ 255) ∧ Row w b 94 [.slice A xs.length c, .int .i64 q] ∧ q ≤ p ∧ Sl 1 byteC w b A xs
theorem Rd.lt {w : World} {b p : Nat} (h : Rd w b p) : b < w.heap.size := by obtain ⟨A, xs, c, q, _, _, h, _⟩ := h; exact h.lt
theorem Rd.mono {w : World} {b p p' : Nat} (h : Rd w b p) (hp : p ≤ p') : Rd w b p' := by
  obtain ⟨A, xs, c, q, h1, h2, h3, h4, h5⟩ := h
  exact ⟨A, xs, c, q, h1, h2, h3, by omega, h5⟩
theorem Rd.on {w w' : World} {b p : Nat} (h : Rd w b p) (hb : Below w.heap.size w w') : Rd w' b p := by
  obtain ⟨A, xs, c, q, h1, h2, h3, h4, h5⟩ := h
  exact ⟨A, xs, c, q, h1, h2, h3.on hb, h4, h5.below (hb.mono (by have := h3.lt; omega))⟩
theorem Rd.grown {w w' : World} {b p : Nat} {row : Option Nat} (h : Rd w b p) (hg : w.grownBy w' row) (hr : ∀ k, row = some k → b < k) : Rd w' b p := by
  obtain ⟨A, xs, c, q, h1, h2, h3, h4, h5⟩ := h
  have hl := h3.lt
  have hk : ∀ k, k ≤ b → w'.heap[k]? = w.heap[k]? := fun k hk => hg.block k (by omega) fun e => by have := hr k e.symm; omega
  exact ⟨A, xs, c, q, h1, h2, h3.keep (hk b (Nat.le_refl _)), h4, h5.keep fun k o hk' => World.cell?_of_block (w := w) (a := ⟨k, o, none⟩) (hk k (by omega))⟩
theorem Rd.set {w : World} {b p : Nat} (h : Rd w b p) {a : Addr} (ha : b < a.block) (u : Value) : Rd (w.setCell a u) b p := by
  obtain ⟨A, xs, c, q, h1, h2, h3, h4, h5⟩ := h
  exact ⟨A, xs, c, q, h1, h2, h3.far (by omega) u, h4, h5.keep fun k o hk => World.cell?_of_block (w := w) (a := ⟨k, o, none⟩) (Below.heap_setCell _ _ _ _ (show k ≠ a.block by omega))⟩

end Go.Proofs.YtmhlpjfijpomkaaGreatDoor
