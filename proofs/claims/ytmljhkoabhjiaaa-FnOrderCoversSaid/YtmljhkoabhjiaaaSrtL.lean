/-
  Sorted rows stay sorted by fewer keys, and so do parts of them. Plain Lean.
-/
import Derived.Test.YtmljhkoabhjiaaaSrtD
namespace Go.Qo
set_option linter.unusedVariables false
set_option linter.unusedSimpArgs false

theorem kCmp_take (a b : Row1) : ∀ (keys : List (Int × Bool)) (k : Nat), kCmp keys a b ≤ 0 → kCmp (keys.take k) a b ≤ 0
  | [], k, h => by simpa using h
  | x :: xs, 0, h => by simp [kCmp]
  | x :: xs, k + 1, h => by
    rw [List.take_succ_cons, kCmp]
    rw [kCmp] at h
    by_cases e : key1 x a b ≠ 0
    · rw [if_pos e] at h ⊢; exact h
    · rw [if_neg e] at h ⊢; exact kCmp_take a b xs k h
theorem KeysOk.take {W : Int} {keys : List (Int × Bool)} (h : KeysOk W keys) (k : Nat) : KeysOk W (keys.take k) := by
  refine ⟨fun x hx => h.1 x (List.mem_of_mem_take hx), fun i j x y hij hx hy => h.2 i j x y hij ?_ ?_⟩
  · rw [List.getElem?_take] at hx; split at hx
    · exact hx
    · cases hx
  · rw [List.getElem?_take] at hy; split at hy
    · exact hy
    · cases hy
theorem IsSortedP.fewer {keys : List (Int × Bool)} {rows : List Row1} (h : IsSortedP keys rows) (k : Nat) : IsSortedP (keys.take k) rows := by
  intro r0 h0
  obtain ⟨h1, h2, h3, h4⟩ := h r0 h0
  exact ⟨h1, h2.take k, fun i a b ha hb => kCmp_take a b keys k (h3 i a b ha hb), h4⟩
theorem IsSortedP.part {keys : List (Int × Bool)} {rows : List Row1} (h : IsSortedP keys rows) (n : Nat) : IsSortedP keys (rows.drop n) := by
  intro r0 h0
  rw [List.getElem?_drop] at h0
  have hl := (List.getElem?_eq_some_iff.1 h0).1
  have hx := List.getElem?_eq_getElem (show 0 < rows.length by omega)
  obtain ⟨h1, h2, h3, h4⟩ := h _ hx
  have he : (r0.length : Int) = (rows[0].length : Int) := (h1 r0 (List.mem_of_getElem? h0)).2
  rw [he]
  refine ⟨fun r hr => h1 r (List.mem_of_mem_drop hr), h2, fun i a b ha hb => h3 (n + i) a b ?_ ?_, by rw [List.length_drop]; omega⟩
  · rwa [List.getElem?_drop] at ha
  · rw [List.getElem?_drop] at hb; rw [Nat.add_assoc]; exact hb
end Go.Qo
