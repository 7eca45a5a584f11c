/-
  The sizes of buckets, in plain Lean.
-/
import Derived.Test.YtldndapcbgaliaaPln
namespace Go.Qo
set_option linter.unusedVariables false
set_option linter.unusedSimpArgs false

/-- A row's bucket. -/
def bIdx (col : Int) (nb : Nat) (r : Row1) : Option Nat := if (getV r col).1 then none else some (((getV r col).2 + 9999) % (nb : Int)).toNat
def bRows (col : Int) (nb : Nat) (rows : List Row1) (k : Nat) : List Row1 := rows.filter fun r => bIdx col nb r == some k
def bSizes (col : Int) (nb : Nat) (rows : List Row1) : List Int := (List.range nb).map fun (k : Nat) => ((bRows col nb rows k).length : Int)
theorem bSizes_length (col : Int) (nb : Nat) (rows : List Row1) : (bSizes col nb rows).length = nb := by simp [bSizes]
theorem bSizes_get {col : Int} {nb : Nat} {rows : List Row1} {k : Nat} (hk : k < nb) : (bSizes col nb rows)[k]? = some ((bRows col nb rows k).length : Int) := by
  simp [bSizes, List.getElem?_map, List.getElem?_range hk]
theorem bRows_snoc (col : Int) (nb : Nat) (rows : List Row1) (r : Row1) (k : Nat) : bRows col nb (rows ++ [r]) k = if bIdx col nb r = some k then bRows col nb rows k ++ [r] else bRows col nb rows k := by
  unfold bRows
  rw [List.filter_append]
  by_cases h : bIdx col nb r = some k
  · simp [h]
  · simp [h]
theorem bSizes_none {col : Int} {nb : Nat} {rows : List Row1} {r : Row1} (h : bIdx col nb r = none) : bSizes col nb (rows ++ [r]) = bSizes col nb rows := by
  unfold bSizes
  apply List.map_congr_left
  intro k _
  rw [bRows_snoc, if_neg (by rw [h]; simp)]
theorem bSizes_some {col : Int} {nb : Nat} {rows : List Row1} {r : Row1} {j : Nat} (h : bIdx col nb r = some j) (hj : j < nb) : bSizes col nb (rows ++ [r]) = (bSizes col nb rows).set j ((bRows col nb rows j).length + 1) := by
  apply List.ext_getElem?
  intro k
  by_cases hk : k < nb
  · rw [bSizes_get hk, bRows_snoc, h, List.getElem?_set]
    by_cases e : j = k
    · subst e
      simp [bSizes_length, hj]
    · rw [if_neg (by simpa using e), if_neg e, bSizes_get hk]
  · rw [List.getElem?_eq_none (by rw [bSizes_length]; omega), List.getElem?_eq_none (by rw [List.length_set, bSizes_length]; omega)]
theorem bIdx_lt {col : Int} {nb : Nat} {r : Row1} {j : Nat} (h : bIdx col nb r = some j) (hnb : 0 < nb) : j < nb := by
  unfold bIdx at h
  split at h
  · cases h
  · injection h with h
    have h1 := Int.emod_nonneg ((getV r col).2 + 9999) (show (nb : Int) ≠ 0 by omega)
    have h2 := Int.emod_lt_of_pos ((getV r col).2 + 9999) (show (0 : Int) < nb by omega)
    omega
theorem bSizes_zero (col : Int) (nb : Nat) : bSizes col nb [] = List.replicate nb 0 := by
  unfold bSizes bRows
  simp
  induction nb with
  | zero => rfl
  | succ n ih => rw [List.range_succ, List.map_append, ih, List.replicate_succ']; rfl
end Go.Qo
