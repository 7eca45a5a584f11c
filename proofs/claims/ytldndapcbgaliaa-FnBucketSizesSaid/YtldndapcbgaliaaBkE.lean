/-
  The sizes of buckets add up to the number of numbers: in plain Lean.
-/
import Derived.Test.YtldndapcbgaliaaBkD
import Derived.Test.YtldndapcbgaliaaPln
namespace Go.Qo
set_option linter.unusedVariables false
set_option linter.unusedSimpArgs false

theorem one_at (j : Nat) : ∀ nb : Nat, ((List.range nb).map fun k => if j = k then (1 : Int) else 0).sum = if j < nb then 1 else 0
  | 0 => by simp
  | nb + 1 => by
    rw [List.range_succ, List.map_append, List.sum_append, one_at j nb]
    by_cases h1 : j < nb
    · rw [if_pos h1, if_pos (by omega)]
      simp
      omega
    · rw [if_neg h1]
      by_cases h2 : j = nb
      · subst h2
        simp
      · rw [if_neg (by omega)]
        simp [h2]
theorem sum_add (f g : Nat → Int) : ∀ l : List Nat, (l.map fun k => f k + g k).sum = (l.map f).sum + (l.map g).sum
  | [] => by simp
  | a :: l => by
    simp only [List.map_cons, List.sum_cons, sum_add f g l]
    omega
theorem bSizes_sum (col : Int) (nb : Nat) (hnb : 0 < nb) : ∀ rows : List Row1, (bSizes col nb rows).sum = ((rows.filter fun r => !(getV r col).1).length : Int)
  | [] => by
    rw [bSizes_zero]
    clear hnb
    induction nb with
    | zero => rfl
    | succ n ih => rw [List.replicate_succ, List.sum_cons, ih]; rfl
  | r :: rows => by
    have ih := bSizes_sum col nb hnb rows
    unfold bSizes at *
    have hc : ∀ k, ((bRows col nb (r :: rows) k).length : Int) = ((bRows col nb rows k).length : Int) + (if bIdx col nb r = some k then (1 : Int) else 0) := fun k => by
      unfold bRows
      rw [List.filter_cons]
      by_cases h : bIdx col nb r = some k
      · simp [h]
      · simp [h]
    rw [List.map_congr_left (fun k _ => hc k), sum_add, ih, List.filter_cons]
    cases hb : bIdx col nb r with
    | none =>
      have hn : (getV r col).1 = true := by
        unfold bIdx at hb
        split at hb
        · assumption
        · cases hb
      rw [hn]
      have : ∀ l : List Nat, (l.map fun k => if (none : Option Nat) = some k then (1 : Int) else 0).sum = 0 := fun l => by induction l with
        | nil => rfl
        | cons a l ih => rw [List.map_cons, List.sum_cons, ih, if_neg (by simp)]; rfl
      rw [this]
      simp
    | some j =>
      have hn : (getV r col).1 = false := by
        unfold bIdx at hb
        split at hb
        · cases hb
        · rename_i h; simpa using h
      have hj := bIdx_lt hb hnb
      rw [hn]
      have e : (fun k => if some j = some k then (1 : Int) else 0) = fun k => if j = k then (1 : Int) else 0 := by funext k; simp
      rw [e, one_at, if_pos hj]
      simp
theorem idxTo_filter {rows : List Row1} {cn : Nat} : ∀ k : Nat, k ≤ rows.length → (idxTo rows cn k).length = ((rows.take k).filter fun r => !(r.getD cn (false, 0)).1).length
  | 0, _ => by simp [idxTo]
  | k + 1, hk => by
    have ih := idxTo_filter (rows := rows) (cn := cn) k (by omega)
    have hx := List.getElem?_eq_getElem (show k < rows.length by omega)
    rw [List.take_add_one, hx]
    have hnul : nul rows cn k = ((rows[k]'(by omega)).getD cn (false, 0)).1 := by
      unfold nul
      rw [List.getD_eq_getElem?_getD (i := k), hx]
      rfl
    cases hn : nul rows cn k
    · rw [idxTo_yes hn, List.length_append, ih, List.filter_append, List.length_append]
      rw [hn] at hnul
      rw [show (some (rows[k]'(by omega))).toList = [rows[k]'(by omega)] from rfl, List.filter_cons, ← hnul]
      rfl
    · rw [idxTo_no hn, ih, List.filter_append, List.length_append]
      rw [hn] at hnul
      rw [show (some (rows[k]'(by omega))).toList = [rows[k]'(by omega)] from rfl, List.filter_cons, ← hnul]
      rfl
theorem idxOf_count {rows : List Row1} {cn : Nat} : (idxOf rows cn).length = (rows.filter fun r => !(r.getD cn (false, 0)).1).length := by
  unfold idxOf
  rw [(gSort_perm (cAt_cm (fun _ => True)) (fun _ _ => trivial)).length_eq, idxTo_filter _ (Nat.le_refl _), List.take_length]
end Go.Qo
