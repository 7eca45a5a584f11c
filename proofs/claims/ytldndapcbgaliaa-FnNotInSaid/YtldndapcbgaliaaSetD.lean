/-
  The merge of two sorted lists of rows, as the program does it, in plain Lean.
-/
import Derived.Test.YtldndapcbgaliaaValD
namespace Go.Qo
set_option linter.unusedVariables false
set_option linter.unusedSimpArgs false

def merged : List Row1 → List Row1 → List (Row1 × Bool)
  | [], _ => []
  | a :: as, bs =>
    match bs.dropWhile (fun b => decide (rpCmp b a < 0)) with
    | [] => (a, false) :: merged as []
    | b :: bs' => if rpCmp b a = 0 then (a, true) :: merged as bs' else (a, false) :: merged as (b :: bs')

theorem dropWhile_step {α : Type} {p : α → Bool} {bs : List α} {j : Nat} {b : α} (hb : bs[j]? = some b) (hp : p b = true) : (bs.drop j).dropWhile p = (bs.drop (j + 1)).dropWhile p := by
  obtain ⟨hj, e⟩ := List.getElem?_eq_some_iff.1 hb
  rw [List.drop_eq_getElem_cons hj, e, List.dropWhile_cons, if_pos hp]
theorem dropWhile_stop {α : Type} {p : α → Bool} {bs : List α} {j : Nat} {b : α} (hb : bs[j]? = some b) (hp : p b = false) : (bs.drop j).dropWhile p = bs.drop j := by
  obtain ⟨hj, e⟩ := List.getElem?_eq_some_iff.1 hb
  rw [List.drop_eq_getElem_cons hj, e, List.dropWhile_cons, if_neg (by simp [hp])]
theorem dropWhile_end {α : Type} {p : α → Bool} {bs : List α} {j : Nat} (hj : bs.length ≤ j) : (bs.drop j).dropWhile p = [] := by
  rw [List.drop_eq_nil_of_le hj]; rfl

theorem merged_end {xs ys : List Row1} {k j j' : Nat} {x : Row1} (hx : xs[k]? = some x) (hd : (ys.drop j).dropWhile (fun b => decide (rpCmp b x < 0)) = (ys.drop j').dropWhile (fun b => decide (rpCmp b x < 0))) (hj : ys.length ≤ j') :
    merged (xs.drop k) (ys.drop j) = (x, false) :: merged (xs.drop (k + 1)) (ys.drop j') := by
  obtain ⟨hk, e⟩ := List.getElem?_eq_some_iff.1 hx
  rw [List.drop_eq_getElem_cons hk, e, merged, hd, dropWhile_end hj, List.drop_eq_nil_of_le hj]
theorem merged_eq {xs ys : List Row1} {k j j' : Nat} {x y : Row1} (hx : xs[k]? = some x) (hd : (ys.drop j).dropWhile (fun b => decide (rpCmp b x < 0)) = (ys.drop j').dropWhile (fun b => decide (rpCmp b x < 0))) (hy : ys[j']? = some y) (h0 : rpCmp y x = 0) :
    merged (xs.drop k) (ys.drop j) = (x, true) :: merged (xs.drop (k + 1)) (ys.drop (j' + 1)) := by
  obtain ⟨hk, e⟩ := List.getElem?_eq_some_iff.1 hx
  obtain ⟨hj, e'⟩ := List.getElem?_eq_some_iff.1 hy
  rw [List.drop_eq_getElem_cons hk, e, merged, hd, dropWhile_stop hy (by simp [h0]), List.drop_eq_getElem_cons hj, e']
  simp only
  rw [if_pos h0]
theorem merged_ne {xs ys : List Row1} {k j j' : Nat} {x y : Row1} (hx : xs[k]? = some x) (hd : (ys.drop j).dropWhile (fun b => decide (rpCmp b x < 0)) = (ys.drop j').dropWhile (fun b => decide (rpCmp b x < 0))) (hy : ys[j']? = some y) (h0 : ¬ rpCmp y x < 0) (h1 : rpCmp y x ≠ 0) :
    merged (xs.drop k) (ys.drop j) = (x, false) :: merged (xs.drop (k + 1)) (ys.drop j') := by
  obtain ⟨hk, e⟩ := List.getElem?_eq_some_iff.1 hx
  obtain ⟨hj, e'⟩ := List.getElem?_eq_some_iff.1 hy
  have e2 : ys.drop j' = y :: ys.drop (j' + 1) := by rw [List.drop_eq_getElem_cons hj, e']
  rw [List.drop_eq_getElem_cons hk, e, merged, hd, dropWhile_stop hy (by simp; omega), e2]
  simp only
  rw [if_neg h1]
end Go.Qo
