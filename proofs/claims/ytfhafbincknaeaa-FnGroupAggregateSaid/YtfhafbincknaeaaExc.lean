/-
  Contracts of ExceptAll and IntersectAll: the program's.
-/
import Derived.Test.YtfhafbincknaeaaProg
import Derived.Test.YtfhafbincknaeaaMrg
namespace Go.Proofs.Ytfhafbincknaeaa
open Go.RowKit Go.Qo
set_option linter.unusedVariables false
set_option linter.unusedSimpArgs false
attribute [local go_sem] Oper.semAt_some

/-- The rows whose flag is so. -/
def pick2 (b : Bool) : List SRw → List (Row1 × Bool) → List SRw
  | p :: ps, q :: qs => if q.2 == b then p :: pick2 b ps qs else pick2 b ps qs
  | _, _ => []
theorem pick2_snoc (b : Bool) : ∀ (ps : List SRw) (qs : List (Row1 × Bool)) (k : Nat) (p : SRw) (q : Row1 × Bool), ps[k]? = some p → qs[k]? = some q → pick2 b (ps.take (k + 1)) (qs.take (k + 1)) = pick2 b (ps.take k) (qs.take k) ++ if q.2 == b then [p] else []
  | [], _, k, p, q, h, _ => by simp at h
  | _ :: _, [], k, p, q, _, h => by simp at h
  | x :: ps, y :: qs, 0, p, q, h1, h2 => by
    simp only [List.getElem?_cons_zero, Option.some.injEq] at h1 h2
    subst h1; subst h2
    simp only [List.take_succ_cons, List.take_zero, pick2]
    split <;> rfl
  | x :: ps, y :: qs, k + 1, p, q, h1, h2 => by
    have ih := pick2_snoc b ps qs k p q (by simpa using h1) (by simpa using h2)
    simp only [List.take_succ_cons, pick2]
    rw [ih]
    split <;> simp
theorem pick2_length (b : Bool) : ∀ (ps : List SRw) (qs : List (Row1 × Bool)), (pick2 b ps qs).length ≤ ps.length
  | [], qs => by cases qs <;> simp [pick2]
  | p :: ps, [] => by simp [pick2]
  | p :: ps, q :: qs => by
    have := pick2_length b ps qs
    simp only [pick2]
    split <;> simp <;> omega
theorem merged_length : ∀ xs ys : List Row1, (merged xs ys).length = xs.length
  | [], ys => by simp [merged]
  | a :: xs, ys => by
    unfold merged
    split
    · simp [merged_length xs []]
    · split
      · simp [merged_length]
      · simp [merged_length]
theorem merged_fst : ∀ xs ys : List Row1, (merged xs ys).map (·.1) = xs
  | [], ys => by simp [merged]
  | a :: xs, ys => by
    unfold merged
    split
    · simp [merged_fst xs []]
    · split
      · simp [merged_fst]
      · simp [merged_fst]

theorem pick2_prefix (b : Bool) (ps : List SRw) (qs : List (Row1 × Bool)) (k : Nat) : pick2 b (ps.take k) (qs.take k) <+: pick2 b ps qs := by
  induction ps generalizing qs k with
  | nil => simp [pick2]
  | cons p ps ih =>
    cases qs with
    | nil => cases k <;> simp [pick2]
    | cons q qs =>
      cases k with
      | zero => simp [pick2]
      | succ k =>
        simp only [List.take_succ_cons, pick2]
        split
        · exact List.prefix_cons_inj p |>.2 (ih qs k)
        · exact ih qs k
theorem pick2_map (b : Bool) (ps : List SRw) (xs ys : List Row1) (h : ps.map (·.2) = xs) : (pick2 b ps (merged xs ys)).map (·.2) = ((merged xs ys).filter (fun r => r.2 == b)).map (·.1) := by
  have hm : (merged xs ys).map (·.1) = ps.map (·.2) := by rw [merged_fst, h]
  generalize merged xs ys = qs at hm
  clear h
  induction ps generalizing qs with
  | nil =>
    simp only [List.map_nil, List.map_eq_nil_iff] at hm
    subst hm
    simp [pick2]
  | cons p ps ih =>
    cases qs with
    | nil => simp at hm
    | cons q qs =>
      simp only [List.map_cons, List.cons.injEq] at hm
      obtain ⟨h1, h2⟩ := hm
      simp only [pick2, List.filter_cons]
      split
      · simp only [List.map_cons, ih qs h2, h1]
      · exact ih qs h2
end Go.Proofs.Ytfhafbincknaeaa
