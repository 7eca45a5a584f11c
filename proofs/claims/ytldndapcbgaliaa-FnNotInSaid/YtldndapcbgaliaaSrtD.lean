/-
  The stable sort by keys, in plain Lean.
-/
import Derived.Test.YtldndapcbgaliaaKeyO
namespace Go.Qo
set_option linter.unusedVariables false
set_option linter.unusedSimpArgs false

/-- x behind all that do not sort behind it. -/
def sIns (keys : List (Int × Bool)) (x : Row1) : List Row1 → List Row1
  | [] => [x]
  | y :: ys => if 0 < kCmp keys y x then x :: y :: ys else y :: sIns keys x ys
def sortK (keys : List (Int × Bool)) (rows : List Row1) : List Row1 := rows.foldl (fun out x => sIns keys x out) []

theorem sIns_length (keys : List (Int × Bool)) (x : Row1) : ∀ l, (sIns keys x l).length = l.length + 1
  | [] => rfl
  | y :: ys => by
    unfold sIns
    split
    · simp
    · simp [sIns_length keys x ys]
theorem sIns_mem (keys : List (Int × Bool)) (x z : Row1) : ∀ l, z ∈ sIns keys x l ↔ z = x ∨ z ∈ l
  | [] => by simp [sIns]
  | y :: ys => by
    unfold sIns
    split
    · simp
    · simp only [List.mem_cons, sIns_mem keys x z ys]
      constructor
      · rintro (h | h | h)
        · exact .inr (.inl h)
        · exact .inl h
        · exact .inr (.inr h)
      · rintro (h | h | h)
        · exact .inr (.inl h)
        · exact .inl h
        · exact .inr (.inr h)
theorem sIns_perm (keys : List (Int × Bool)) (x : Row1) : ∀ l, (sIns keys x l).Perm (x :: l)
  | [] => List.Perm.refl _
  | y :: ys => by
    unfold sIns
    split
    · exact List.Perm.refl _
    · exact ((sIns_perm keys x ys).cons y).trans (List.Perm.swap x y ys)
def Ord (keys : List (Int × Bool)) (l : List Row1) : Prop := l.Pairwise (fun a b => kCmp keys a b ≤ 0)
theorem sIns_ord {W : Int} {keys : List (Int × Bool)} (hk : ∀ k ∈ keys, 0 ≤ k.1 ∧ k.1 < W) {x : Row1} (hx : RowOk W x) : ∀ {l : List Row1}, (∀ r ∈ l, RowOk W r) → Ord keys l → Ord keys (sIns keys x l)
  | [], _, _ => by simp [sIns, Ord]
  | y :: ys, hl, h => by
    unfold Ord at h
    rw [List.pairwise_cons] at h
    have hy := hl y (by simp)
    unfold sIns
    split
    · rename_i hgt
      have hxy : kCmp keys x y ≤ 0 := by rw [kCmp_anti hy hx hk]; omega
      unfold Ord
      rw [List.pairwise_cons, List.pairwise_cons]
      refine ⟨?_, h⟩
      intro z hz
      rcases List.mem_cons.1 hz with rfl | hz
      · exact hxy
      · exact kCmp_trans hx hy (hl z (by simp [hz])) hk hxy (h.1 z hz)
    · rename_i hle
      have := sIns_ord hk hx (fun r hr => hl r (by simp [hr])) h.2
      unfold Ord
      rw [List.pairwise_cons]
      refine ⟨?_, this⟩
      intro z hz
      rw [sIns_mem] at hz
      rcases hz with rfl | hz
      · omega
      · exact h.1 z hz
/-- What the scan from the right finds is the place. -/
theorem sIns_at {W : Int} {keys : List (Int × Bool)} (hk : ∀ k ∈ keys, 0 ≤ k.1 ∧ k.1 < W) {x : Row1} (hx : RowOk W x) : ∀ {l : List Row1} {k : Nat}, (∀ r ∈ l, RowOk W r) → Ord keys l → k ≤ l.length →
    (∀ (i : Nat) (y : Row1), k ≤ i → l[i]? = some y → 0 < kCmp keys y x) → (∀ y, 0 < k → l[k - 1]? = some y → kCmp keys y x ≤ 0) → sIns keys x l = l.take k ++ [x] ++ l.drop k
  | [], k, _, _, hkl, _, _ => by simp at hkl; subst hkl; rfl
  | y :: ys, 0, _, _, _, h1, _ => by
    unfold sIns
    rw [if_pos (h1 0 y (by omega) rfl)]
    rfl
  | y :: ys, k + 1, hl, ho, hkl, h1, h2 => by
    unfold Ord at ho
    rw [List.pairwise_cons] at ho
    have hy := hl y (by simp)
    have hle : kCmp keys y x ≤ 0 := by
      rcases Nat.eq_zero_or_pos k with rfl | hk0
      · exact h2 y (by omega) rfl
      · have hk1 : k - 1 < ys.length := by simp at hkl; omega
        have h3 := h2 ys[k - 1] (by omega) (by rw [show k + 1 - 1 = (k - 1) + 1 by omega]; simp)
        exact kCmp_trans hy (hl _ (by simp)) hx hk (ho.1 _ (List.getElem_mem hk1)) h3
    unfold sIns
    rw [if_neg (by omega), sIns_at hk hx (k := k) (fun r hr => hl r (by simp [hr])) ho.2 (by simpa using hkl) (fun i z hi hz => h1 (i + 1) z (by omega) (by simpa using hz))
      (fun z hk0 hz => h2 z (by omega) (by rw [show k + 1 - 1 = (k - 1) + 1 by omega]; simpa using hz))]
    simp
theorem sortK_snoc (keys : List (Int × Bool)) (l : List Row1) (x : Row1) : sortK keys (l ++ [x]) = sIns keys x (sortK keys l) := by simp [sortK]
theorem sortK_props {W : Int} {keys : List (Int × Bool)} (hk : ∀ k ∈ keys, 0 ≤ k.1 ∧ k.1 < W) (l : List Row1) : (∀ r ∈ l, RowOk W r) → (sortK keys l).Perm l ∧ Ord keys (sortK keys l) := by
  intro h
  suffices H : ∀ n, (sortK keys (l.take n)).Perm (l.take n) ∧ Ord keys (sortK keys (l.take n)) by
    have := H l.length
    rwa [List.take_length] at this
  intro n
  induction n with
  | zero => exact ⟨by simp [sortK], by simp [sortK, Ord]⟩
  | succ n ih =>
    rw [List.take_add_one]
    cases hx : l[n]? with
    | none => simpa using ih
    | some x =>
      simp only [Option.toList_some]
      rw [sortK_snoc]
      exact ⟨(sIns_perm keys x _).trans ((ih.1.cons x).trans (List.perm_append_singleton x _).symm), sIns_ord hk (h x (List.mem_of_getElem? hx)) (fun r hr => h r (List.mem_of_mem_take (ih.1.mem_iff.1 hr))) ih.2⟩
theorem sortK_perm {W : Int} {keys : List (Int × Bool)} (hk : ∀ k ∈ keys, 0 ≤ k.1 ∧ k.1 < W) {l : List Row1} (h : ∀ r ∈ l, RowOk W r) : (sortK keys l).Perm l := (sortK_props hk l h).1
theorem sortK_ord {W : Int} {keys : List (Int × Bool)} (hk : ∀ k ∈ keys, 0 ≤ k.1 ∧ k.1 < W) {l : List Row1} (h : ∀ r ∈ l, RowOk W r) : Ord keys (sortK keys l) := (sortK_props hk l h).2
theorem sortK_length (keys : List (Int × Bool)) (l : List Row1) : (sortK keys l).length = l.length := by
  suffices H : ∀ (l out : List Row1), (l.foldl (fun out x => sIns keys x out) out).length = l.length + out.length by have := H l []; simpa [sortK] using this
  intro l
  induction l with
  | nil => intro out; simp
  | cons x l ih => intro out; rw [List.foldl_cons, ih, sIns_length]; simp; omega
end Go.Qo
