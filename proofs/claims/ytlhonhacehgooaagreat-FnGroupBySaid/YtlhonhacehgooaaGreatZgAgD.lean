/-
  Aggregates as plain Lean. No program in sight.
-/
import Derived.Test.YtlhonhacehgooaaGreatZgPln
namespace Go.Qo
open Go.RowKit
set_option linter.unusedVariables false
set_option linter.unusedSimpArgs false

theorem take_at {α : Type} {xs : List α} {i : Nat} {x : α} (h : xs[i]? = some x) : xs.take (i + 1) = xs.take i ++ [x] := by rw [List.take_add_one, h]; rfl
def numV (n : Int) : Val := if -9999 ≤ n ∧ n ≤ 9999 then (false, n) else (true, 0)
def lowS (a v : Val) : Val := if v.1 then a else if a.1 || decide (v.2 < a.2) then v else a
def highS (a v : Val) : Val := if v.1 then a else if a.1 || decide (a.2 < v.2) then v else a
def nnN (xs : List Val) : Nat := xs.countP (fun v => !v.1)
def sumN (xs : List Val) : Int := (xs.map fun v => v.2).sum
def lowN (xs : List Val) : Val := xs.foldl lowS (true, 0)
def highN (xs : List Val) : Val := xs.foldl highS (true, 0)
def aggF (k : Int) (xs : List Val) : Val :=
  if k = 1 then numV xs.length else if k = 2 then numV (nnN xs) else if k = 3 then (if nnN xs = 0 then (true, 0) else numV (sumN xs)) else if k = 4 then lowN xs else highN xs
theorem vValid_range {v : Val} (h : vValid v = true) : -9999 ≤ v.2 ∧ v.2 ≤ 9999 := by
  obtain ⟨a, b⟩ := v
  unfold vValid at h
  cases a <;> simp_all
theorem vValid_null {v : Val} (h : vValid v = true) (hn : v.1 = true) : v = (true, 0) := by
  obtain ⟨a, b⟩ := v
  unfold vValid at h
  simp_all
theorem numV_valid (n : Int) : vValid (numV n) = true := by
  unfold numV
  split
  · rename_i h; simp [vValid, h.1, h.2]
  · rfl
theorem numV_in {n : Int} (h1 : -9999 ≤ n) (h2 : n ≤ 9999) : numV n = (false, n) := by unfold numV; rw [if_pos ⟨h1, h2⟩]
@[simp] theorem nnN_nil : nnN [] = 0 := rfl
@[simp] theorem sumN_nil : sumN [] = 0 := rfl
@[simp] theorem lowN_nil : lowN [] = (true, 0) := rfl
@[simp] theorem highN_nil : highN [] = (true, 0) := rfl
theorem nnN_append (xs ys : List Val) : nnN (xs ++ ys) = nnN xs + nnN ys := by simp [nnN]
theorem sumN_append (xs ys : List Val) : sumN (xs ++ ys) = sumN xs + sumN ys := by simp [sumN]
theorem nnN_one (v : Val) : nnN [v] = if v.1 then 0 else 1 := by obtain ⟨a, b⟩ := v; cases a <;> rfl
theorem sumN_one (v : Val) : sumN [v] = v.2 := by simp [sumN]
theorem lowN_snoc (xs : List Val) (v : Val) : lowN (xs ++ [v]) = lowS (lowN xs) v := by simp [lowN]
theorem highN_snoc (xs : List Val) (v : Val) : highN (xs ++ [v]) = highS (highN xs) v := by simp [highN]
theorem nnN_le (xs : List Val) : nnN xs ≤ xs.length := List.countP_le_length
theorem sumN_cons (x : Val) (xs : List Val) : sumN (x :: xs) = x.2 + sumN xs := by simp [sumN]
theorem sumN_range : ∀ (xs : List Val), (∀ v ∈ xs, vValid v = true) → -(9999 * (xs.length : Int)) ≤ sumN xs ∧ sumN xs ≤ 9999 * (xs.length : Int)
  | [], _ => by simp
  | x :: xs, h => by
    have h1 := vValid_range (h x (by simp))
    have h2 := sumN_range xs fun v hv => h v (by simp [hv])
    rw [sumN_cons, List.length_cons]
    push_cast
    omega
theorem take_valid {xs : List Val} (h : ∀ v ∈ xs, vValid v = true) (i : Nat) : ∀ v ∈ xs.take i, vValid v = true := fun v hv => h v (List.mem_of_mem_take hv)
theorem lowS_valid {a v : Val} (ha : vValid a = true) (hv : vValid v = true) : vValid (lowS a v) = true := by
  unfold lowS
  split
  · exact ha
  · split
    · exact hv
    · exact ha
theorem lowS_tf (a b : Int) : lowS (true, a) (false, b) = (false, b) := by simp [lowS]
theorem highS_valid {a v : Val} (ha : vValid a = true) (hv : vValid v = true) : vValid (highS a v) = true := by
  unfold highS
  split
  · exact ha
  · split
    · exact hv
    · exact ha
theorem highS_tf (a b : Int) : highS (true, a) (false, b) = (false, b) := by simp [highS]
theorem foldLow_valid : ∀ (xs : List Val) (a : Val), vValid a = true → (∀ v ∈ xs, vValid v = true) → vValid (xs.foldl lowS a) = true
  | [], a, ha, _ => ha
  | x :: xs, a, ha, h => foldLow_valid xs _ (lowS_valid ha (h x (by simp))) fun v hv => h v (by simp [hv])
theorem foldHigh_valid : ∀ (xs : List Val) (a : Val), vValid a = true → (∀ v ∈ xs, vValid v = true) → vValid (xs.foldl highS a) = true
  | [], a, ha, _ => ha
  | x :: xs, a, ha, h => foldHigh_valid xs _ (highS_valid ha (h x (by simp))) fun v hv => h v (by simp [hv])
theorem lowN_valid {xs : List Val} (h : ∀ v ∈ xs, vValid v = true) : vValid (lowN xs) = true := foldLow_valid xs _ rfl h
theorem highN_valid {xs : List Val} (h : ∀ v ∈ xs, vValid v = true) : vValid (highN xs) = true := foldHigh_valid xs _ rfl h
theorem aggF_valid {k : Int} {xs : List Val} (h : ∀ v ∈ xs, vValid v = true) : vValid (aggF k xs) = true := by
  unfold aggF
  split; · exact numV_valid _
  split; · exact numV_valid _
  split
  · split; · rfl
    exact numV_valid _
  split; · exact lowN_valid h
  exact highN_valid h
theorem lowS_lt {x a : Int} (h : x < a) : lowS (false, a) (false, x) = (false, x) := by simp [lowS, h]
theorem lowS_ge {x a : Int} (h : ¬ x < a) : lowS (false, a) (false, x) = (false, a) := by simp [lowS, h]
theorem highS_lt {x a : Int} (h : a < x) : highS (false, a) (false, x) = (false, x) := by simp [highS, h]
theorem highS_ge {x a : Int} (h : ¬ a < x) : highS (false, a) (false, x) = (false, a) := by simp [highS, h]
theorem lowS_null {a v : Val} (h : v.1 = true) : lowS a v = a := by unfold lowS; rw [if_pos h]
theorem highS_null {a v : Val} (h : v.1 = true) : highS a v = a := by unfold highS; rw [if_pos h]
def few (xs : List Val) : List Val := xs.filter (fun v => !v.1)
theorem few_length (xs : List Val) : (few xs).length = nnN xs := by rw [few, nnN, List.countP_eq_length_filter]
theorem few_cons_null {xs : List Val} {x : Val} (h : x.1 = true) : few (x :: xs) = few xs := by simp [few, h]
theorem few_cons {xs : List Val} {x : Val} (h : x.1 = false) : few (x :: xs) = x :: few xs := by simp [few, h]
theorem few_foldLow : ∀ (xs : List Val) (a : Val), (few xs).foldl lowS a = xs.foldl lowS a
  | [], _ => rfl
  | x :: xs, a => by
    cases hc : x.1
    · rw [few_cons hc, List.foldl_cons, List.foldl_cons, few_foldLow xs]
    · rw [few_cons_null hc, List.foldl_cons, lowS_null hc, few_foldLow xs]
theorem few_foldHigh : ∀ (xs : List Val) (a : Val), (few xs).foldl highS a = xs.foldl highS a
  | [], _ => rfl
  | x :: xs, a => by
    cases hc : x.1
    · rw [few_cons hc, List.foldl_cons, List.foldl_cons, few_foldHigh xs]
    · rw [few_cons_null hc, List.foldl_cons, highS_null hc, few_foldHigh xs]
theorem foldLow_spec : ∀ (xs : List Val) (a : Val), (∀ v ∈ xs, v.1 = true) ∧ xs.foldl lowS a = a ∨ (xs.foldl lowS a).1 = false ∧ (xs.foldl lowS a = a ∨ xs.foldl lowS a ∈ xs) ∧ (a.1 = false → (xs.foldl lowS a).2 ≤ a.2) ∧ ∀ v ∈ xs, v.1 = false → (xs.foldl lowS a).2 ≤ v.2
  | [], a => .inl ⟨by simp, rfl⟩
  | x :: xs, a => by
    rw [List.foldl_cons]
    have ih := foldLow_spec xs (lowS a x)
    cases hc : x.1
    · right
      have hs : (lowS a x).1 = false ∧ (lowS a x = a ∨ lowS a x = x) ∧ (a.1 = false → (lowS a x).2 ≤ a.2) ∧ (lowS a x).2 ≤ x.2 := by
        unfold lowS
        rw [if_neg (by simp [hc])]
        split
        · rename_i h
          refine ⟨hc, .inr rfl, fun ha => ?_, Int.le_refl _⟩
          rw [ha] at h
          simp at h
          omega
        · rename_i h
          simp at h
          exact ⟨h.1, .inl rfl, fun _ => Int.le_refl _, h.2⟩
      rcases ih with ⟨h1, h2⟩ | ⟨h1, h2, h3, h4⟩
      · rw [h2]
        refine ⟨hs.1, ?_, hs.2.2.1, fun v hv hn => ?_⟩
        · rcases hs.2.1 with h | h
          · exact .inl h
          · right; rw [h]; simp
        · rcases List.mem_cons.1 hv with rfl | hv
          · exact hs.2.2.2
          · rw [h1 v hv] at hn; cases hn
      · have h3' := h3 hs.1
        refine ⟨h1, ?_, fun ha => by have := hs.2.2.1 ha; omega, fun v hv hn => ?_⟩
        · rcases h2 with h | h
          · rw [h]
            rcases hs.2.1 with h | h
            · exact .inl h
            · right; rw [h]; simp
          · right; simp [h]
        · rcases List.mem_cons.1 hv with rfl | hv
          · have := hs.2.2.2; omega
          · exact h4 v hv hn
    · rw [lowS_null hc] at ih ⊢
      rcases ih with ⟨h1, h2⟩ | ⟨h1, h2, h3, h4⟩
      · left
        refine ⟨fun v hv => ?_, h2⟩
        rcases List.mem_cons.1 hv with rfl | hv
        · exact hc
        · exact h1 v hv
      · right
        refine ⟨h1, ?_, h3, fun v hv hn => ?_⟩
        · rcases h2 with h | h
          · exact .inl h
          · right; simp [h]
        · rcases List.mem_cons.1 hv with rfl | hv
          · rw [hc] at hn; cases hn
          · exact h4 v hv hn
theorem foldHigh_spec : ∀ (xs : List Val) (a : Val), (∀ v ∈ xs, v.1 = true) ∧ xs.foldl highS a = a ∨ (xs.foldl highS a).1 = false ∧ (xs.foldl highS a = a ∨ xs.foldl highS a ∈ xs) ∧ (a.1 = false → a.2 ≤ (xs.foldl highS a).2) ∧ ∀ v ∈ xs, v.1 = false → v.2 ≤ (xs.foldl highS a).2
  | [], a => .inl ⟨by simp, rfl⟩
  | x :: xs, a => by
    rw [List.foldl_cons]
    have ih := foldHigh_spec xs (highS a x)
    cases hc : x.1
    · right
      have hs : (highS a x).1 = false ∧ (highS a x = a ∨ highS a x = x) ∧ (a.1 = false → a.2 ≤ (highS a x).2) ∧ x.2 ≤ (highS a x).2 := by
        unfold highS
        rw [if_neg (by simp [hc])]
        split
        · rename_i h
          refine ⟨hc, .inr rfl, fun ha => ?_, Int.le_refl _⟩
          rw [ha] at h
          simp at h
          omega
        · rename_i h
          simp at h
          exact ⟨h.1, .inl rfl, fun _ => Int.le_refl _, h.2⟩
      rcases ih with ⟨h1, h2⟩ | ⟨h1, h2, h3, h4⟩
      · rw [h2]
        refine ⟨hs.1, ?_, hs.2.2.1, fun v hv hn => ?_⟩
        · rcases hs.2.1 with h | h
          · exact .inl h
          · right; rw [h]; simp
        · rcases List.mem_cons.1 hv with rfl | hv
          · exact hs.2.2.2
          · rw [h1 v hv] at hn; cases hn
      · have h3' := h3 hs.1
        refine ⟨h1, ?_, fun ha => by have := hs.2.2.1 ha; omega, fun v hv hn => ?_⟩
        · rcases h2 with h | h
          · rw [h]
            rcases hs.2.1 with h | h
            · exact .inl h
            · right; rw [h]; simp
          · right; simp [h]
        · rcases List.mem_cons.1 hv with rfl | hv
          · have := hs.2.2.2; omega
          · exact h4 v hv hn
    · rw [highS_null hc] at ih ⊢
      rcases ih with ⟨h1, h2⟩ | ⟨h1, h2, h3, h4⟩
      · left
        refine ⟨fun v hv => ?_, h2⟩
        rcases List.mem_cons.1 hv with rfl | hv
        · exact hc
        · exact h1 v hv
      · right
        refine ⟨h1, ?_, h3, fun v hv hn => ?_⟩
        · rcases h2 with h | h
          · exact .inl h
          · right; simp [h]
        · rcases List.mem_cons.1 hv with rfl | hv
          · rw [hc] at hn; cases hn
          · exact h4 v hv hn

theorem lowN_spec {xs : List Val} (h : nnN xs ≠ 0) : (lowN xs).1 = false ∧ lowN xs ∈ xs ∧ ∀ v ∈ xs, v.1 = false → (lowN xs).2 ≤ v.2 := by
  rcases foldLow_spec xs (true, 0) with ⟨h1, h2⟩ | ⟨h1, h2, h3, h4⟩
  · exact absurd (List.countP_eq_zero.2 fun v hv => by simp [h1 v hv]) h
  · refine ⟨h1, ?_, h4⟩
    rcases h2 with h2 | h2
    · rw [h2] at h1; cases h1
    · exact h2
theorem highN_spec {xs : List Val} (h : nnN xs ≠ 0) : (highN xs).1 = false ∧ highN xs ∈ xs ∧ ∀ v ∈ xs, v.1 = false → v.2 ≤ (highN xs).2 := by
  rcases foldHigh_spec xs (true, 0) with ⟨h1, h2⟩ | ⟨h1, h2, h3, h4⟩
  · exact absurd (List.countP_eq_zero.2 fun v hv => by simp [h1 v hv]) h
  · refine ⟨h1, ?_, h4⟩
    rcases h2 with h2 | h2
    · rw [h2] at h1; cases h1
    · exact h2
theorem lowN_null {xs : List Val} (h : nnN xs = 0) : lowN xs = (true, 0) := by
  have h0 : few xs = [] := List.eq_nil_of_length_eq_zero (by rw [few_length, h])
  rw [lowN, ← few_foldLow, h0]; rfl
theorem highN_null {xs : List Val} (h : nnN xs = 0) : highN xs = (true, 0) := by
  have h0 : few xs = [] := List.eq_nil_of_length_eq_zero (by rw [few_length, h])
  rw [highN, ← few_foldHigh, h0]; rfl
theorem low_high (xs : List Val) : (lowN xs).1 = (highN xs).1 := by
  by_cases h : nnN xs = 0
  · rw [lowN_null h, highN_null h]
  · rw [(lowN_spec h).1, (highN_spec h).1]

end Go.Qo
