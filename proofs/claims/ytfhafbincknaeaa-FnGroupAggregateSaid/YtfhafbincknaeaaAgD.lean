/-
  Aggregates as plain Lean. No program in sight.
-/
import Derived.Test.YtfhafbincknaeaaPln
namespace Go.Qo
open Go.RowKit
set_option linter.unusedVariables false
set_option linter.unusedSimpArgs false

theorem take_at {α : Type} {xs : List α} {i : Nat} {x : α} (h : xs[i]? = some x) : xs.take (i + 1) = xs.take i ++ [x] := by rw [List.take_add_one, h]; rfl
def numV (n : Int) : Val := if -9999 ≤ n ∧ n ≤ 9999 then (false, n) else (true, 0)
def lowS (a v : Val) : Val := if v.1 then a else if a.1 || decide (v.2 < a.2) then v else a
def highS (a v : Val) : Val := if v.1 then a else if a.1 || decide (a.2 < v.2) then v else a
def nnN (xs : List Val) : Nat := xs.countP (fun v => !v.1)
def sumN (xs : List Val) : Int := (xs.map fun v => v.2).sum
def lowN (xs : List Val) : Val := xs.foldl lowS (true, 0)
def highN (xs : List Val) : Val := xs.foldl highS (true, 0)
def aggF (k : Int) (xs : List Val) : Val :=
  if k = 1 then numV xs.length else if k = 2 then numV (nnN xs) else if k = 3 then (if nnN xs = 0 then (true, 0) else numV (sumN xs)) else if k = 4 then lowN xs else highN xs
structure AggOk (k : Int) (xs : List Val) : Prop where
  all : ∀ v ∈ xs, vValid v = true
  len : xs.length ≤ 400
  k1 : 1 ≤ k
  k5 : k ≤ 5
def mergeF (k : Int) (a b : Val) : Val := if k ≤ 3 then aggF 3 [a, b] else aggF k [a, b]
structure MergeOk (k : Int) (a b : Val) : Prop where
  a : vValid a = true
  b : vValid b = true
  k1 : 1 ≤ k
  k5 : k ≤ 5

theorem vValid_range {v : Val} (h : vValid v = true) : -9999 ≤ v.2 ∧ v.2 ≤ 9999 := by
  obtain ⟨a, b⟩ := v
  unfold vValid at h
  cases a <;> simp_all
theorem vValid_null {v : Val} (h : vValid v = true) (hn : v.1 = true) : v = (true, 0) := by
  obtain ⟨a, b⟩ := v
  unfold vValid at h
  simp_all
theorem numV_valid (n : Int) : vValid (numV n) = true := by
  unfold numV
  split
  · rename_i h; simp [vValid, h.1, h.2]
  · rfl
theorem numV_in {n : Int} (h1 : -9999 ≤ n) (h2 : n ≤ 9999) : numV n = (false, n) := by unfold numV; rw [if_pos ⟨h1, h2⟩]
@[simp] theorem nnN_nil : nnN [] = 0 := rfl
@[simp] theorem sumN_nil : sumN [] = 0 := rfl
@[simp] theorem lowN_nil : lowN [] = (true, 0) := rfl
@[simp] theorem highN_nil : highN [] = (true, 0) := rfl
theorem nnN_append (xs ys : List Val) : nnN (xs ++ ys) = nnN xs + nnN ys := by simp [nnN]
theorem sumN_append (xs ys : List Val) : sumN (xs ++ ys) = sumN xs + sumN ys := by simp [sumN]
theorem nnN_one (v : Val) : nnN [v] = if v.1 then 0 else 1 := by obtain ⟨a, b⟩ := v; cases a <;> rfl
theorem sumN_one (v : Val) : sumN [v] = v.2 := by simp [sumN]
theorem lowN_snoc (xs : List Val) (v : Val) : lowN (xs ++ [v]) = lowS (lowN xs) v := by simp [lowN]
theorem highN_snoc (xs : List Val) (v : Val) : highN (xs ++ [v]) = highS (highN xs) v := by simp [highN]
theorem nnN_le (xs : List Val) : nnN xs ≤ xs.length := List.countP_le_length
theorem nnN_cons (x : Val) (xs : List Val) : nnN (x :: xs) = (if x.1 then 0 else 1) + nnN xs := by
  rw [← nnN_one, ← nnN_append]; rfl
theorem sumN_cons (x : Val) (xs : List Val) : sumN (x :: xs) = x.2 + sumN xs := by simp [sumN]
theorem sumN_range : ∀ (xs : List Val), (∀ v ∈ xs, vValid v = true) → -(9999 * (xs.length : Int)) ≤ sumN xs ∧ sumN xs ≤ 9999 * (xs.length : Int)
  | [], _ => by simp
  | x :: xs, h => by
    have h1 := vValid_range (h x (by simp))
    have h2 := sumN_range xs fun v hv => h v (by simp [hv])
    rw [sumN_cons, List.length_cons]
    push_cast
    omega
theorem take_valid {xs : List Val} (h : ∀ v ∈ xs, vValid v = true) (i : Nat) : ∀ v ∈ xs.take i, vValid v = true := fun v hv => h v (List.mem_of_mem_take hv)
theorem drop_valid {xs : List Val} (h : ∀ v ∈ xs, vValid v = true) (i : Nat) : ∀ v ∈ xs.drop i, vValid v = true := fun v hv => h v (List.mem_of_mem_drop hv)

/-! lowest and highest values -/
theorem lowS_valid {a v : Val} (ha : vValid a = true) (hv : vValid v = true) : vValid (lowS a v) = true := by
  unfold lowS
  split
  · exact ha
  · split
    · exact hv
    · exact ha
theorem lowS_tf (a b : Int) : lowS (true, a) (false, b) = (false, b) := by simp [lowS]
theorem lowS_xt (x : Val) (b : Int) : lowS x (true, b) = x := by simp [lowS]
theorem lowS_ff (a b : Int) : lowS (false, a) (false, b) = (false, min a b) := by
  unfold lowS
  simp only [Bool.false_eq_true, if_false, Bool.false_or, decide_eq_true_eq]
  split
  · congr 1; omega
  · congr 1; omega
theorem highS_valid {a v : Val} (ha : vValid a = true) (hv : vValid v = true) : vValid (highS a v) = true := by
  unfold highS
  split
  · exact ha
  · split
    · exact hv
    · exact ha
theorem highS_tf (a b : Int) : highS (true, a) (false, b) = (false, b) := by simp [highS]
theorem highS_xt (x : Val) (b : Int) : highS x (true, b) = x := by simp [highS]
theorem highS_ff (a b : Int) : highS (false, a) (false, b) = (false, max a b) := by
  unfold highS
  simp only [Bool.false_eq_true, if_false, Bool.false_or, decide_eq_true_eq]
  split
  · congr 1; omega
  · congr 1; omega
theorem foldLow_valid : ∀ (xs : List Val) (a : Val), vValid a = true → (∀ v ∈ xs, vValid v = true) → vValid (xs.foldl lowS a) = true
  | [], a, ha, _ => ha
  | x :: xs, a, ha, h => foldLow_valid xs _ (lowS_valid ha (h x (by simp))) fun v hv => h v (by simp [hv])
theorem foldHigh_valid : ∀ (xs : List Val) (a : Val), vValid a = true → (∀ v ∈ xs, vValid v = true) → vValid (xs.foldl highS a) = true
  | [], a, ha, _ => ha
  | x :: xs, a, ha, h => foldHigh_valid xs _ (highS_valid ha (h x (by simp))) fun v hv => h v (by simp [hv])
theorem lowN_valid {xs : List Val} (h : ∀ v ∈ xs, vValid v = true) : vValid (lowN xs) = true := foldLow_valid xs _ rfl h
theorem highN_valid {xs : List Val} (h : ∀ v ∈ xs, vValid v = true) : vValid (highN xs) = true := foldHigh_valid xs _ rfl h
theorem aggF_valid {k : Int} {xs : List Val} (h : ∀ v ∈ xs, vValid v = true) : vValid (aggF k xs) = true := by
  unfold aggF
  split; · exact numV_valid _
  split; · exact numV_valid _
  split
  · split; · rfl
    exact numV_valid _
  split; · exact lowN_valid h
  exact highN_valid h
theorem lowS_lt {x a : Int} (h : x < a) : lowS (false, a) (false, x) = (false, x) := by simp [lowS, h]
theorem lowS_ge {x a : Int} (h : ¬ x < a) : lowS (false, a) (false, x) = (false, a) := by simp [lowS, h]
theorem highS_lt {x a : Int} (h : a < x) : highS (false, a) (false, x) = (false, x) := by simp [highS, h]
theorem highS_ge {x a : Int} (h : ¬ a < x) : highS (false, a) (false, x) = (false, a) := by simp [highS, h]
theorem lowS_assoc (a b c : Val) : lowS (lowS a b) c = lowS a (lowS b c) := by
  obtain ⟨na, a⟩ := a; obtain ⟨nb, b⟩ := b; obtain ⟨nc, c⟩ := c
  cases na <;> cases nb <;> cases nc <;> simp only [lowS_tf, lowS_xt, lowS_ff]
  congr 1; omega
theorem highS_assoc (a b c : Val) : highS (highS a b) c = highS a (highS b c) := by
  obtain ⟨na, a⟩ := a; obtain ⟨nb, b⟩ := b; obtain ⟨nc, c⟩ := c
  cases na <;> cases nb <;> cases nc <;> simp only [highS_tf, highS_xt, highS_ff]
  congr 1; omega
theorem lowS_null {a v : Val} (h : v.1 = true) : lowS a v = a := by unfold lowS; rw [if_pos h]
theorem highS_null {a v : Val} (h : v.1 = true) : highS a v = a := by unfold highS; rw [if_pos h]
theorem lowS_left (v : Val) (hv : vValid v = true) : lowS (true, 0) v = v := by
  obtain ⟨a, b⟩ := v
  cases a
  · simp [lowS]
  · rw [vValid_null hv rfl]; rfl
theorem highS_left (v : Val) (hv : vValid v = true) : highS (true, 0) v = v := by
  obtain ⟨a, b⟩ := v
  cases a
  · simp [highS]
  · rw [vValid_null hv rfl]; rfl
theorem foldLow_eq : ∀ (xs : List Val) (a : Val), vValid a = true → (∀ v ∈ xs, vValid v = true) → xs.foldl lowS a = lowS a (lowN xs)
  | [], a, _, _ => rfl
  | x :: xs, a, ha, h => by
    have hx := h x (by simp)
    have hxs : ∀ v ∈ xs, vValid v = true := fun v hv => h v (by simp [hv])
    have e : lowN (x :: xs) = xs.foldl lowS x := by show xs.foldl lowS (lowS (true, 0) x) = _; rw [lowS_left x hx]
    rw [List.foldl_cons, foldLow_eq xs _ (lowS_valid ha hx) hxs, lowS_assoc, e, foldLow_eq xs x hx hxs]
theorem foldHigh_eq : ∀ (xs : List Val) (a : Val), vValid a = true → (∀ v ∈ xs, vValid v = true) → xs.foldl highS a = highS a (highN xs)
  | [], a, _, _ => rfl
  | x :: xs, a, ha, h => by
    have hx := h x (by simp)
    have hxs : ∀ v ∈ xs, vValid v = true := fun v hv => h v (by simp [hv])
    have e : highN (x :: xs) = xs.foldl highS x := by show xs.foldl highS (highS (true, 0) x) = _; rw [highS_left x hx]
    rw [List.foldl_cons, foldHigh_eq xs _ (highS_valid ha hx) hxs, highS_assoc, e, foldHigh_eq xs x hx hxs]
theorem lowN_append {xs ys : List Val} (hx : ∀ v ∈ xs, vValid v = true) (hy : ∀ v ∈ ys, vValid v = true) : lowN (xs ++ ys) = lowS (lowN xs) (lowN ys) := by
  rw [lowN, List.foldl_append]; exact foldLow_eq ys _ (lowN_valid hx) hy
theorem highN_append {xs ys : List Val} (hx : ∀ v ∈ xs, vValid v = true) (hy : ∀ v ∈ ys, vValid v = true) : highN (xs ++ ys) = highS (highN xs) (highN ys) := by
  rw [highN, List.foldl_append]; exact foldHigh_eq ys _ (highN_valid hx) hy
theorem lowN_pair {a b : Val} (ha : vValid a = true) (hb : vValid b = true) : lowN [a, b] = lowS a b := by
  show lowS (lowS (true, 0) a) b = _; rw [lowS_left a ha]
theorem highN_pair {a b : Val} (ha : vValid a = true) (hb : vValid b = true) : highN [a, b] = highS a b := by
  show highS (highS (true, 0) a) b = _; rw [highS_left a ha]
theorem nnN_pair (a b : Val) : nnN [a, b] = (if a.1 then 0 else 1) + (if b.1 then 0 else 1) := by rw [nnN_cons, nnN_one]
theorem sumN_pair (a b : Val) : sumN [a, b] = a.2 + b.2 := by rw [sumN_cons, sumN_one]

/-- The numbers' sizes. -/
def absN (xs : List Val) : Int := (xs.map fun v => max v.2 (-v.2)).sum
theorem absN_cons (x : Val) (xs : List Val) : absN (x :: xs) = max x.2 (-x.2) + absN xs := by simp [absN]
theorem absN_append (xs ys : List Val) : absN (xs ++ ys) = absN xs + absN ys := by simp [absN]
theorem absN_one (v : Val) : absN [v] = max v.2 (-v.2) := by simp [absN]
theorem sumN_abs : ∀ xs : List Val, -(absN xs) ≤ sumN xs ∧ sumN xs ≤ absN xs
  | [] => by simp [absN]
  | x :: xs => by
    have := sumN_abs xs
    rw [absN_cons, sumN_cons]
    omega
theorem absN_nonneg : ∀ xs : List Val, 0 ≤ absN xs
  | [] => by simp [absN]
  | x :: xs => by
    have := absN_nonneg xs
    rw [absN_cons]
    omega
theorem absN_range : ∀ (xs : List Val), (∀ v ∈ xs, vValid v = true) → absN xs ≤ 9999 * (xs.length : Int)
  | [], _ => by simp [absN]
  | x :: xs, h => by
    have h1 := vValid_range (h x (by simp))
    have h2 := absN_range xs fun v hv => h v (by simp [hv])
    rw [absN_cons, List.length_cons]
    push_cast
    omega
theorem sumN_zero : ∀ (xs : List Val), (∀ v ∈ xs, vValid v = true) → nnN xs = 0 → sumN xs = 0
  | [], _, _ => rfl
  | x :: xs, h, h0 => by
    rw [nnN_cons] at h0
    have hx : x.1 = true := by
      cases hc : x.1
      · rw [hc] at h0; simp at h0
      · rfl
    rw [hx] at h0
    rw [sumN_cons, vValid_null (h x (by simp)) hx, sumN_zero xs (fun v hv => h v (by simp [hv])) (by simpa using h0)]
    rfl
/-- Aggregates of parts can be merged. -/
theorem merge_parts {k : Int} {xs ys : List Val} (h : AggOk k (xs ++ ys)) (hT : absN (xs ++ ys) ≤ 9999) : mergeF k (aggF k xs) (aggF k ys) = aggF k (xs ++ ys) := by
  have hx : ∀ v ∈ xs, vValid v = true := fun v hv => h.all v (by simp [hv])
  have hy : ∀ v ∈ ys, vValid v = true := fun v hv => h.all v (by simp [hv])
  have hlen := h.len
  rw [List.length_append] at hlen
  have hn1 := nnN_le xs
  have hn2 := nnN_le ys
  rw [absN_append] at hT
  have ha1 := absN_nonneg xs
  have ha2 := absN_nonneg ys
  have hs1 := sumN_abs xs
  have hs2 := sumN_abs ys
  have hk : k = 1 ∨ k = 2 ∨ k = 3 ∨ k = 4 ∨ k = 5 := by have := h.k1; have := h.k5; omega
  rcases hk with rfl | rfl | rfl | rfl | rfl
  · simp only [mergeF, aggF, if_true, if_false, show ((1 : Int) ≤ 3) = True by simp, show ((3 : Int) = 1) = False by simp, show ((3 : Int) = 2) = False by simp]
    rw [numV_in (n := xs.length) (by omega) (by omega), numV_in (n := ys.length) (by omega) (by omega), nnN_pair, sumN_pair, List.length_append]
    simp
  · simp only [mergeF, aggF, if_true, if_false, show ((2 : Int) ≤ 3) = True by simp, show ((3 : Int) = 1) = False by simp, show ((3 : Int) = 2) = False by simp, show ((2 : Int) = 1) = False by simp]
    rw [numV_in (n := (nnN xs : Int)) (by omega) (by omega), numV_in (n := (nnN ys : Int)) (by omega) (by omega), nnN_pair, sumN_pair, nnN_append]
    simp
  · simp only [mergeF, aggF, if_true, if_false, show ((3 : Int) ≤ 3) = True by simp, show ((3 : Int) = 1) = False by simp, show ((3 : Int) = 2) = False by simp]
    rw [nnN_pair, sumN_pair, nnN_append, sumN_append]
    have n1 := numV_in (n := sumN xs) (by omega) (by omega)
    have n2 := numV_in (n := sumN ys) (by omega) (by omega)
    by_cases h1 : nnN xs = 0 <;> by_cases h2 : nnN ys = 0
    · simp [h1, h2]
    · have := sumN_zero xs hx h1
      simp [h1, h2, n2, this]
    · have := sumN_zero ys hy h2
      simp [h1, h2, n1, this]
    · have : ¬ (nnN xs + nnN ys = 0) := by omega
      simp [h1, h2, n1, n2, this]
  · simp only [mergeF, aggF, if_true, if_false, show ((4 : Int) ≤ 3) = False by simp, show ((4 : Int) = 1) = False by simp, show ((4 : Int) = 2) = False by simp, show ((4 : Int) = 3) = False by simp]
    rw [lowN_pair (lowN_valid hx) (lowN_valid hy), lowN_append hx hy]
  · simp only [mergeF, aggF, if_true, if_false, show ((5 : Int) ≤ 3) = False by simp, show ((5 : Int) = 1) = False by simp, show ((5 : Int) = 2) = False by simp, show ((5 : Int) = 3) = False by simp, show ((5 : Int) = 4) = False by simp]
    rw [highN_pair (highN_valid hx) (highN_valid hy), highN_append hx hy]
theorem lowS_comm {a b : Val} (ha : vValid a = true) (hb : vValid b = true) : lowS a b = lowS b a := by
  obtain ⟨na, a⟩ := a; obtain ⟨nb, b⟩ := b
  cases na <;> cases nb
  · simp only [lowS]
    by_cases h1 : b < a <;> by_cases h2 : a < b <;> simp [h1, h2] <;> omega
  · simp [lowS]
  · simp [lowS]
  · rw [vValid_null ha rfl, vValid_null hb rfl]
theorem highS_comm {a b : Val} (ha : vValid a = true) (hb : vValid b = true) : highS a b = highS b a := by
  obtain ⟨na, a⟩ := a; obtain ⟨nb, b⟩ := b
  cases na <;> cases nb
  · simp only [highS]
    by_cases h1 : b < a <;> by_cases h2 : a < b <;> simp [h1, h2] <;> omega
  · simp [highS]
  · simp [highS]
  · rw [vValid_null ha rfl, vValid_null hb rfl]
theorem mergeF_comm {k : Int} {a b : Val} (h : MergeOk k a b) : mergeF k b a = mergeF k a b := by
  have hk : k = 1 ∨ k = 2 ∨ k = 3 ∨ k = 4 ∨ k = 5 := by have := h.k1; have := h.k5; omega
  have e3 : aggF 3 [b, a] = aggF 3 [a, b] := by
    simp only [aggF, if_true, if_false, show ((3 : Int) = 1) = False by simp, show ((3 : Int) = 2) = False by simp]
    rw [nnN_pair, nnN_pair, sumN_pair, sumN_pair, Nat.add_comm, Int.add_comm]
  unfold mergeF
  rcases hk with rfl | rfl | rfl | rfl | rfl
  · exact e3
  · exact e3
  · exact e3
  · show lowN [b, a] = lowN [a, b]
    rw [lowN_pair h.a h.b, lowN_pair h.b h.a, lowS_comm h.b h.a]
  · show highN [b, a] = highN [a, b]
    rw [highN_pair h.a h.b, highN_pair h.b h.a, highS_comm h.b h.a]
theorem mergeF_null {k : Int} {a b : Val} (h : MergeOk k a b) : mergeF k a (true, 0) = a := by
  have hk : k = 1 ∨ k = 2 ∨ k = 3 ∨ k = 4 ∨ k = 5 := by have := h.k1; have := h.k5; omega
  have e3 : aggF 3 [a, (true, 0)] = a := by
    simp only [aggF, if_true, if_false, show ((3 : Int) = 1) = False by simp, show ((3 : Int) = 2) = False by simp]
    rw [nnN_pair, sumN_pair]
    have hr := vValid_range h.a
    cases hc : a.1
    · simp only [if_true, if_false, Bool.false_eq_true]
      rw [if_neg (by omega), numV_in (by omega) (by omega), Int.add_zero, ← hc]
    · rw [vValid_null h.a hc]; rfl
  unfold mergeF
  rcases hk with rfl | rfl | rfl | rfl | rfl
  · exact e3
  · exact e3
  · exact e3
  · show lowN [a, (true, 0)] = a
    rw [lowN_pair h.a rfl, lowS_null rfl]
  · show highN [a, (true, 0)] = a
    rw [highN_pair h.a rfl, highS_null rfl]

/-! aggregates ignore nulls -/
def few (xs : List Val) : List Val := xs.filter (fun v => !v.1)
theorem few_snoc_null {xs : List Val} {x : Val} (h : x.1 = true) : few (xs ++ [x]) = few xs := by simp [few, h]
theorem few_snoc {xs : List Val} {x : Val} (h : x.1 = false) : few (xs ++ [x]) = few xs ++ [x] := by simp [few, h]
theorem few_length (xs : List Val) : (few xs).length = nnN xs := by rw [few, nnN, List.countP_eq_length_filter]
theorem few_mem {xs : List Val} {v : Val} (h : v ∈ few xs) : v ∈ xs := (List.mem_filter.1 h).1
theorem few_nn (xs : List Val) : nnN (few xs) = nnN xs := by
  rw [← few_length, ← few_length, few, few, List.filter_filter]
  simp
theorem few_cons_null {xs : List Val} {x : Val} (h : x.1 = true) : few (x :: xs) = few xs := by simp [few, h]
theorem few_cons {xs : List Val} {x : Val} (h : x.1 = false) : few (x :: xs) = x :: few xs := by simp [few, h]
theorem few_sum : ∀ (xs : List Val), (∀ v ∈ xs, vValid v = true) → sumN (few xs) = sumN xs
  | [], _ => rfl
  | x :: xs, h => by
    have ih := few_sum xs fun v hv => h v (by simp [hv])
    cases hc : x.1
    · rw [few_cons hc, sumN_cons, sumN_cons, ih]
    · rw [few_cons_null hc, sumN_cons, ih, vValid_null (h x (by simp)) hc]; simp
theorem few_foldLow : ∀ (xs : List Val) (a : Val), (few xs).foldl lowS a = xs.foldl lowS a
  | [], _ => rfl
  | x :: xs, a => by
    cases hc : x.1
    · rw [few_cons hc, List.foldl_cons, List.foldl_cons, few_foldLow xs]
    · rw [few_cons_null hc, List.foldl_cons, lowS_null hc, few_foldLow xs]
theorem few_foldHigh : ∀ (xs : List Val) (a : Val), (few xs).foldl highS a = xs.foldl highS a
  | [], _ => rfl
  | x :: xs, a => by
    cases hc : x.1
    · rw [few_cons hc, List.foldl_cons, List.foldl_cons, few_foldHigh xs]
    · rw [few_cons_null hc, List.foldl_cons, highS_null hc, few_foldHigh xs]
theorem few_agg {k : Int} {xs : List Val} (h : AggOk k xs) (hk : k ≠ 1) : aggF k (few xs) = aggF k xs := by
  simp only [aggF, if_neg hk, few_nn, few_sum xs h.all, lowN, highN, few_foldLow, few_foldHigh]
theorem few_ok {k : Int} {xs : List Val} (h : AggOk k xs) : AggOk k (few xs) :=
  ⟨fun v hv => h.all v (few_mem hv), by rw [few_length]; have := nnN_le xs; have := h.len; omega, h.k1, h.k5⟩

/-! the bounds are values -/
theorem foldLow_spec : ∀ (xs : List Val) (a : Val), (∀ v ∈ xs, v.1 = true) ∧ xs.foldl lowS a = a ∨ (xs.foldl lowS a).1 = false ∧ (xs.foldl lowS a = a ∨ xs.foldl lowS a ∈ xs) ∧ (a.1 = false → (xs.foldl lowS a).2 ≤ a.2) ∧ ∀ v ∈ xs, v.1 = false → (xs.foldl lowS a).2 ≤ v.2
  | [], a => .inl ⟨by simp, rfl⟩
  | x :: xs, a => by
    rw [List.foldl_cons]
    have ih := foldLow_spec xs (lowS a x)
    cases hc : x.1
    · right
      have hs : (lowS a x).1 = false ∧ (lowS a x = a ∨ lowS a x = x) ∧ (a.1 = false → (lowS a x).2 ≤ a.2) ∧ (lowS a x).2 ≤ x.2 := by
        unfold lowS
        rw [if_neg (by simp [hc])]
        split
        · rename_i h
          refine ⟨hc, .inr rfl, fun ha => ?_, Int.le_refl _⟩
          rw [ha] at h
          simp at h
          omega
        · rename_i h
          simp at h
          exact ⟨h.1, .inl rfl, fun _ => Int.le_refl _, h.2⟩
      rcases ih with ⟨h1, h2⟩ | ⟨h1, h2, h3, h4⟩
      · rw [h2]
        refine ⟨hs.1, ?_, hs.2.2.1, fun v hv hn => ?_⟩
        · rcases hs.2.1 with h | h
          · exact .inl h
          · right; rw [h]; simp
        · rcases List.mem_cons.1 hv with rfl | hv
          · exact hs.2.2.2
          · rw [h1 v hv] at hn; cases hn
      · have h3' := h3 hs.1
        refine ⟨h1, ?_, fun ha => by have := hs.2.2.1 ha; omega, fun v hv hn => ?_⟩
        · rcases h2 with h | h
          · rw [h]
            rcases hs.2.1 with h | h
            · exact .inl h
            · right; rw [h]; simp
          · right; simp [h]
        · rcases List.mem_cons.1 hv with rfl | hv
          · have := hs.2.2.2; omega
          · exact h4 v hv hn
    · rw [lowS_null hc] at ih ⊢
      rcases ih with ⟨h1, h2⟩ | ⟨h1, h2, h3, h4⟩
      · left
        refine ⟨fun v hv => ?_, h2⟩
        rcases List.mem_cons.1 hv with rfl | hv
        · exact hc
        · exact h1 v hv
      · right
        refine ⟨h1, ?_, h3, fun v hv hn => ?_⟩
        · rcases h2 with h | h
          · exact .inl h
          · right; simp [h]
        · rcases List.mem_cons.1 hv with rfl | hv
          · rw [hc] at hn; cases hn
          · exact h4 v hv hn
theorem foldHigh_spec : ∀ (xs : List Val) (a : Val), (∀ v ∈ xs, v.1 = true) ∧ xs.foldl highS a = a ∨ (xs.foldl highS a).1 = false ∧ (xs.foldl highS a = a ∨ xs.foldl highS a ∈ xs) ∧ (a.1 = false → a.2 ≤ (xs.foldl highS a).2) ∧ ∀ v ∈ xs, v.1 = false → v.2 ≤ (xs.foldl highS a).2
  | [], a => .inl ⟨by simp, rfl⟩
  | x :: xs, a => by
    rw [List.foldl_cons]
    have ih := foldHigh_spec xs (highS a x)
    cases hc : x.1
    · right
      have hs : (highS a x).1 = false ∧ (highS a x = a ∨ highS a x = x) ∧ (a.1 = false → a.2 ≤ (highS a x).2) ∧ x.2 ≤ (highS a x).2 := by
        unfold highS
        rw [if_neg (by simp [hc])]
        split
        · rename_i h
          refine ⟨hc, .inr rfl, fun ha => ?_, Int.le_refl _⟩
          rw [ha] at h
          simp at h
          omega
        · rename_i h
          simp at h
          exact ⟨h.1, .inl rfl, fun _ => Int.le_refl _, h.2⟩
      rcases ih with ⟨h1, h2⟩ | ⟨h1, h2, h3, h4⟩
      · rw [h2]
        refine ⟨hs.1, ?_, hs.2.2.1, fun v hv hn => ?_⟩
        · rcases hs.2.1 with h | h
          · exact .inl h
          · right; rw [h]; simp
        · rcases List.mem_cons.1 hv with rfl | hv
          · exact hs.2.2.2
          · rw [h1 v hv] at hn; cases hn
      · have h3' := h3 hs.1
        refine ⟨h1, ?_, fun ha => by have := hs.2.2.1 ha; omega, fun v hv hn => ?_⟩
        · rcases h2 with h | h
          · rw [h]
            rcases hs.2.1 with h | h
            · exact .inl h
            · right; rw [h]; simp
          · right; simp [h]
        · rcases List.mem_cons.1 hv with rfl | hv
          · have := hs.2.2.2; omega
          · exact h4 v hv hn
    · rw [highS_null hc] at ih ⊢
      rcases ih with ⟨h1, h2⟩ | ⟨h1, h2, h3, h4⟩
      · left
        refine ⟨fun v hv => ?_, h2⟩
        rcases List.mem_cons.1 hv with rfl | hv
        · exact hc
        · exact h1 v hv
      · right
        refine ⟨h1, ?_, h3, fun v hv hn => ?_⟩
        · rcases h2 with h | h
          · exact .inl h
          · right; simp [h]
        · rcases List.mem_cons.1 hv with rfl | hv
          · rw [hc] at hn; cases hn
          · exact h4 v hv hn

theorem lowN_spec {xs : List Val} (h : nnN xs ≠ 0) : (lowN xs).1 = false ∧ lowN xs ∈ xs ∧ ∀ v ∈ xs, v.1 = false → (lowN xs).2 ≤ v.2 := by
  rcases foldLow_spec xs (true, 0) with ⟨h1, h2⟩ | ⟨h1, h2, h3, h4⟩
  · exact absurd (List.countP_eq_zero.2 fun v hv => by simp [h1 v hv]) h
  · refine ⟨h1, ?_, h4⟩
    rcases h2 with h2 | h2
    · rw [h2] at h1; cases h1
    · exact h2
theorem highN_spec {xs : List Val} (h : nnN xs ≠ 0) : (highN xs).1 = false ∧ highN xs ∈ xs ∧ ∀ v ∈ xs, v.1 = false → v.2 ≤ (highN xs).2 := by
  rcases foldHigh_spec xs (true, 0) with ⟨h1, h2⟩ | ⟨h1, h2, h3, h4⟩
  · exact absurd (List.countP_eq_zero.2 fun v hv => by simp [h1 v hv]) h
  · refine ⟨h1, ?_, h4⟩
    rcases h2 with h2 | h2
    · rw [h2] at h1; cases h1
    · exact h2
theorem nn_null {xs : List Val} (h : nnN xs = 0) : ∀ v ∈ xs, v.1 = true := fun v hv => by
  have := List.countP_eq_zero.1 h v hv
  simpa using this
theorem lowN_null {xs : List Val} (h : nnN xs = 0) : lowN xs = (true, 0) := by
  have h0 : few xs = [] := List.eq_nil_of_length_eq_zero (by rw [few_length, h])
  rw [lowN, ← few_foldLow, h0]; rfl
theorem highN_null {xs : List Val} (h : nnN xs = 0) : highN xs = (true, 0) := by
  have h0 : few xs = [] := List.eq_nil_of_length_eq_zero (by rw [few_length, h])
  rw [highN, ← few_foldHigh, h0]; rfl
theorem low_high (xs : List Val) : (lowN xs).1 = (highN xs).1 := by
  by_cases h : nnN xs = 0
  · rw [lowN_null h, highN_null h]
  · rw [(lowN_spec h).1, (highN_spec h).1]

end Go.Qo
