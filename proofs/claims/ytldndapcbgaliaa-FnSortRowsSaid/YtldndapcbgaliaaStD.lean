/-
  The stable sort by a comparison, in plain Lean.
-/
import Derived.Test.YtldndapcbgaliaaSrtD
namespace Go.Qo
set_option linter.unusedVariables false
set_option linter.unusedSimpArgs false

/-- A comparison that orders what S holds for. -/
structure Cm {α : Type} (cmp : α → α → Int) (S : α → Prop) : Prop where
  anti : ∀ x y, S x → S y → (cmp x y < 0 ↔ 0 < cmp y x)
  trans : ∀ x y z, S x → S y → S z → cmp x y ≤ 0 → cmp y z ≤ 0 → cmp x z ≤ 0
section
variable {α : Type}
/-- x ahead of the first that sorts behind it. -/
def gIns (cmp : α → α → Int) (x : α) : List α → List α
  | [] => [x]
  | y :: ys => if cmp x y < 0 then x :: y :: ys else y :: gIns cmp x ys
def gSort (cmp : α → α → Int) (l : List α) : List α := l.foldl (fun out x => gIns cmp x out) []
def GOrd (cmp : α → α → Int) (l : List α) : Prop := l.Pairwise (fun a b => cmp a b ≤ 0)
variable {cmp : α → α → Int} {S : α → Prop}

theorem gIns_length (x : α) : ∀ l, (gIns cmp x l).length = l.length + 1
  | [] => rfl
  | y :: ys => by
    unfold gIns
    split
    · simp
    · simp [gIns_length x ys]
theorem gIns_perm (x : α) : ∀ l, (gIns cmp x l).Perm (x :: l)
  | [] => List.Perm.refl _
  | y :: ys => by
    unfold gIns
    split
    · exact List.Perm.refl _
    · exact ((gIns_perm x ys).cons y).trans (List.Perm.swap x y ys)
theorem gIns_ord (C : Cm cmp S) {x : α} (hx : S x) : ∀ {l : List α}, (∀ r ∈ l, S r) → GOrd cmp l → GOrd cmp (gIns cmp x l)
  | [], _, _ => by simp [gIns, GOrd]
  | y :: ys, hl, h => by
    unfold GOrd at h
    rw [List.pairwise_cons] at h
    have hy := hl y (by simp)
    unfold gIns
    split
    · rename_i hlt
      unfold GOrd
      rw [List.pairwise_cons, List.pairwise_cons]
      refine ⟨?_, h⟩
      intro z hz
      rcases List.mem_cons.1 hz with rfl | hz
      · omega
      · exact C.trans x y z hx hy (hl z (by simp [hz])) (by omega) (h.1 z hz)
    · rename_i hge
      have := gIns_ord C hx (fun r hr => hl r (by simp [hr])) h.2
      unfold GOrd
      rw [List.pairwise_cons]
      refine ⟨?_, this⟩
      intro z hz
      rcases List.mem_cons.1 ((gIns_perm x ys).mem_iff.1 hz) with rfl | hz
      · have := (C.anti z y hx hy)
        omega
      · exact h.1 z hz
/-- What the scan from the right finds is the place. -/
theorem gIns_at (C : Cm cmp S) {x : α} (hx : S x) : ∀ {l : List α} {k : Nat}, (∀ r ∈ l, S r) → GOrd cmp l → k ≤ l.length →
    (∀ (i : Nat) (y : α), k ≤ i → l[i]? = some y → cmp x y < 0) → (∀ y, 0 < k → l[k - 1]? = some y → ¬ cmp x y < 0) → gIns cmp x l = l.take k ++ [x] ++ l.drop k
  | [], k, _, _, hkl, _, _ => by simp at hkl; subst hkl; rfl
  | y :: ys, 0, _, _, _, h1, _ => by
    unfold gIns
    rw [if_pos (h1 0 y (by omega) rfl)]
    rfl
  | y :: ys, k + 1, hl, ho, hkl, h1, h2 => by
    unfold GOrd at ho
    rw [List.pairwise_cons] at ho
    have hy := hl y (by simp)
    have hle : ¬ cmp x y < 0 := by
      rcases Nat.eq_zero_or_pos k with rfl | hk0
      · exact h2 y (by omega) rfl
      · have hk1 : k - 1 < ys.length := by simp at hkl; omega
        have hz := hl ys[k - 1] (by simp)
        have h3 := h2 ys[k - 1] (by omega) (by rw [show k + 1 - 1 = (k - 1) + 1 by omega]; simp)
        have h4 := ho.1 _ (List.getElem_mem hk1)
        have h5 := C.anti x ys[k - 1] hx hz
        have h6 := C.anti x y hx hy
        have h7 := C.trans y ys[k - 1] x hy hz hx h4 (by omega)
        omega
    unfold gIns
    rw [if_neg hle, gIns_at C hx (k := k) (fun r hr => hl r (by simp [hr])) ho.2 (by simpa using hkl) (fun i z hi hz => h1 (i + 1) z (by omega) (by simpa using hz))
      (fun z hk0 hz => h2 z (by omega) (by rw [show k + 1 - 1 = (k - 1) + 1 by omega]; simpa using hz))]
    simp
theorem gSort_snoc (l : List α) (x : α) : gSort cmp (l ++ [x]) = gIns cmp x (gSort cmp l) := by simp [gSort]
theorem gSort_props (C : Cm cmp S) (l : List α) : (∀ r ∈ l, S r) → (gSort cmp l).Perm l ∧ GOrd cmp (gSort cmp l) := by
  intro h
  suffices H : ∀ n, (gSort cmp (l.take n)).Perm (l.take n) ∧ GOrd cmp (gSort cmp (l.take n)) by
    have := H l.length
    rwa [List.take_length] at this
  intro n
  induction n with
  | zero => exact ⟨by simp [gSort], by simp [gSort, GOrd]⟩
  | succ n ih =>
    rw [List.take_add_one]
    cases hx : l[n]? with
    | none => simpa using ih
    | some x =>
      simp only [Option.toList_some]
      rw [gSort_snoc]
      exact ⟨(gIns_perm x _).trans ((ih.1.cons x).trans (List.perm_append_singleton x _).symm), gIns_ord C (h x (List.mem_of_getElem? hx)) (fun r hr => h r (List.mem_of_mem_take (ih.1.mem_iff.1 hr))) ih.2⟩
theorem gSort_perm (C : Cm cmp S) {l : List α} (h : ∀ r ∈ l, S r) : (gSort cmp l).Perm l := (gSort_props C l h).1
theorem gSort_ord (C : Cm cmp S) {l : List α} (h : ∀ r ∈ l, S r) : GOrd cmp (gSort cmp l) := (gSort_props C l h).2
theorem gSort_length (l : List α) : (gSort cmp l).length = l.length := by
  suffices H : ∀ (l out : List α), (l.foldl (fun out x => gIns cmp x out) out).length = l.length + out.length by have := H l []; simpa [gSort] using this
  intro l
  induction l with
  | nil => intro out; simp
  | cons x l ih => intro out; rw [List.foldl_cons, ih, gIns_length]; simp; omega
/-- How the inner loop leaves the list: x has come down to place j among what stood there. -/
def Down (p : List α) (x : α) (rest : List α) (j : Nat) : List α := p.take j ++ x :: p.drop j ++ rest
theorem Down.swap {p rest : List α} {x y : α} {j : Nat} (hj : p[j]? = some y) : ((Down p x rest (j + 1)).set (j + 1) y).set j x = Down p x rest j := by
  obtain ⟨hlt, rfl⟩ := List.getElem?_eq_some_iff.1 hj
  have e1 : p.take (j + 1) = p.take j ++ [p[j]] := by rw [List.take_add_one, hj]; rfl
  have e2 : p.drop j = p[j] :: p.drop (j + 1) := List.drop_eq_getElem_cons hlt
  have l1 : (p.take j).length = j := by rw [List.length_take]; omega
  unfold Down
  rw [e1, e2]
  simp only [List.append_assoc, List.cons_append, List.nil_append, List.singleton_append]
  rw [List.set_append_right _ _ (by omega), l1, show j + 1 - j = 1 by omega]
  simp only [List.set_cons_succ, List.set_cons_zero]
  rw [List.set_append_right _ _ (by omega), l1, Nat.sub_self, List.set_cons_zero]
theorem Down.length {p rest : List α} {x : α} {j : Nat} : (Down p x rest j).length = p.length + 1 + rest.length := by
  have : (p.take j).length + (p.drop j).length = p.length := by rw [← List.length_append, List.take_append_drop]
  unfold Down
  simp only [List.length_append, List.length_cons]
  omega
theorem Down.at_x {p rest : List α} {x : α} {j : Nat} (hj : j ≤ p.length) : (Down p x rest j)[j]? = some x := by
  have l1 : (p.take j).length = j := by rw [List.length_take]; omega
  unfold Down
  rw [List.append_assoc, List.getElem?_append_right (by omega), l1, Nat.sub_self]
  rfl
theorem Down.at_y {p rest : List α} {x : α} {j : Nat} (hj : j + 1 ≤ p.length) : (Down p x rest (j + 1))[j]? = p[j]? := by
  have l1 : (p.take (j + 1)).length = j + 1 := by rw [List.length_take]; omega
  unfold Down
  rw [List.append_assoc, List.getElem?_append_left (by omega), List.getElem?_take, if_pos (by omega)]
theorem Down.start {xs p : List α} {x : α} {i : Nat} (hx : xs[i]? = some x) (hp : p.length = i) : p ++ xs.drop i = Down p x (xs.drop (i + 1)) i := by
  obtain ⟨hlt, rfl⟩ := List.getElem?_eq_some_iff.1 hx
  have e1 : p.take i = p := List.take_of_length_le (by omega)
  have e2 : p.drop i = [] := List.drop_eq_nil_of_le (by omega)
  unfold Down
  rw [List.drop_eq_getElem_cons hlt, e1, e2]
  simp
end
theorem sortK_gSort {W : Int} {keys : List (Int × Bool)} (hk : ∀ k ∈ keys, 0 ≤ k.1 ∧ k.1 < W) : Cm (kCmp keys) (RowOk W) :=
  ⟨fun x y hx hy => by rw [kCmp_anti hx hy hk]; omega, fun x y z hx hy hz => kCmp_trans hx hy hz hk⟩
theorem sIns_g {W : Int} {keys : List (Int × Bool)} (hk : ∀ k ∈ keys, 0 ≤ k.1 ∧ k.1 < W) {x : Row1} (hx : RowOk W x) : ∀ {l : List Row1}, (∀ r ∈ l, RowOk W r) → sIns keys x l = gIns (kCmp keys) x l
  | [], _ => rfl
  | y :: ys, h => by
    have e : (0 < kCmp keys y x) = (kCmp keys x y < 0) := propext ((sortK_gSort hk).anti x y hx (h y (by simp))).symm
    unfold sIns gIns
    rw [sIns_g hk hx (l := ys) fun r hr => h r (by simp [hr])]
    simp only [e]
theorem sortK_g {W : Int} {keys : List (Int × Bool)} (hk : ∀ k ∈ keys, 0 ≤ k.1 ∧ k.1 < W) (l : List Row1) : (∀ r ∈ l, RowOk W r) → sortK keys l = gSort (kCmp keys) l := by
  intro h
  suffices H : ∀ n, sortK keys (l.take n) = gSort (kCmp keys) (l.take n) by
    have := H l.length
    rwa [List.take_length] at this
  intro n
  induction n with
  | zero => rfl
  | succ n ih =>
    rw [List.take_add_one]
    cases hx : l[n]? with
    | none => simpa using ih
    | some x =>
      simp only [Option.toList_some]
      rw [sortK_snoc, gSort_snoc, ih, sIns_g hk (h x (List.mem_of_getElem? hx)) fun r hr => h r (List.mem_of_mem_take ((gSort_perm (sortK_gSort hk) fun q hq => h q (List.mem_of_mem_take hq)).mem_iff.1 hr))]
end Go.Qo
