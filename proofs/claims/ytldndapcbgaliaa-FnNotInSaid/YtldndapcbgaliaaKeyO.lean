/-
  The order by keys of valid rows: it turns its sign, it is transitive. What IsSorted says. Plain Lean.
-/
import Derived.Test.YtldndapcbgaliaaKeyD
import Derived.Test.YtldndapcbgaliaaOrdD
namespace Go.Qo
set_option linter.unusedVariables false
set_option linter.unusedSimpArgs false

theorem getV_valid {W : Int} {r : Row1} {c : Int} (hr : RowOk W r) (h0 : 0 ≤ c) (h1 : c < W) : vValid (getV r c) = true := by
  obtain ⟨n, rfl⟩ := Int.eq_ofNat_of_zero_le h0
  have hl : n < r.length := by have := hr.2; omega
  rw [getV_eq hl]
  exact hr.vals _ (by simp)
theorem key1_anti {W : Int} {a b : Row1} {k : Int × Bool} (ha : RowOk W a) (hb : RowOk W b) (hk : 0 ≤ k.1 ∧ k.1 < W) : key1 k b a = - key1 k a b := by
  unfold key1
  rw [vCmp_anti (getV_valid ha hk.1 hk.2) (getV_valid hb hk.1 hk.2)]
  split <;> simp
theorem kCmp_anti {W : Int} {a b : Row1} (ha : RowOk W a) (hb : RowOk W b) : ∀ {keys : List (Int × Bool)}, (∀ k ∈ keys, 0 ≤ k.1 ∧ k.1 < W) → kCmp keys b a = - kCmp keys a b
  | [], _ => by simp [kCmp]
  | k :: ks, h => by
    rw [kCmp, kCmp, key1_anti ha hb (h k (by simp))]
    by_cases h0 : key1 k a b = 0
    · rw [if_neg (by omega), if_neg (by omega)]
      exact kCmp_anti ha hb fun x hx => h x (by simp [hx])
    · rw [if_pos (by omega), if_pos (by omega)]
theorem key1_zero_eq {k : Int × Bool} {a b : Row1} (h : key1 k a b = 0) : getV a k.1 = getV b k.1 := by
  unfold key1 at h
  split at h
  · exact vCmp_zero (by omega)
  · exact vCmp_zero h
theorem key1_trans {W : Int} {a b d : Row1} {k : Int × Bool} (ha : RowOk W a) (hb : RowOk W b) (hd : RowOk W d) (hk : 0 ≤ k.1 ∧ k.1 < W) (p : key1 k a b < 0) (q : key1 k b d < 0) : key1 k a d < 0 := by
  have va := getV_valid ha hk.1 hk.2
  have vb := getV_valid hb hk.1 hk.2
  have vd := getV_valid hd hk.1 hk.2
  unfold key1 at *
  split at p
  · rename_i hdn
    rw [if_pos hdn] at q ⊢
    have a1 := vCmp_anti va vb
    have a2 := vCmp_anti vb vd
    have a3 := vCmp_anti va vd
    have := vCmp_trans vd vb va (by omega) (by omega)
    omega
  · rename_i hdn
    rw [if_neg hdn] at q ⊢
    exact vCmp_trans va vb vd p q
theorem key1_congr_left {k : Int × Bool} {a b d : Row1} (h : key1 k a b = 0) : key1 k a d = key1 k b d := by
  unfold key1; rw [key1_zero_eq h]
theorem key1_congr_right {k : Int × Bool} {a b d : Row1} (h : key1 k b d = 0) : key1 k a b = key1 k a d := by
  unfold key1; rw [key1_zero_eq h]
theorem kCmp_trans {W : Int} {a b d : Row1} (ha : RowOk W a) (hb : RowOk W b) (hd : RowOk W d) : ∀ {keys : List (Int × Bool)}, (∀ k ∈ keys, 0 ≤ k.1 ∧ k.1 < W) → kCmp keys a b ≤ 0 → kCmp keys b d ≤ 0 → kCmp keys a d ≤ 0
  | [], _, _, _ => by simp [kCmp]
  | k :: ks, h, p, q => by
    rw [kCmp] at p q ⊢
    have hk := h k (by simp)
    by_cases e1 : key1 k a b = 0
    · rw [if_neg (by simpa using e1)] at p
      rw [key1_congr_left e1]
      by_cases e2 : key1 k b d = 0
      · rw [if_neg (by simpa using e2)] at q ⊢
        exact kCmp_trans ha hb hd (fun x hx => h x (by simp [hx])) p q
      · rw [if_pos e2] at q ⊢; exact q
    · rw [if_pos e1] at p
      by_cases e2 : key1 k b d = 0
      · rw [← key1_congr_right e2, if_pos e1]; exact p
      · rw [if_pos e2] at q
        have := key1_trans ha hb hd hk (by omega) (by omega)
        rw [if_pos (by omega)]; omega

/-- What IsSorted says. -/
def IsSortedP (keys : List (Int × Bool)) (rows : List Row1) : Prop :=
  ∀ r0, rows[0]? = some r0 → (AllRows r0.length rows ∧ KeysOk r0.length keys ∧ SortedBy keys rows ∧ rows.length ≤ 400)
theorem allRows_upto {W : Int} {rows : List Row1} {k : Nat} (h : ∀ (i : Nat) (r : Row1), i < k → rows[i]? = some r → rowValid r = true ∧ (r.length : Int) = W) (hk : rows.length ≤ k) : AllRows W rows := fun r hr => by
  obtain ⟨i, hi, rfl⟩ := List.getElem_of_mem hr
  exact h i _ (by omega) (List.getElem?_eq_getElem hi)
theorem upto_succ {W : Int} {rows : List Row1} {k : Nat} {x : Row1} (h : ∀ (i : Nat) (r : Row1), i < k → rows[i]? = some r → rowValid r = true ∧ (r.length : Int) = W) (hx : rows[k]? = some x) (hv : rowValid x = true) (hw : (x.length : Int) = W) :
    ∀ (i : Nat) (r : Row1), i < k + 1 → rows[i]? = some r → rowValid r = true ∧ (r.length : Int) = W := by
  intro i r hi hr
  rcases Nat.lt_succ_iff_lt_or_eq.1 hi with h3 | rfl
  · exact h i r h3 hr
  · rw [hx] at hr; cases hr; exact ⟨hv, hw⟩
theorem AllRows.at_ {W : Int} {rows : List Row1} (h : AllRows W rows) {i : Nat} {r : Row1} (hr : rows[i]? = some r) : RowOk W r := h r (List.mem_of_getElem? hr)
end Go.Qo
