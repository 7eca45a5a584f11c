/-
  The joined rows, more: how many they are does not hang on the order of the tables; both values are one number.
-/
import Derived.Test.YtldndapcbgaliaaPln
namespace Go.Qo
set_option linter.unusedVariables false
set_option linter.unusedSimpArgs false
section
variable {a b : List Row1} {ca cb : Nat}
/-- How many pairs have one number. -/
def cntP (a b : List Row1) (ca cb : Nat) (x y : List Int) : Nat := (x.map fun i => (y.filter (eqB a b ca cb i)).length).sum
theorem ge_of_head {f : Int → Int} {j : Int} {y : List Int} (h : (j :: y).Pairwise (fun p q => f p ≤ f q)) : ∀ k ∈ y, f j ≤ f k := (List.pairwise_cons.1 h).1
theorem dropW_filter {f : Int → Int} {n m : Int} (hm : n ≤ m) : ∀ y : List Int, (y.dropWhile fun j => decide (f j < n)).filter (fun j => decide (f j = m)) = y.filter fun j => decide (f j = m)
  | [] => rfl
  | j :: y => by
    rw [List.dropWhile_cons]
    split
    · rename_i h
      have h := of_decide_eq_true h
      rw [dropW_filter hm y, List.filter_cons, if_neg (by simp; omega)]
    · rfl
theorem takeW_filter {f : Int → Int} {n : Int} : ∀ {y : List Int}, y.Pairwise (fun p q => f p ≤ f q) → (∀ j ∈ y, n ≤ f j) → y.takeWhile (fun j => decide (f j = n)) = y.filter fun j => decide (f j = n)
  | [], _, _ => rfl
  | j :: y, h, hn => by
    rw [List.takeWhile_cons, List.filter_cons]
    split
    · rw [takeW_filter (List.pairwise_cons.1 h).2 fun k hk => hn k (by simp [hk])]
    · rename_i hne
      have h1 := hn j (by simp)
      symm
      rw [List.filter_eq_nil_iff]
      intro k hk
      have h2 := ge_of_head h k hk
      simp only [decide_eq_true_eq] at hne ⊢
      omega
theorem dropW_ge {f : Int → Int} {n : Int} : ∀ {y : List Int}, y.Pairwise (fun p q => f p ≤ f q) → ∀ j ∈ y.dropWhile (fun j => decide (f j < n)), n ≤ f j
  | [], _, j, hj => by simp at hj
  | k :: y, h, j, hj => by
    rw [List.dropWhile_cons] at hj
    split at hj
    · exact dropW_ge (List.pairwise_cons.1 h).2 j hj
    · rename_i hne
      simp only [decide_eq_true_eq] at hne
      rcases List.mem_cons.1 hj with rfl | hj
      · omega
      · have := ge_of_head h j hj
        omega
theorem mjRows_cnt : ∀ {x y : List Int}, x.Pairwise (fun p q => nAt a ca p ≤ nAt a ca q) → y.Pairwise (fun p q => nAt b cb p ≤ nAt b cb q) → (mjRows a b ca cb x y).length = cntP a b ca cb x y
  | [], y, _, _ => rfl
  | i :: x, y, hx, hy => by
    have hd : (y.dropWhile (ltB a b ca cb i)).Pairwise (fun p q => nAt b cb p ≤ nAt b cb q) := hy.sublist (List.dropWhile_suffix _).sublist
    have ih := mjRows_cnt (List.pairwise_cons.1 hx).2 hd
    show (mjOne a b ca cb i _ ++ mjRows a b ca cb x _).length = _
    rw [List.length_append, ih]
    have h1 : (mjOne a b ca cb i (y.dropWhile (ltB a b ca cb i))).length = (y.filter (eqB a b ca cb i)).length := by
      unfold mjOne
      rw [List.length_map]
      have e1 := takeW_filter (f := nAt b cb) (n := nAt a ca i) hd (dropW_ge hy)
      have e2 := dropW_filter (f := nAt b cb) (n := nAt a ca i) (m := nAt a ca i) (Int.le_refl _) y
      exact congrArg List.length (e1.trans e2)
    have h2 : cntP a b ca cb x (y.dropWhile (ltB a b ca cb i)) = cntP a b ca cb x y := by
      unfold cntP
      congr 1
      refine List.map_congr_left fun k hk => ?_
      have e2 := dropW_filter (f := nAt b cb) (n := nAt a ca i) (m := nAt a ca k) (ge_of_head hx k hk) y
      exact congrArg List.length e2
    rw [h1, h2]
    simp [cntP]
theorem cnt_head (x : List Int) (j : Int) (y : List Int) : cntP a b ca cb x (j :: y) = (x.filter fun i => eqB a b ca cb i j).length + cntP a b ca cb x y := by
  induction x with
  | nil => rfl
  | cons i x ih =>
    have e1 : cntP a b ca cb (i :: x) (j :: y) = ((j :: y).filter (eqB a b ca cb i)).length + cntP a b ca cb x (j :: y) := by simp [cntP]
    have e2 : cntP a b ca cb (i :: x) y = (y.filter (eqB a b ca cb i)).length + cntP a b ca cb x y := by simp [cntP]
    rw [e1, e2, ih, List.filter_cons, List.filter_cons]
    by_cases h : eqB a b ca cb i j = true <;> simp [h] <;> omega
theorem cnt_comm : ∀ (y x : List Int), cntP a b ca cb x y = cntP b a cb ca y x
  | [], x => by
    have : ∀ x : List Int, cntP a b ca cb x [] = 0 := fun x => by induction x with
      | nil => rfl
      | cons i x ih => simpa [cntP] using ih
    rw [this]; rfl
  | j :: y, x => by
    rw [cnt_head, cnt_comm y x]
    have e : (fun i => eqB a b ca cb i j) = eqB b a cb ca j := funext fun i => by unfold eqB; rw [Bool.eq_iff_iff]; simp only [decide_eq_true_eq]; exact eq_comm
    rw [e]
    simp [cntP]
theorem idxOf_srt {rows : List Row1} {cn : Nat} : (idxOf rows cn).Pairwise (fun p q => nAt rows cn p ≤ nAt rows cn q) := by
  have h := gSort_ord (cAt_cm (rows := rows) (cn := cn) (fun _ => True)) (l := idxTo rows cn rows.length) (fun _ _ => trivial)
  refine List.Pairwise.imp ?_ h
  intro p q hpq
  unfold cAt at hpq
  exact (iCmp_le _ _).1 hpq
theorem mjAll_comm : (mjAll b a cb ca).length = (mjAll a b ca cb).length := by
  unfold mjAll
  rw [mjRows_cnt idxOf_srt idxOf_srt, mjRows_cnt idxOf_srt idxOf_srt, cnt_comm]
/-- The joined rows: both values are the same number. -/
theorem mjRows_eq : ∀ {x y : List Int}, ∀ r ∈ mjRows a b ca cb x y, ∃ i ∈ x, ∃ j ∈ y, r = catAt a b i j ∧ nAt b cb j = nAt a ca i
  | [], y, r, hr => by simp [mjRows] at hr
  | i :: x, y, r, hr => by
    have hs : ∀ j ∈ y.dropWhile (ltB a b ca cb i), j ∈ y := fun j hj => (List.dropWhile_suffix _).subset hj
    rcases List.mem_append.1 hr with h1 | h1
    · unfold mjOne at h1
      obtain ⟨j, hj, rfl⟩ := List.mem_map.1 h1
      have hm : ∀ (l : List Int), j ∈ l.takeWhile (eqB a b ca cb i) → eqB a b ca cb i j = true := fun l hl => by
        induction l with
        | nil => simp at hl
        | cons k l ih =>
          rw [List.takeWhile_cons] at hl
          split at hl
          · rcases List.mem_cons.1 hl with rfl | hl
            · assumption
            · exact ih hl
          · simp at hl
      exact ⟨i, by simp, j, hs j ((List.takeWhile_prefix _).subset hj), rfl, of_decide_eq_true (hm _ hj)⟩
    · obtain ⟨i', hi', j, hj, e⟩ := mjRows_eq r h1
      exact ⟨i', by simp [hi'], j, hs j hj, e⟩
end
end Go.Qo
