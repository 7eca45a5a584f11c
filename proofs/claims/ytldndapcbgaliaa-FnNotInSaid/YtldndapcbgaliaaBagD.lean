/-
  Bags of rows, in plain Lean: what the merge marks; tables that hold the same rows are the same.
-/
import Derived.Test.YtldndapcbgaliaaOrdD
namespace Go.Qo
set_option linter.unusedVariables false
set_option linter.unusedSimpArgs false

/-- Sorted rows with the same bag are the same. -/
theorem srt_unique {W : Int} : ∀ {xs ys : List Row1}, (∀ r ∈ xs, RowOk W r) → xs.Perm ys → xs.Pairwise (fun a b => rCmp a b ≤ 0) → ys.Pairwise (fun a b => rCmp a b ≤ 0) → xs = ys
  | [], ys, _, hp, _, _ => by rw [List.nil_perm.1 hp]
  | x :: xs, [], _, hp, _, _ => by simp at hp
  | x :: xs, y :: ys, hr, hp, h1, h2 => by
    have hx : RowOk W x := hr x (by simp)
    have hy : RowOk W y := hr y (hp.mem_iff.2 (by simp))
    have e : x = y := by
      have hxy : rCmp x y ≤ 0 := by
        rcases List.mem_cons.1 (hp.mem_iff.2 (show y ∈ y :: ys by simp)) with h | h
        · rw [h, (hx.zero hx).2 rfl]; omega
        · exact (List.pairwise_cons.1 h1).1 y h
      have hyx : rCmp y x ≤ 0 := by
        rcases List.mem_cons.1 (hp.mem_iff.1 (show x ∈ x :: xs by simp)) with h | h
        · rw [h, (hy.zero hy).2 rfl]; omega
        · exact (List.pairwise_cons.1 h2).1 x h
      have := hx.anti hy
      exact (hx.zero hy).1 (by omega)
    subst e
    rw [srt_unique (fun r h => hr r (by simp [h])) ((List.perm_cons x).1 hp) (List.pairwise_cons.1 h1).2 (List.pairwise_cons.1 h2).2]

theorem cnt_nil' (r : Row1) : cnt [] r = 0 := rfl
theorem cnt_self {W : Int} {a x : Row1} (ha : RowOk W a) (hx : RowOk W x) : (if rCmp a x = 0 then 1 else 0) = if a = x then 1 else 0 := by
  by_cases h : a = x
  · rw [if_pos h, if_pos ((ha.zero hx).2 h)]
  · rw [if_neg h, if_neg fun e => h ((ha.zero hx).1 e)]
/-- A row is marked where there are more of it in ys than ahead of it. -/
theorem merged_flag {W : Int} : ∀ {xs ys : List Row1}, Srt W xs → Srt W ys → ∀ (i : Nat) (x : Row1), xs[i]? = some x → (merged xs ys)[i]? = some (x, decide (cnt (xs.take i) x < cnt ys x))
  | [], ys, _, _, i, x, h => by simp at h
  | a :: xs, ys, hx, hy, i, x, hi => by
    have ha := hx.1 a (by simp)
    have hxm := List.mem_of_getElem? hi
    have hxo := hx.1 x hxm
    have hax : rCmp a x ≤ 0 := by
      rcases List.mem_cons.1 hxm with rfl | h
      · rw [(ha.zero ha).2 rfl]; omega
      · exact hx.head x h
    have hdrop := hy.cnt_drop ha hxo hax
    have hys := hy.drop (fun b => decide (rpCmp b a < 0))
    rw [merged]
    cases hd : ys.dropWhile (fun b => decide (rpCmp b a < 0)) with
    | nil =>
      rw [hd, cnt_nil'] at hdrop
      cases i with
      | zero =>
        simp only [List.getElem?_cons_zero, Option.some.injEq] at hi
        subst hi
        simp [← hdrop]
      | succ i =>
        have ih := merged_flag (ys := []) hx.tail ⟨by simp, List.Pairwise.nil⟩ i x (by simpa using hi)
        simp only [List.getElem?_cons_succ, ih, cnt_nil', ← hdrop]
        simp
    | cons b bs =>
      rw [hd] at hdrop hys
      have hb := hys.1 b (by simp)
      have hnb : ¬ rCmp b a < 0 := by
        have h1 := List.head_dropWhile_not (fun b => decide (rpCmp b a < 0)) (l := ys) (by rw [hd]; simp)
        simp only [hd, List.head_cons] at h1
        rw [hb.rp ha] at h1
        simpa using h1
      simp only [hb.rp ha]
      by_cases h0 : rCmp b a = 0
      · rw [if_pos h0]
        have e := (hb.zero ha).1 h0
        subst e
        cases i with
        | zero =>
          simp only [List.getElem?_cons_zero, Option.some.injEq] at hi
          subst hi
          have : cnt (b :: bs) b ≠ 0 := by rw [cnt_cons, if_pos h0]; omega
          simp [← hdrop, cnt_nil', Nat.pos_of_ne_zero this]
        | succ i =>
          have ih := merged_flag hx.tail hys.tail i x (by simpa using hi)
          simp only [List.getElem?_cons_succ, ih, List.take_succ_cons, ← hdrop, cnt_cons, Option.some.injEq, Prod.mk.injEq, true_and]
          congr 1
          simp
      · rw [if_neg h0]
        have hz : cnt (b :: bs) a = 0 := cnt_zero fun z hz h3 => by
          have hz' := hys.1 z hz
          have := (hz'.zero ha).1 h3
          subst this
          rcases List.mem_cons.1 hz with rfl | hz
          · exact h0 h3
          · have := hys.head z hz; omega
        cases i with
        | zero =>
          simp only [List.getElem?_cons_zero, Option.some.injEq] at hi
          subst hi
          simp [← hdrop, hz]
        | succ i =>
          have ih := merged_flag hx.tail hys i x (by simpa using hi)
          simp only [List.getElem?_cons_succ, ih, List.take_succ_cons, ← hdrop, Option.some.injEq, Prod.mk.injEq, true_and]
          have hk := cnt_cons (rows := xs.take i) (x := a) (r := x)
          rw [hk]
          clear hk
          by_cases e : rCmp a x = 0
          · have e2 := (ha.zero hxo).1 e
            subst e2
            rw [hz]
            simp
          · rw [if_neg e, Nat.zero_add]

/-- What the reference keeps of the rows ahead of k. -/
def bagL (common : Bool) (ys : List Row1) (pre acc : List Row1) : List Row1 → List Row1
  | [] => acc
  | x :: xs => bagL common ys (pre ++ [x]) (if (common && decide (cnt acc x < cnt ys x)) || (!common && decide (cnt ys x ≤ cnt pre x)) then acc ++ [x] else acc) xs
def bagR (common : Bool) (xs ys : List Row1) : List Row1 := bagL common ys [] [] xs
theorem bagL_snoc (common : Bool) (ys : List Row1) (x : Row1) : ∀ (xs pre acc : List Row1), bagL common ys pre acc (xs ++ [x]) =
    if (common && decide (cnt (bagL common ys pre acc xs) x < cnt ys x)) || (!common && decide (cnt ys x ≤ cnt (pre ++ xs) x)) then bagL common ys pre acc xs ++ [x] else bagL common ys pre acc xs
  | [], pre, acc => by
    simp only [List.nil_append, bagL, List.append_nil]
    first | rfl | (congr 1)
  | y :: xs, pre, acc => by
    have ih := bagL_snoc common ys x xs
    simp only [List.cons_append, bagL]
    have e : pre ++ [y] ++ xs = pre ++ y :: xs := by simp
    rw [ih, e]
    first | rfl | (congr 1)
theorem bagR_snoc (common : Bool) (xs ys : List Row1) (x : Row1) : bagR common (xs ++ [x]) ys =
    if (common && decide (cnt (bagR common xs ys) x < cnt ys x)) || (!common && decide (cnt ys x ≤ cnt xs x)) then bagR common xs ys ++ [x] else bagR common xs ys := by
  unfold bagR
  rw [bagL_snoc]
  simp
theorem bagR_mem (common : Bool) (ys : List Row1) : ∀ xs : List Row1, ∀ r ∈ bagR common xs ys, r ∈ xs := by
  intro xs
  suffices H : ∀ n, ∀ r ∈ bagR common (xs.take n) ys, r ∈ xs by simpa using H xs.length
  intro n
  induction n with
  | zero => intro r hr; simp [bagR, bagL] at hr
  | succ n ih =>
    rw [List.take_add_one]
    cases hx : xs[n]? with
    | none => simpa using ih
    | some x =>
      intro r hr
      simp only [Option.toList_some] at hr
      rw [bagR_snoc] at hr
      split at hr
      · rcases List.mem_append.1 hr with h | h
        · exact ih r h
        · simp only [List.mem_singleton] at h; subst h; exact List.mem_of_getElem? hx
      · exact ih r hr
theorem bagR_length (common : Bool) (ys : List Row1) : ∀ xs : List Row1, (bagR common xs ys).length ≤ xs.length := by
  intro xs
  suffices H : ∀ n, (bagR common (xs.take n) ys).length ≤ (xs.take n).length by simpa using H xs.length
  intro n
  induction n with
  | zero => simp [bagR, bagL]
  | succ n ih =>
    rw [List.take_add_one]
    cases hx : xs[n]? with
    | none => simpa using ih
    | some x =>
      simp only [Option.toList_some]
      rw [bagR_snoc, List.length_append]
      split
      · rw [List.length_append]; simpa using ih
      · simp only [List.length_singleton]; omega
/-- It is what the merge keeps. -/
theorem bagR_merged {W : Int} (common : Bool) {xs ys : List Row1} (hx : Srt W xs) (hy : Srt W ys) : bagR common xs ys = ((merged xs ys).filter fun r => r.2 == common).map (·.1) := by
  have hlen : (merged xs ys).length = xs.length := by
    have : ∀ xs ys : List Row1, (merged xs ys).length = xs.length := by
      intro xs
      induction xs with
      | nil => intro ys; simp [merged]
      | cons a xs ih =>
        intro ys
        unfold merged
        split
        · simp [ih]
        · split <;> simp [ih]
    exact this xs ys
  have hcnt : ∀ (l : List (Row1 × Bool)) (x : Row1) (b : Bool), cnt ((l ++ [(x, b)]).map (·.1)) x = cnt (l.map (·.1)) x + if rCmp x x = 0 then 1 else 0 := fun l x b => by
    rw [List.map_append, cnt_append]
    simp only [List.map_cons, List.map_nil, cnt_cons, cnt_nil']
    omega
  suffices H : ∀ n, n ≤ xs.length → bagR common (xs.take n) ys = (((merged xs ys).take n).filter fun r => r.2 == common).map (·.1) ∧
      (common = true → ∀ z, RowOk W z → cnt (bagR common (xs.take n) ys) z = min (cnt (xs.take n) z) (cnt ys z)) by
    have := (H xs.length (Nat.le_refl _)).1
    rwa [List.take_length, List.take_of_length_le (by omega)] at this
  intro n
  induction n with
  | zero => intro _; exact ⟨by simp [bagR, bagL], fun _ z _ => by simp [bagR, bagL, cnt_nil']⟩
  | succ n ih =>
    intro hn
    obtain ⟨ih1, ih2⟩ := ih (by omega)
    obtain ⟨x, hxn⟩ : ∃ x, xs[n]? = some x := ⟨_, List.getElem?_eq_getElem (by omega)⟩
    have hxo := hx.1 x (List.mem_of_getElem? hxn)
    have hm := merged_flag hx hy n x hxn
    have hxx : rCmp x x = 0 := (hxo.zero hxo).2 rfl
    rw [List.take_add_one, hxn, List.take_add_one, hm]
    simp only [Option.toList_some]
    rw [bagR_snoc, List.filter_append, List.map_append, ← ih1]
    cases common with
    | false =>
      refine ⟨?_, fun h => by cases h⟩
      simp only [Bool.false_and, Bool.not_false, Bool.true_and, Bool.false_or]
      by_cases h : cnt ys x ≤ cnt (xs.take n) x
      · have h2 : ¬ cnt (xs.take n) x < cnt ys x := by omega
        simp [h, h2]
      · have h2 : cnt (xs.take n) x < cnt ys x := by omega
        simp [h, h2]
    | true =>
      have hc := ih2 rfl x hxo
      simp only [Bool.true_and, Bool.not_true, Bool.false_and, Bool.or_false]
      by_cases h : cnt (xs.take n) x < cnt ys x
      · have h2 : cnt (bagR true (xs.take n) ys) x < cnt ys x := by omega
        refine ⟨by simp [h, h2], fun _ z hz => ?_⟩
        rw [if_pos (by simpa using h2), cnt_append, cnt_append, ih2 rfl z hz, cnt_cons, cnt_nil']
        by_cases hxz : rCmp x z = 0
        · have := (hxo.zero hz).1 hxz
          subst this
          rw [if_pos hxz]
          omega
        · rw [if_neg hxz]
          omega
      · have h2 : ¬ cnt (bagR true (xs.take n) ys) x < cnt ys x := by omega
        refine ⟨by simp [h, h2], fun _ z hz => ?_⟩
        rw [if_neg (by simpa using h2), cnt_append, ih2 rfl z hz, cnt_cons, cnt_nil']
        by_cases hxz : rCmp x z = 0
        · have := (hxo.zero hz).1 hxz
          subst this
          rw [if_pos hxz]
          omega
        · rw [if_neg hxz]
          omega
end Go.Qo
