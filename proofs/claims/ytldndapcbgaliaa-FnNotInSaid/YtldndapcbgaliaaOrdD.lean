/-
  The order of valid rows of one width is a total order; sorted tables; the merge decides inclusion. Plain Lean.
-/
import Derived.Test.YtldndapcbgaliaaSetD
namespace Go.Qo
set_option linter.unusedVariables false
set_option linter.unusedSimpArgs false

theorem vCmp_anti {a b : Val} (ha : vValid a = true) (hb : vValid b = true) : vCmp b a = - vCmp a b := by
  obtain ⟨na, a⟩ := a
  obtain ⟨nb, b⟩ := b
  unfold vCmp
  unfold vValid at ha hb
  cases na <;> cases nb <;> simp_all
  by_cases h1 : a = b
  · subst h1; simp
  · rw [if_neg h1, if_neg (fun h => h1 h.symm)]
    by_cases h2 : a < b
    · rw [if_pos h2, if_neg (by omega)]; rfl
    · rw [if_neg h2, if_pos (by omega)]
theorem vCmp_trans {a b d : Val} (ha : vValid a = true) (hb : vValid b = true) (hd : vValid d = true) (h1 : vCmp a b < 0) (h2 : vCmp b d < 0) : vCmp a d < 0 := by
  obtain ⟨na, a⟩ := a
  obtain ⟨nb, b⟩ := b
  obtain ⟨nd, d⟩ := d
  unfold vCmp at *
  unfold vValid at ha hb hd
  cases na <;> cases nb <;> cases nd <;> simp_all
  all_goals
    by_cases e1 : a = b
    · rw [if_pos e1] at h1; omega
    by_cases e2 : b = d
    · rw [if_pos e2] at h2; omega
    rw [if_neg e1] at h1
    rw [if_neg e2] at h2
    by_cases l1 : a < b
    · by_cases l2 : b < d
      · rw [if_neg (by omega), if_pos (by omega)]; omega
      · rw [if_neg l2] at h2; omega
    · rw [if_neg l1] at h1; omega

def RowOk (W : Int) (r : Row1) : Prop := rowValid r = true ∧ (r.length : Int) = W
theorem RowOk.vals {W : Int} {r : Row1} (h : RowOk W r) : ∀ x ∈ r, vValid x = true := rowValid_vals h.1

theorem rCmp_zero : ∀ {a b : Row1}, a.length = b.length → (rCmp a b = 0 ↔ a = b)
  | [], [], _ => by simp [rCmp]
  | a :: as, b :: bs, h => by
    rw [rCmp]
    by_cases hv : vCmp a b = 0
    · have := vCmp_zero hv
      subst this
      rw [if_neg (by simpa using hv), rCmp_zero (by simpa using h)]
      simp
    · rw [if_pos hv]
      constructor
      · intro h0; exact absurd h0 hv
      · rintro h1; cases h1; exact absurd (vCmp_self _) hv
theorem rCmp_anti : ∀ {a b : Row1}, a.length = b.length → (∀ x ∈ a, vValid x = true) → (∀ x ∈ b, vValid x = true) → rCmp b a = - rCmp a b
  | [], [], _, _, _ => by simp [rCmp]
  | a :: as, b :: bs, h, ha, hb => by
    rw [rCmp, rCmp, vCmp_anti (ha a (by simp)) (hb b (by simp))]
    by_cases hv : vCmp a b = 0
    · rw [if_neg (by omega), if_neg (by omega)]
      exact rCmp_anti (by simpa using h) (fun x hx => ha x (by simp [hx])) (fun x hx => hb x (by simp [hx]))
    · rw [if_pos (by omega), if_pos (by omega)]
theorem rCmp_trans : ∀ {a b d : Row1}, a.length = b.length → b.length = d.length → (∀ x ∈ a, vValid x = true) → (∀ x ∈ b, vValid x = true) → (∀ x ∈ d, vValid x = true) → rCmp a b ≤ 0 → rCmp b d ≤ 0 → rCmp a d ≤ 0
  | [], [], [], _, _, _, _, _, _, _ => by simp [rCmp]
  | a :: as, b :: bs, d :: ds, h1, h2, ha, hb, hd, p, q => by
    rw [rCmp] at p q ⊢
    have va := ha a (by simp)
    have vb := hb b (by simp)
    have vd := hd d (by simp)
    by_cases e1 : vCmp a b = 0
    · have := vCmp_zero e1
      subst this
      rw [if_neg (by omega)] at p
      by_cases e2 : vCmp a d = 0
      · rw [if_neg (by omega)] at q ⊢
        exact rCmp_trans (by simpa using h1) (by simpa using h2) (fun x hx => ha x (by simp [hx])) (fun x hx => hb x (by simp [hx])) (fun x hx => hd x (by simp [hx])) p q
      · rw [if_pos e2] at q ⊢; exact q
    · rw [if_pos e1] at p
      have r1 := vCmp_range a b
      by_cases e2 : vCmp b d = 0
      · have := vCmp_zero e2
        subst this
        rw [if_pos e1]; exact p
      · rw [if_pos e2] at q
        have r2 := vCmp_range b d
        have := vCmp_trans va vb vd (by omega) (by omega)
        rw [if_pos (by omega)]; omega

section
variable {W : Int} {a b d : Row1}
theorem RowOk.len (ha : RowOk W a) (hb : RowOk W b) : a.length = b.length := by have := ha.2; have := hb.2; omega
theorem RowOk.zero (ha : RowOk W a) (hb : RowOk W b) : rCmp a b = 0 ↔ a = b := rCmp_zero (ha.len hb)
theorem RowOk.anti (ha : RowOk W a) (hb : RowOk W b) : rCmp b a = - rCmp a b := rCmp_anti (ha.len hb) ha.vals hb.vals
theorem RowOk.trans (ha : RowOk W a) (hb : RowOk W b) (hd : RowOk W d) (p : rCmp a b ≤ 0) (q : rCmp b d ≤ 0) : rCmp a d ≤ 0 := rCmp_trans (ha.len hb) (hb.len hd) ha.vals hb.vals hd.vals p q
theorem RowOk.rp (ha : RowOk W a) (hb : RowOk W b) : rpCmp a b = rCmp a b := rp_eq ha.1 hb.1 (ha.len hb)
end

/-- A sorted list of valid rows. -/
def Srt (W : Int) (rows : List Row1) : Prop := (∀ r ∈ rows, RowOk W r) ∧ rows.Pairwise (fun a b => rCmp a b ≤ 0)
theorem Srt.of_consec {W : Int} : ∀ {rows : List Row1}, (∀ r ∈ rows, RowOk W r) → (∀ (i : Nat) (a b : Row1), rows[i]? = some a → rows[i + 1]? = some b → rCmp a b ≤ 0) → Srt W rows
  | [], h, _ => ⟨h, List.Pairwise.nil⟩
  | [x], h, _ => ⟨h, by simp⟩
  | x :: y :: rest, h, hc => by
    have ih := Srt.of_consec (rows := y :: rest) (fun r hr => h r (List.mem_cons_of_mem _ hr)) fun i a b ha hb => hc (i + 1) a b (by simpa using ha) (by simpa using hb)
    refine ⟨h, List.Pairwise.cons (fun z hz => ?_) ih.2⟩
    have hxy := hc 0 x y rfl rfl
    rcases List.mem_cons.1 hz with rfl | hz
    · exact hxy
    · exact (h x (by simp)).trans (h y (by simp)) (h z (by simp [hz])) hxy ((List.pairwise_cons.1 ih.2).1 z hz)
theorem TabOk.srt {W : Int} {rows : List Row1} (h : TabOk W rows) : Srt W rows := Srt.of_consec h.2.2.2.1 h.2.2.2.2
theorem Srt.tail {W : Int} {x : Row1} {rows : List Row1} (h : Srt W (x :: rows)) : Srt W rows := ⟨fun r hr => h.1 r (List.mem_cons_of_mem _ hr), (List.pairwise_cons.1 h.2).2⟩
theorem Srt.head {W : Int} {x : Row1} {rows : List Row1} (h : Srt W (x :: rows)) : ∀ y ∈ rows, rCmp x y ≤ 0 := (List.pairwise_cons.1 h.2).1
theorem Srt.drop {W : Int} {rows : List Row1} (h : Srt W rows) (p : Row1 → Bool) : Srt W (rows.dropWhile p) :=
  ⟨fun r hr => h.1 r ((List.dropWhile_sublist _).subset hr), h.2.sublist (List.dropWhile_sublist _)⟩

theorem cnt_cons {rows : List Row1} {x r : Row1} : cnt (x :: rows) r = (if rCmp x r = 0 then 1 else 0) + cnt rows r := by
  unfold cnt
  by_cases h : rCmp x r = 0 <;> simp [List.filter_cons, h]; omega
theorem cnt_zero {rows : List Row1} {r : Row1} (h : ∀ x ∈ rows, rCmp x r ≠ 0) : cnt rows r = 0 := by
  unfold cnt
  rw [List.length_eq_zero_iff, List.filter_eq_nil_iff]
  intro x hx
  simp [h x hx]
theorem cnt_append {xs ys : List Row1} {r : Row1} : cnt (xs ++ ys) r = cnt xs r + cnt ys r := by
  unfold cnt; rw [List.filter_append, List.length_append]

/-- What lies before the first row that is not less. -/
theorem Srt.cnt_drop {W : Int} {rows : List Row1} (h : Srt W rows) {a x : Row1} (ha : RowOk W a) (hx : RowOk W x) (hax : rCmp a x ≤ 0) :
    cnt (rows.dropWhile fun b => decide (rpCmp b a < 0)) x = cnt rows x := by
  induction rows with
  | nil => rfl
  | cons y ys ih =>
    rw [List.dropWhile_cons]
    have hy := h.1 y (by simp)
    split
    · rename_i hlt
      have hlt : rCmp y a < 0 := by rw [hy.rp ha] at hlt; simpa using hlt
      rw [ih h.tail, cnt_cons, if_neg]
      · omega
      · intro h0
        have := (hy.zero hx).1 h0
        subst this
        have := ha.anti hy
        omega
    · rfl

theorem merged_all {W : Int} : ∀ {xs ys : List Row1}, Srt W xs → Srt W ys → ((merged xs ys).all (·.2) = true ↔ ∀ x ∈ xs, cnt xs x ≤ cnt ys x)
  | [], ys, _, _ => by simp [merged]
  | a :: xs, ys, hx, hy => by
    have ha := hx.1 a (by simp)
    have hdrop : ∀ x ∈ a :: xs, cnt (ys.dropWhile fun b => decide (rpCmp b a < 0)) x = cnt ys x := fun x hxm => by
      refine hy.cnt_drop ha (hx.1 x hxm) ?_
      rcases List.mem_cons.1 hxm with rfl | h
      · rw [(ha.zero ha).2 rfl]; omega
      · exact hx.head x h
    have hys := hy.drop (fun b => decide (rpCmp b a < 0))
    have haa : rCmp a a = 0 := (ha.zero ha).2 rfl
    rw [merged]
    cases hd : ys.dropWhile (fun b => decide (rpCmp b a < 0)) with
    | nil =>
      rw [hd] at hdrop
      constructor
      · intro h; simp at h
      · intro h
        have h1 := h a (by simp)
        rw [← hdrop a (by simp), cnt_nil, cnt_cons, if_pos haa] at h1
        omega
    | cons b bs =>
      rw [hd] at hdrop hys
      have hb := hys.1 b (by simp)
      have hnb : ¬ rCmp b a < 0 := by
        have h1 := List.head_dropWhile_not (fun b => decide (rpCmp b a < 0)) (l := ys) (by rw [hd]; simp)
        simp only [hd, List.head_cons] at h1
        rw [hb.rp ha] at h1
        simpa using h1
      simp only [hb.rp ha]
      by_cases h0 : rCmp b a = 0
      · rw [if_pos h0]
        have e := (hb.zero ha).1 h0
        subst e
        rw [List.all_cons, Bool.true_and, merged_all hx.tail hys.tail]
        constructor
        · intro h x hxm
          rw [← hdrop x hxm, cnt_cons, cnt_cons]
          rcases List.mem_cons.1 hxm with rfl | hxm
          · by_cases hm : x ∈ xs
            · have := h x hm; omega
            · have : cnt xs x = 0 := cnt_zero fun z hz h1 => by
                have := ((hx.1 z (by simp [hz])).zero ha).1 h1
                subst this; exact hm hz
              omega
          · have := h x hxm; omega
        · intro h x hxm
          have := h x (by simp [hxm])
          rw [← hdrop x (by simp [hxm]), cnt_cons, cnt_cons] at this
          omega
      · rw [if_neg h0]
        constructor
        · intro h; simp at h
        · intro h
          have h1 := h a (by simp)
          have h2 : cnt (b :: bs) a = 0 := cnt_zero fun z hz h3 => by
            have hz' := hys.1 z hz
            have := (hz'.zero ha).1 h3
            subst this
            rcases List.mem_cons.1 hz with rfl | hz
            · exact h0 h3
            · have := hys.head z hz; omega
          rw [← hdrop a (by simp), h2, cnt_cons, if_pos haa] at h1
          omega


/-! ### Rows sorted by keys -/
theorem vCmp_anti' {a b : Val} (ha : vValid a = true) (hb : vValid b = true) : vCmp b a = - vCmp a b := vCmp_anti ha hb

end Go.Qo
