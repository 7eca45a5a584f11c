/-
  An estimate is at most the bound for the number of rows: in plain Lean.
-/
import Derived.Test.YtnecmacjlggkeaaEsd
namespace Go.Qo
set_option linter.unusedVariables false
set_option linter.unusedSimpArgs false

theorem stAt_rows (ss : List St) (t : Int) : (stAt ss t).rows = (ss.map St.rows).getD t.toNat 0 := by
  unfold stAt
  rw [List.getD_eq_getElem?_getD, List.getD_eq_getElem?_getD, List.getElem?_map]
  by_cases ht : t.toNat < ss.length
  · rw [List.getElem?_eq_getElem ht]; rfl
  · rw [List.getElem?_eq_none (by omega)]; rfl
theorem csOk_of {ss : List St} (h : SsOk ss) : CsOk (ss.map St.rows) := fun x hx => by
  obtain ⟨s, hs, rfl⟩ := List.mem_map.1 hx
  have := (h s hs).1
  omega
theorem at0_kid (f : Pl → Int) (p : Pl) (i : Nat) : at0 (p.kids.map f) i = kidW f p i := by
  unfold at0 kidW
  rw [List.getD_eq_getElem?_getD, List.getElem?_map]
  cases p.kids[i]? <;> rfl
theorem est_le_bd {ss : List St} (h : SsOk ss) (ws : List Int) : ∀ p : Pl, ∀ d, plW ws d p ≠ 0 → p.est ss ≤ bdW (ss.map St.rows) (d + 1) p := Pl.ind fun p ih d hv => by
  have hc := csOk_of h
  have hr := est_range h p
  rw [est_eq] at hr ⊢
  rw [bdW]
  have hk0 : ∀ i, 0 ≤ at0 (p.kids.map (Pl.est ss)) i ∧ at0 (p.kids.map (Pl.est ss)) i ≤ kidW (bdW (ss.map St.rows) d) p i := fun i => by
    refine ⟨(at0_mapP (m := 1000000000) (by decide) fun x _ => est_range h x).1, ?_⟩
    rw [at0_kid]
    unfold kidW
    split
    · rename_i x hx
      have hm := List.mem_of_getElem? hx
      obtain ⟨_, k, rfl, hv2⟩ := plW_kids hv hm
      exact ih x hm k hv2
    · omega
  have h0 := hk0 0
  have h1 := hk0 1
  have hb0 : kidW (bdW (ss.map St.rows) d) p 0 ≤ 1000000000 := by
    unfold kidW
    split
    · exact (bdW_range hc d _).2
    · omega
  unfold topE at hr ⊢
  unfold topB
  generalize at0 (p.kids.map (Pl.est ss)) 0 = a at *
  generalize at0 (p.kids.map (Pl.est ss)) 1 = b at *
  generalize kidW (bdW (ss.map St.rows) d) p 0 = n at *
  generalize kidW (bdW (ss.map St.rows) d) p 1 = m at *
  by_cases hk1 : p.kind = 1
  · rw [if_pos hk1, if_pos hk1, stAt_rows]
    exact Int.le_refl _
  rw [if_neg hk1] at hr
  rw [if_neg hk1, if_neg hk1]
  by_cases hk2 : p.kind = 2
  · rw [if_pos hk2] at hr ⊢
    have := scale_le h0.1 (show 0 ≤ fltP ss (kidE p.exprs 0) (kidP p.kids 0) ∧ fltP ss (kidE p.exprs 0) (kidP p.kids 0) ≤ 1000 by unfold fltP; split; exact (stAt_ok h _).2 _; exact fixed_range _)
    rw [if_neg (by omega), if_neg (by omega), if_neg (by omega), if_neg (by omega)]
    omega
  rw [if_neg hk2] at hr ⊢
  have hmul := mul_le h0 h1
  by_cases hk4 : p.kind = 4
  · rw [if_pos hk4] at hr ⊢
    rw [if_pos hk4]
    have := scale_le (show 0 ≤ min (a * b) 1000000000 by omega) (fixed_range (kidE p.exprs 0))
    omega
  rw [if_neg hk4] at hr ⊢
  rw [if_neg hk4]
  by_cases hk5 : p.kind = 5
  · rw [if_pos hk5] at hr ⊢
    rw [if_pos hk5]
    have h2 := scale_le (show 0 ≤ min (a * b) 1000000000 by omega) (fixed_range (kidE p.exprs 0))
    have h3 := mul_le h0 (show 0 ≤ b ∧ b ≤ max 1 m by omega)
    have h4 := mul_le h0 (show (0 : Int) ≤ 1 ∧ 1 ≤ max 1 m by omega)
    rw [Int.mul_one] at h4
    omega
  rw [if_neg hk5] at hr ⊢
  rw [if_neg hk5]
  by_cases hk6 : p.kind = 6
  · rw [if_pos hk6] at hr ⊢
    rw [if_pos hk6]
    omega
  rw [if_neg hk6] at hr ⊢
  rw [if_neg hk6]
  by_cases hk8 : p.kind = 8 ∧ p.cols.length = 0
  · rw [if_pos hk8] at hr ⊢
    rw [if_pos hk8]
    omega
  · rw [if_neg hk8] at hr ⊢
    rw [if_neg hk8]
    omega
end Go.Qo
