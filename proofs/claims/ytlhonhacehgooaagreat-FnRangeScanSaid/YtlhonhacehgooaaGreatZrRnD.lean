/-
  The range to which an expression restricts a column: in plain Lean.
-/
import Derived.Test.YtlhonhacehgooaaGreatZrEvp
namespace Go.Qo
set_option linter.unusedVariables false
set_option linter.unusedSimpArgs false

def kidE (e : Ex) (i : Nat) : Ex := e.kids.getD i (.mk 0 0 (false, 0) [])
theorem kidE_at {e : Ex} {i : Nat} (h : i < e.kids.length) : kidE e i = e.kids[i] := by unfold kidE; rw [List.getD_eq_getElem?_getD, List.getElem?_eq_getElem h]; rfl
mutual
/-- The parts of a conjunction. -/
def conj : Ex → List Ex
  | .mk k c v ks => if k = 8 then conjs ks else [.mk k c v ks]
def conjs : List Ex → List Ex
  | [] => []
  | e :: es => conj e ++ conjs es
end
theorem conj_eq (e : Ex) : conj e = if e.kind = 8 then conjs e.kids else [e] := by
  obtain ⟨k, c, v, ks⟩ := e
  rw [conj]; rfl
theorem conjs_flat : ∀ es : List Ex, conjs es = es.flatMap conj
  | [] => by simp [conjs]
  | e :: es => by rw [conjs, conjs_flat es, List.flatMap_cons]
def rstr (col : Int) (e : Ex) : Option (Int × Int) :=
  if e.kind = 6 ∨ e.kind = 7 then
    (if (kidE e 0).kind = 1 then (if (kidE e 0).col = col ∧ (kidE e 1).kind = 2 then some (if (kidE e 1).val.1 then (1, 0) else if e.kind = 6 then ((kidE e 1).val.2, (kidE e 1).val.2) else (-9999, (kidE e 1).val.2 - 1)) else none)
    else if (kidE e 1).kind = 1 ∧ (kidE e 1).col = col ∧ (kidE e 0).kind = 2 then some (if (kidE e 0).val.1 then (1, 0) else if e.kind = 6 then ((kidE e 0).val.2, (kidE e 0).val.2) else ((kidE e 0).val.2 + 1, 9999)) else none)
  else none
def meetR (a b : Int × Int) : Int × Int := (max a.1 b.1, min a.2 b.2)
/-- One more part. -/
def rngS (col : Int) (s : (Int × Int) × Bool) (e : Ex) : (Int × Int) × Bool := match rstr col e with | some r => (meetR s.1 r, true) | none => s
def rngA (col : Int) (s : (Int × Int) × Bool) (es : List Ex) : (Int × Int) × Bool := es.foldl (rngS col) s
def rngO (col : Int) (e : Ex) : (Int × Int) × Bool := rngA col ((-9999, 9999), false) (conj e)
def hasV (r : Int × Int) (v : Val) : Bool := !v.1 && decide (r.1 ≤ v.2) && decide (v.2 ≤ r.2)

theorem conj_holds {row : Row1} {W : Int} : ∀ (e : Ex) (d : Int), ExOk W d e → holdsE e row = true → ∀ x ∈ conj e, holdsE x row = true ∧ ∃ d', ExOk W d' x := Ex.ind fun e ih d h hh x hx => by
  rw [conj_eq] at hx
  by_cases hk : e.kind = 8
  · rw [if_pos hk, conjs_flat] at hx
    obtain ⟨k, hkm, hx⟩ := List.mem_flatMap.1 hx
    obtain ⟨h1, h2, h3, h4⟩ := exOk_iff.1 h
    have hl : e.kids.length = 2 := by rw [hk] at h1; simp [kidsK] at h1; omega
    refine ih k hkm _ (h3 k hkm) ?_ x hx
    unfold holdsE at hh ⊢
    have e1 : exVal row e = ofTr (min (trI (exVal row e.kids[0])) (trI (exVal row e.kids[1]))) := by
      rw [exVal_eq, kidV_at (by omega), kidV_at (by omega), hk]
      unfold topV combV
      rw [if_neg (by decide), if_neg (by decide), if_neg (by decide), if_neg (by decide), if_pos rfl]
    have r0 := trI_range (exVal row e.kids[0])
    have r1 := trI_range (exVal row e.kids[1])
    have tr : ∀ t : Int, 0 ≤ t ∧ t ≤ 2 → trI (ofTr t) = t := fun t ht => by
      have : t = 0 ∨ t = 1 ∨ t = 2 := by omega
      rcases this with rfl | rfl | rfl <;> rfl
    rw [e1, tr _ (by omega)] at hh
    have hh : min (trI (exVal row e.kids[0])) (trI (exVal row e.kids[1])) = 2 := by simpa using hh
    obtain ⟨i, hi, rfl⟩ := List.getElem_of_mem hkm
    have : i = 0 ∨ i = 1 := by omega
    rcases this with rfl | rfl
    · simp; omega
    · simp; omega
  · rw [if_neg hk] at hx
    simp only [List.mem_singleton] at hx
    subst hx
    exact ⟨hh, d, h⟩
/-- Where a comparison is true, the value is in its range. -/
theorem rstr_has {row : Row1} {W : Int} (hr : RowOk W row) {e : Ex} {d : Int} (h : ExOk W d e) (hh : holdsE e row = true) {col : Int} {r : Int × Int} (he : rstr col e = some r) : hasV r (getV row col) = true := by
  unfold rstr at he
  split at he
  · rename_i hk
    obtain ⟨h1, h2, h3, h4⟩ := exOk_iff.1 h
    have hl : e.kids.length = 2 := by rcases hk with hk | hk <;> rw [hk] at h1 <;> simp [kidsK] at h1 <;> omega
    have e1 : exVal row e = combV e.kind (exVal row (kidE e 0)) (exVal row (kidE e 1)) := by
      rw [exVal_eq, kidV_at (by omega), kidV_at (by omega), kidE_at (by omega), kidE_at (by omega)]
      unfold topV
      rw [if_neg (by omega), if_neg (by omega), if_neg (by omega), if_neg (by omega)]
    have hv0 : ExOk W (d - 1) (kidE e 0) := by rw [kidE_at (by omega)]; exact h3 _ (List.getElem_mem _)
    have hv1 : ExOk W (d - 1) (kidE e 1) := by rw [kidE_at (by omega)]; exact h3 _ (List.getElem_mem _)
    have vcol : ∀ x : Ex, x.kind = 1 → exVal row x = getV row x.col := fun x hx => by rw [exVal_eq]; unfold topV; rw [if_pos hx]
    have vcon : ∀ x : Ex, x.kind = 2 → exVal row x = x.val := fun x hx => by rw [exVal_eq]; unfold topV; rw [if_neg (by omega), if_pos hx]
    have hcv : ∀ x : Ex, x.kind = 1 → ExOk W (d - 1) x → vValid (getV row x.col) = true := fun x hx ho => by rw [← vcol x hx]; exact exVal_valid hr x _ ho
    unfold holdsE at hh
    rw [e1] at hh
    have cmb : ∀ a b : Val, trI (combV e.kind a b) = 2 → a.1 = false ∧ b.1 = false ∧ (e.kind = 6 → a.2 = b.2) ∧ (e.kind = 7 → a.2 < b.2) := fun a b hc => by
      unfold combV at hc
      rw [if_neg (by omega), if_neg (by omega)] at hc
      split at hc
      · simp [trI] at hc
      · rename_i hn
        rw [if_neg (by omega), if_neg (by omega), if_neg (by omega)] at hc
        have hn' : a.1 = false ∧ b.1 = false := by simpa using hn
        refine ⟨hn'.1, hn'.2, fun h6 => ?_, fun h7 => ?_⟩
        · rw [if_pos h6] at hc
          by_cases h : a.2 = b.2
          · exact h
          · simp [h, flagV, trI] at hc
        · rw [if_neg (by omega)] at hc
          by_cases h : a.2 < b.2
          · exact h
          · simp [h, flagV, trI] at hc
    obtain ⟨ca, cb, c6, c7⟩ := cmb _ _ (by simpa using hh)
    have fin : ∀ v : Val, v.1 = false → r.1 ≤ v.2 → v.2 ≤ r.2 → hasV r v = true := fun v h1 h2 h3 => by unfold hasV; simp [h1, h2, h3]
    split at he
    · rename_i hc0
      split at he
      · rename_i hc1
        have hcr := vValid_range (hcv _ hc0 hv0)
        rw [vcol _ hc0, hc1.1] at ca c6 c7
        rw [hc1.1] at hcr
        rw [vcon _ hc1.2] at cb c6 c7
        rw [cb] at he
        simp only [Bool.false_eq_true, if_false, Option.some.injEq] at he
        subst he
        by_cases h6 : e.kind = 6
        · have := c6 h6; exact fin _ ca (by simp only [if_pos h6]; omega) (by simp only [if_pos h6]; omega)
        · have := c7 (by omega); exact fin _ ca (by simp only [if_neg h6]; omega) (by simp only [if_neg h6]; omega)
      · cases he
    · split at he
      · rename_i hc1
        have hcr := vValid_range (hcv _ hc1.1 hv1)
        rw [vcol _ hc1.1, hc1.2.1] at cb c6 c7
        rw [hc1.2.1] at hcr
        rw [vcon _ hc1.2.2] at ca c6 c7
        rw [ca] at he
        simp only [Bool.false_eq_true, if_false, Option.some.injEq] at he
        subst he
        by_cases h6 : e.kind = 6
        · have := c6 h6; exact fin _ cb (by simp only [if_pos h6]; omega) (by simp only [if_pos h6]; omega)
        · have := c7 (by omega); exact fin _ cb (by simp only [if_neg h6]; omega) (by simp only [if_neg h6]; omega)
      · cases he
  · cases he
theorem hasV_meet {a b : Int × Int} {v : Val} (h1 : hasV a v = true) (h2 : hasV b v = true) : hasV (meetR a b) v = true := by
  unfold hasV meetR at *
  simp only [Bool.and_eq_true, Bool.not_eq_true', decide_eq_true_eq] at *
  exact ⟨⟨h1.1.1, by omega⟩, by omega⟩
theorem rngA_has {v : Val} {col : Int} : ∀ {es : List Ex} {s : (Int × Int) × Bool}, hasV s.1 v = true → (∀ e ∈ es, ∀ r, rstr col e = some r → hasV r v = true) → hasV (rngA col s es).1 v = true
  | [], s, h, _ => h
  | e :: es, s, h, hr => by
    show hasV (rngA col (rngS col s e) es).1 v = true
    refine rngA_has ?_ fun x hx => hr x (by simp [hx])
    unfold rngS
    split
    · rename_i r he; exact hasV_meet h (hr e (by simp) r he)
    · exact h
theorem rngA_found {col : Int} : ∀ {es : List Ex} {s : (Int × Int) × Bool}, s.2 = false → (rngA col s es).2 = true → ∃ e ∈ es, ∃ r, rstr col e = some r
  | [], s, h, h2 => by rw [show rngA col s [] = s from rfl, h] at h2; cases h2
  | e :: es, s, h, h2 => by
    cases he : rstr col e with
    | some r => exact ⟨e, by simp, r, he⟩
    | none =>
      have : rngS col s e = s := by unfold rngS; rw [he]
      have h2 : (rngA col (rngS col s e) es).2 = true := h2
      rw [this] at h2
      obtain ⟨x, hx, r⟩ := rngA_found h h2
      exact ⟨x, by simp [hx], r⟩
/-- Where the expression is true, the value is in its range (if it restricts the column at all). -/
theorem rngO_has {row : Row1} {W : Int} (hr : RowOk W row) {e : Ex} {d : Int} (h : ExOk W d e) (hh : holdsE e row = true) {col : Int} (hcol : 0 ≤ col ∧ col < W) (hf : (rngO col e).2 = true) : hasV (rngO col e).1 (getV row col) = true := by
  have hall := conj_holds e d h hh
  obtain ⟨x, hx, r, hxr⟩ := rngA_found rfl hf
  obtain ⟨hx1, d', hx2⟩ := hall x hx
  have h1 := rstr_has hr hx2 hx1 hxr
  have hv : vValid (getV row col) = true := by
    have hlt : col.toNat < row.length := by have := hr.2; omega
    unfold getV
    rw [List.getD_eq_getElem?_getD, List.getElem?_eq_getElem hlt]
    exact hr.vals _ (List.getElem_mem hlt)
  have h2 := vValid_range hv
  refine rngA_has ?_ fun y hy r hyr => ?_
  · unfold hasV at h1 ⊢
    simp only [Bool.and_eq_true, Bool.not_eq_true', decide_eq_true_eq] at *
    exact ⟨⟨h1.1.1, by omega⟩, by omega⟩
  · obtain ⟨hy1, d'', hy2⟩ := hall y hy
    exact rstr_has hr hy2 hy1 hyr
/-- Filtering the rows of the range is filtering all. -/
theorem rng_filter {rows : List Row1} {W : Int} (hr : ∀ r ∈ rows, RowOk W r) {e : Ex} {d : Int} (h : ExOk W d e) {col : Int} (hcol : 0 ≤ col ∧ col < W) (hf : (rngO col e).2 = true) : (rows.filter fun r => hasV (rngO col e).1 (getV r col)).filter (holdsE e) = rows.filter (holdsE e) := by
  rw [List.filter_filter]
  refine List.filter_congr fun r hrm => ?_
  cases hh : holdsE e r
  · simp
  · simp [rngO_has (hr r hrm) h hh hcol hf]
end Go.Qo
