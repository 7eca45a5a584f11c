/-
  The plan of the law about ranges: in plain Lean.
-/
import Derived.Test.YtlhonhacehgooaaGreatZrEvp
import Derived.Test.YtlhonhacehgooaaGreatZrRnD
namespace Go.Qo
set_option linter.unusedVariables false
set_option linter.unusedSimpArgs false

/-- The rows of the only table where a condition holds. -/
def filP (x : Ex) : Pl := .mk 2 0 [x] [] [scanP 0]
theorem fil_only (x : Ex) : OnlyF (filP x) := ⟨⟨by show (1 : Int) ≤ 2; omega, by show (2 : Int) ≤ 8; omega⟩, by show ((1 : Nat) : Int) = nkids 2; decide, by show ((1 : Nat) : Int) = nexprs 2 _; rfl, .inl rfl, .inl rfl⟩
theorem fil_plan {W : Int} {x : Ex} {xs : List Row1} (h : TabOk W xs) (hx : ExOk W 8 x) :
    DbOk [(W, xs)] ∧ plW (wsDb [(W, xs)]) 8 (filP x) ≠ 0 ∧ plT [(W, xs)] 9 (filP x) = (W, colS (xs.filter (holdsE x))) := by
  have hdb : DbOk [(W, xs)] := fun t ht => by rw [List.mem_singleton.1 ht]; exact h
  refine ⟨hdb, ?_, ?_⟩
  · have k0 : plW (wsDb [(W, xs)]) 7 (scanP 0) = W := scan_w 7 (by omega) (by show (0 : Int) < ((1 : Nat) : Int); decide)
    have a1 := h.1
    have e : plW (wsDb [(W, xs)]) 8 (filP x) = topW (wsDb [(W, xs)]) (filP x) W 0 := by
      rw [plW_top (fil_only _) (fun _ => by omega) (fun y hy => ?_)]
      · show topW _ _ (plW (wsDb [(W, xs)]) 7 (scanP 0)) 0 = _
        rw [k0]
      · rw [List.mem_singleton.1 hy]
        show plW (wsDb [(W, xs)]) 7 (scanP 0) ≠ 0
        rw [k0]; omega
    rw [e]
    unfold topW
    rw [if_neg (show ¬ (filP x).kind = 1 by show ¬ (2 : Int) = 1; omega), if_pos (show (filP x).kind = 2 from rfl), if_pos]
    · omega
    · intro y hy
      rw [List.mem_singleton.1 hy]
      exact ⟨⟨h.1, h.2.1⟩, hx⟩
  · show topT _ (filP x) (plT [(W, xs)] 8 (scanP 0)) (0, []) = _
    rw [scan_T]
    have e0 : dbAt [(W, xs)] 0 = (W, xs) := rfl
    rw [e0]
    unfold topT rawR
    rw [if_neg (show ¬ (filP x).kind = 1 by show ¬ (2 : Int) = 1; omega), if_neg (show ¬ (filP x).kind = 3 by show ¬ (2 : Int) = 3; omega), if_neg (show ¬ ((filP x).kind = 4 ∨ (filP x).kind = 5) by show ¬ ((2 : Int) = 4 ∨ (2 : Int) = 5); omega), if_neg (show ¬ (filP x).kind = 8 by show ¬ (2 : Int) = 8; omega), if_pos (show (filP x).kind = 2 from rfl)]
    rfl
/-- The filter of what a range leaves is the filter of all. -/
theorem rng_cols {rows out : List Row1} {W : Int} (hT : TabOk W rows) {e : Ex} (h : ExOk W 8 e) {col lo hi : Int} (hcol : 0 ≤ col ∧ col < W) (hf : rngO col e = ((lo, hi), true)) (hp : out.Perm (rows.filter fun r => hasV (lo, hi) (getV r col))) :
    colS (out.filter (holdsE e)) = colS (rows.filter (holdsE e)) := by
  have hr : ∀ r ∈ rows, RowOk W r := fun r hr => hT.2.2.2.1 r hr
  have h1 := rng_filter hr h hcol (by rw [hf])
  rw [hf] at h1
  rw [← h1]
  exact colS_perm (W := W) (hp.filter _) fun r hm => hr r (List.mem_filter.1 (hp.mem_iff.1 (List.mem_filter.1 hm).1)).1
end Go.Qo
