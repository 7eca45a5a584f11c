/-
  Which expressions are valid: in plain Lean.
-/
import Derived.Test.YtcbfbgngkdiijaaPlD
namespace Go.Qo
set_option linter.unusedVariables false
set_option linter.unusedSimpArgs false

/-- The number of kids of a kind (as XKids says of both programs). -/
def kidsK (k : Int) : Int := if k = 1 ∨ k = 2 then 0 else if k = 10 ∨ k = 11 then 1 else if 3 ≤ k ∧ k ≤ 9 then 2 else -1
/-- What is asked of an expression's own cells. -/
def LocOk (width : Int) (e : Ex) : Prop :=
  if e.kind = 1 then (0 ≤ e.col ∧ e.col ≤ width - 1) ∧ e.val = (false, 0) else if e.kind = 2 then e.col = 0 ∧ vValid e.val = true else e.col = 0 ∧ e.val = (false, 0)
/-- Valid for rows of a width, with at most deep levels of kids. -/
inductive ExOk (width : Int) : Int → Ex → Prop where
  | mk {deep : Int} {e : Ex} (hk : (e.kids.length : Int) = kidsK e.kind) (hd : 0 < e.kids.length → deep ≠ 0) (hx : ∀ x, x ∈ e.kids → ExOk width (deep - 1) x) (hl : LocOk width e) : ExOk width deep e
theorem exOk_iff {width deep : Int} {e : Ex} : ExOk width deep e ↔ (e.kids.length : Int) = kidsK e.kind ∧ (0 < e.kids.length → deep ≠ 0) ∧ (∀ x ∈ e.kids, ExOk width (deep - 1) x) ∧ LocOk width e :=
  ⟨fun h => by cases h with | mk hk hd hx hl => exact ⟨hk, hd, hx, hl⟩, fun ⟨h1, h2, h3, h4⟩ => .mk h1 h2 h3 h4⟩
theorem ExOk.kids_le {width deep : Int} {e : Ex} (h : ExOk width deep e) : e.kids.length ≤ 2 := by
  have h1 := (exOk_iff.1 h).1
  unfold kidsK at h1
  split at h1
  · omega
  · split at h1
    · omega
    · split at h1 <;> omega
end Go.Qo
