/-
  Which plans are valid, and how wide: in plain Lean.
-/
import Derived.Test.YtcbfbgngkdiijaaExV
namespace Go.Qo
set_option linter.unusedVariables false
set_option linter.unusedSimpArgs false

/-- The number of kids of a kind of plans. -/
def nkids (k : Int) : Int := if k = 1 then 0 else if k = 4 ∨ k = 5 ∨ k = 6 then 2 else 1
/-- The number of expressions of a plan. -/
def nexprs (k n : Int) : Int := if k = 2 ∨ k = 4 ∨ k = 5 then 1 else if k = 3 then n else 0
def OnlyF (p : Pl) : Prop := (1 ≤ p.kind ∧ p.kind ≤ 8) ∧ (p.kids.length : Int) = nkids p.kind ∧ (p.exprs.length : Int) = nexprs p.kind p.exprs.length ∧ (p.table = 0 ∨ p.kind = 1) ∧ (p.cols.length = 0 ∨ p.kind = 8)
def EOk (width : Int) (e : Ex) : Prop := (1 ≤ width ∧ width ≤ 6) ∧ ExOk width 8 e
def ColsOk (cols : List Int) (width : Int) : Prop := ∀ (i : Nat) (c : Int), cols[i]? = some c → (0 ≤ c ∧ c ≤ width - 1) ∧ ∀ c', 0 < i → cols[i - 1]? = some c' → c' < c
open Classical in
/-- The width of a plan whose kids have the widths a and b. -/
noncomputable def topW (ws : List Int) (p : Pl) (a b : Int) : Int :=
  if p.kind = 1 then (if 0 ≤ p.table ∧ p.table < ws.length then ws.getD p.table.toNat 0 else 0)
  else if p.kind = 2 then (if ∀ e ∈ p.exprs, EOk a e then a else 0)
  else if p.kind = 3 then (if (∀ e ∈ p.exprs, EOk a e) ∧ p.exprs.length ≤ 6 then p.exprs.length else 0)
  else if p.kind = 4 ∨ p.kind = 5 then (if a + b ≤ 6 ∧ ∀ e ∈ p.exprs, EOk (a + b) e then a + b else 0)
  else if p.kind = 6 then (if a = b then a else 0)
  else if p.kind = 7 then a
  else if ColsOk p.cols a ∧ p.cols.length < 6 then p.cols.length + 1 else 0
/-- The width of the kid number i. -/
def kidW (g : Pl → Int) (p : Pl) (i : Nat) : Int := match p.kids[i]? with | some x => g x | none => 0
open Classical in
/-- The width of a plan with at most so many levels of kids; 0 if it is invalid. -/
noncomputable def plW (ws : List Int) : Nat → Pl → Int
  | 0, p => if OnlyF p ∧ p.kids.length = 0 then topW ws p 0 0 else 0
  | d + 1, p => if OnlyF p ∧ ∀ x ∈ p.kids, plW ws d x ≠ 0 then topW ws p (kidW (plW ws d) p 0) (kidW (plW ws d) p 1) else 0
theorem OnlyF.kids_le {p : Pl} (h : OnlyF p) : p.kids.length ≤ 2 := by
  have := h.2.1
  unfold nkids at this
  split at this
  · omega
  · split at this <;> omega
theorem topW_range {ws : List Int} (hws : ∀ x ∈ ws, 1 ≤ x ∧ x ≤ 6) (p : Pl) {a b : Int} (ha : 0 ≤ a ∧ a ≤ 6) (hb : 0 ≤ b ∧ b ≤ 6) : 0 ≤ topW ws p a b ∧ topW ws p a b ≤ 6 := by
  unfold topW
  split
  · split
    · have hl : p.table.toNat < ws.length := by omega
      rw [List.getD_eq_getElem?_getD, List.getElem?_eq_getElem hl]
      have := hws _ (List.getElem_mem hl)
      simp
      omega
    · omega
  all_goals (repeat' split) <;> omega
theorem kidW_range {g : Pl → Int} (hg : ∀ x, 0 ≤ g x ∧ g x ≤ 6) (p : Pl) (i : Nat) : 0 ≤ kidW g p i ∧ kidW g p i ≤ 6 := by
  unfold kidW
  split
  · exact hg _
  · omega
theorem plW_range {ws : List Int} (hws : ∀ x ∈ ws, 1 ≤ x ∧ x ≤ 6) : ∀ (d : Nat) (p : Pl), 0 ≤ plW ws d p ∧ plW ws d p ≤ 6
  | 0, p => by
    unfold plW
    split
    · exact topW_range hws p (by omega) (by omega)
    · omega
  | d + 1, p => by
    unfold plW
    split
    · exact topW_range hws p (kidW_range (fun x => plW_range hws d x) p 0) (kidW_range (fun x => plW_range hws d x) p 1)
    · omega
/-- Invalid: for one reason or another. -/
theorem plW_no {ws : List Int} {d : Nat} {p : Pl} (h : ¬ OnlyF p) : plW ws d p = 0 := by
  cases d <;> unfold plW <;> rw [if_neg fun k => h k.1]
theorem plW_deep {ws : List Int} {p : Pl} (h : 0 < p.kids.length) : plW ws 0 p = 0 := by
  unfold plW; rw [if_neg fun k => by omega]
theorem plW_kid {ws : List Int} {d : Nat} {p x : Pl} (hx : x ∈ p.kids) (h : plW ws d x = 0) : plW ws (d + 1) p = 0 := by
  unfold plW; rw [if_neg fun k => k.2 x hx h]
/-- Otherwise the kids' widths decide. -/
theorem plW_top {ws : List Int} {d : Nat} {p : Pl} (h : OnlyF p) (hd : 0 < p.kids.length → 0 < d) (hk : ∀ x ∈ p.kids, plW ws (d - 1) x ≠ 0) :
    plW ws d p = topW ws p (kidW (plW ws (d - 1)) p 0) (kidW (plW ws (d - 1)) p 1) := by
  cases d with
  | zero =>
    have h0 : p.kids.length = 0 := by omega
    have e : p.kids = [] := List.eq_nil_of_length_eq_zero h0
    unfold plW kidW
    rw [if_pos ⟨h, h0⟩, e]
    rfl
  | succ d =>
    rw [plW, if_pos ⟨h, hk⟩]
    rfl
/-- A plan's kids are valid. -/
theorem plW_kids {ws : List Int} {d : Nat} {p x : Pl} (h : plW ws d p ≠ 0) (hx : x ∈ p.kids) : OnlyF p ∧ ∃ k, d = k + 1 ∧ plW ws k x ≠ 0 := by
  cases d with
  | zero =>
    exfalso
    apply h
    exact plW_deep (List.length_pos_of_mem hx)
  | succ d =>
    have ho : OnlyF p := Classical.byContradiction fun hn => h (plW_no hn)
    exact ⟨ho, d, rfl, fun h0 => h (plW_kid hx h0)⟩
/-- More levels do no harm. -/
theorem plW_more {ws : List Int} : ∀ (d k : Nat) (p : Pl), d ≤ k → plW ws d p ≠ 0 → plW ws k p = plW ws d p
  | d, 0, p, hk, h => by
    have : d = 0 := by omega
    rw [this]
  | d, k + 1, p, hk, h => by
    have ho : OnlyF p := Classical.byContradiction fun hn => h (plW_no hn)
    have hx : ∀ x ∈ p.kids, ∃ j, d = j + 1 ∧ plW ws j x ≠ 0 := fun x hx => (plW_kids h hx).2
    have e : ∀ x ∈ p.kids, plW ws k x = plW ws (d - 1) x := fun x hxm => by
      obtain ⟨j, rfl, hj⟩ := hx x hxm
      exact plW_more j k x (by omega) hj
    have hne : ∀ x ∈ p.kids, plW ws (d - 1) x ≠ 0 := fun x hxm => by
      obtain ⟨j, rfl, hj⟩ := hx x hxm
      exact hj
    have hd : 0 < p.kids.length → 0 < d := fun h0 => by
      obtain ⟨j, rfl, _⟩ := hx _ (List.getElem_mem h0)
      omega
    rw [plW_top ho hd hne, plW_top (d := k + 1) ho (fun _ => by omega) (fun x hxm => by rw [show k + 1 - 1 = k from rfl, e x hxm]; exact hne x hxm)]
    have ek : ∀ i, kidW (plW ws (k + 1 - 1)) p i = kidW (plW ws (d - 1)) p i := fun i => by
      unfold kidW
      split
      · rename_i x hg
        exact e x (List.mem_of_getElem? hg)
      · rfl
    rw [ek, ek]
end Go.Qo
