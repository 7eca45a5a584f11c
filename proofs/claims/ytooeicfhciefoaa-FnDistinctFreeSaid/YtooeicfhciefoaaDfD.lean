/-
  Duplicate-free plans: in plain Lean.
-/
import Derived.Test.YtooeicfhciefoaaBdD
namespace Go.Qo
set_option linter.unusedVariables false
set_option linter.unusedSimpArgs false

def boolC (b : Bool) : List Value := [.bool b]
theorem boolC_length (b : Bool) : (boolC b).length = 1 := rfl
theorem boolC_one (x : Bool) : ∀ u ∈ boolC x, u.oneCell' = true := by intro u hu; simp [boolC] at hu; subst hu; rfl
/-- A column that stands alone in a list of expressions. -/
def isCol (e : Ex) (c : Int) : Bool := decide (e.kind = 1) && decide (e.col = c)
def colIn (es : List Ex) (c : Int) : Bool := es.any fun e => isCol e c
def keepsB (es : List Ex) (w : Int) : Bool := (List.range w.toNat).all fun c => colIn es c
theorem colIn_snoc (es : List Ex) (e : Ex) (c : Int) : colIn (es ++ [e]) c = (colIn es c || isCol e c) := by simp [colIn]
theorem keepsB_yes {es : List Ex} {w : Int} (h : ∀ j : Nat, (j : Int) < w → colIn es j = true) : keepsB es w = true := by
  unfold keepsB
  rw [List.all_eq_true]
  intro j hj
  exact h j (by have := List.mem_range.1 hj; omega)
theorem keepsB_no {es : List Ex} {w : Int} {j : Nat} (hj : (j : Int) < w) (h : colIn es j = false) : keepsB es w = false := by
  unfold keepsB
  rw [List.all_eq_false]
  exact ⟨j, List.mem_range.2 (by omega), by simp [h]⟩
/-- The columns as bits. -/
def colBits (es : List Ex) : Nat := es.foldl (fun n e => if e.kind = 1 then n ||| 2 ^ e.col.toNat else n) 0
theorem colBits_snoc (es : List Ex) (e : Ex) : colBits (es ++ [e]) = if e.kind = 1 then colBits es ||| 2 ^ e.col.toNat else colBits es := by simp [colBits]
/-- All columns that stand alone lie below w. -/
def ColsBelow (es : List Ex) (w : Nat) : Prop := ∀ e ∈ es, e.kind = 1 → 0 ≤ e.col ∧ e.col < w
theorem colBits_spec {w : Nat} : ∀ (n : Nat) (es : List Ex), es.length = n → ColsBelow es w → colBits es < 2 ^ w ∧ ∀ c : Nat, (colBits es).testBit c = colIn es c
  | 0, es, hl, _ => by
    have : es = [] := List.eq_nil_of_length_eq_zero hl
    subst this
    exact ⟨by simp [colBits]; exact Nat.two_pow_pos w, fun c => by simp [colBits, colIn]⟩
  | n + 1, es, hl, h => by
    have hne : es ≠ [] := by intro e; rw [e] at hl; simp at hl
    obtain ⟨es', e, rfl⟩ : ∃ es' e, es = es' ++ [e] := ⟨es.dropLast, es.getLast hne, (List.dropLast_concat_getLast hne).symm⟩
    have hl' : es'.length = n := by simp at hl; omega
    obtain ⟨h1, h2⟩ := colBits_spec n es' hl' fun x hx => h x (List.mem_append_left _ hx)
    rw [colBits_snoc]
    by_cases hk : e.kind = 1
    · obtain ⟨c0, c1⟩ := h e (List.mem_append_right _ (List.mem_singleton.2 rfl)) hk
      obtain ⟨k, hkc⟩ := Int.eq_ofNat_of_zero_le c0
      rw [if_pos hk, hkc, Int.toNat_natCast]
      refine ⟨Nat.or_lt_two_pow h1 (Nat.pow_lt_pow_right (by omega) (by omega)), fun c => ?_⟩
      rw [Nat.testBit_or, h2, Nat.testBit_two_pow, colIn_snoc]
      unfold isCol
      rw [hkc]
      simp [hk]
      congr 1
      simp only [Int.ofNat_inj, decide_eq_decide]
    · rw [if_neg hk]
      refine ⟨h1, fun c => ?_⟩
      rw [h2, colIn_snoc]
      unfold isCol
      simp [hk]
theorem colBits_keeps {w : Nat} {es : List Ex} (h : ColsBelow es w) : (colBits es = 2 ^ w - 1) ↔ keepsB es w = true := by
  obtain ⟨h1, h2⟩ := colBits_spec _ es rfl h
  constructor
  · intro e
    refine keepsB_yes fun j hj => ?_
    rw [← h2, e, Nat.testBit_two_pow_sub_one]
    simpa using hj
  · intro hk
    refine Nat.eq_of_testBit_eq fun j => ?_
    rw [Nat.testBit_two_pow_sub_one, h2]
    by_cases hj : j < w
    · unfold keepsB at hk
      rw [List.all_eq_true] at hk
      rw [hk j (List.mem_range.2 (by omega))]
      simpa using hj
    · have := Nat.testBit_lt_two_pow (Nat.lt_of_lt_of_le h1 (Nat.pow_le_pow_right (by omega) (show w ≤ j by omega)))
      rw [h2] at this
      rw [this]
      simpa using hj
/-- Does it follow that a plan's result has no row twice? -/
noncomputable def dfW (ws : List Int) (ss : List Bool) : Nat → Pl → Bool
  | 0, _ => false
  | d + 1, p => if p.kind = 1 then ss.getD p.table.toNat false else if p.kind = 6 then false else if p.kind = 7 ∨ p.kind = 8 then true else (if p.kind = 3 then keepsB p.exprs (kidW (plW ws 8) p 0) else true) && p.kids.all (dfW ws ss d)
end Go.Qo
