/-
  The bound for the number of rows of a plan: in plain Lean.
-/
import Derived.Test.YtnecmacjlggkeaaPlV
namespace Go.Qo
set_option linter.unusedVariables false
set_option linter.unusedSimpArgs false

/-- From the bounds of the kids. -/
def topB (k n m : Int) (cols : Nat) : Int := if k = 4 then n * m else if k = 5 then n * max 1 m else if k = 6 then n + m else if k = 8 ∧ cols = 0 then min n 1 else n
def bdW (cs : List Int) : Nat → Pl → Int
  | 0, _ => 0
  | d + 1, p => if p.kind = 1 then cs.getD p.table.toNat 0 else min (topB p.kind (kidW (bdW cs d) p 0) (kidW (bdW cs d) p 1) p.cols.length) 1000000000
def CsOk (cs : List Int) : Prop := ∀ x ∈ cs, 0 ≤ x ∧ x ≤ 400
theorem mul_le {a b x y : Int} (h1 : 0 ≤ a ∧ a ≤ x) (h2 : 0 ≤ b ∧ b ≤ y) : 0 ≤ a * b ∧ a * b ≤ x * y :=
  ⟨Int.mul_nonneg h1.1 h2.1, Int.mul_le_mul h1.2 h2.2 h2.1 (Int.le_trans h1.1 h1.2)⟩
theorem topB_range {k n m : Int} {c : Nat} (hn : 0 ≤ n ∧ n ≤ 1000000000) (hm : 0 ≤ m ∧ m ≤ 1000000000) : 0 ≤ topB k n m c ∧ topB k n m c ≤ 1000000000000000000 := by
  unfold topB
  split
  · have := mul_le hn hm; omega
  · split
    · have := mul_le hn (show 0 ≤ max 1 m ∧ max 1 m ≤ 1000000000 by omega); omega
    · split
      · omega
      · split <;> omega
theorem getD_range {cs : List Int} (h : CsOk cs) (i : Nat) : 0 ≤ cs.getD i 0 ∧ cs.getD i 0 ≤ 400 := by
  rw [List.getD_eq_getElem?_getD]
  by_cases hi : i < cs.length
  · rw [List.getElem?_eq_getElem hi]
    exact h _ (List.getElem_mem hi)
  · rw [List.getElem?_eq_none (by omega)]
    exact ⟨by decide, by decide⟩
theorem bdW_range {cs : List Int} (h : CsOk cs) : ∀ (d : Nat) (p : Pl), 0 ≤ bdW cs d p ∧ bdW cs d p ≤ 1000000000
  | 0, _ => by unfold bdW; omega
  | d + 1, p => by
    have hk : ∀ i, 0 ≤ kidW (bdW cs d) p i ∧ kidW (bdW cs d) p i ≤ 1000000000 := fun i => by
      unfold kidW
      split
      · exact bdW_range h d _
      · omega
    unfold bdW
    split
    · have := getD_range h p.table.toNat; omega
    · have := topB_range (k := p.kind) (c := p.cols.length) (hk 0) (hk 1)
      omega
theorem topB_mono {k n m n' m' : Int} {c : Nat} (hn : 0 ≤ n ∧ n ≤ n') (hm : 0 ≤ m ∧ m ≤ m') : topB k n m c ≤ topB k n' m' c := by
  unfold topB
  split
  · exact (mul_le hn hm).2
  · split
    · exact (mul_le hn (show 0 ≤ max 1 m ∧ max 1 m ≤ max 1 m' by omega)).2
    · split
      · omega
      · split <;> omega
/-- Larger counts, larger bounds. -/
theorem bdW_mono {cs cs' : List Int} (h : CsOk cs) (hle : ∀ i, cs.getD i 0 ≤ cs'.getD i 0) : ∀ (d : Nat) (p : Pl), bdW cs d p ≤ bdW cs' d p
  | 0, _ => by unfold bdW; omega
  | d + 1, p => by
    have hk : ∀ i, 0 ≤ kidW (bdW cs d) p i ∧ kidW (bdW cs d) p i ≤ kidW (bdW cs' d) p i := fun i => by
      unfold kidW
      split
      · exact ⟨(bdW_range h d _).1, bdW_mono h hle d _⟩
      · omega
    unfold bdW
    split
    · exact hle _
    · have := topB_mono (k := p.kind) (c := p.cols.length) (hk 0) (hk 1)
      omega
/-- A valid plan's table is one of them. -/
theorem plW_scan {ws : List Int} {d : Nat} {p : Pl} (h : plW ws d p ≠ 0) (hk : p.kind = 1) : 0 ≤ p.table ∧ p.table < ws.length := by
  have ho : OnlyF p := Classical.byContradiction fun hn => h (plW_no hn)
  have hkl : p.kids.length = 0 := by
    have := ho.2.1
    rw [hk] at this
    simp [nkids] at this
    simpa using this
  have hkn : p.kids = [] := List.eq_nil_of_length_eq_zero hkl
  rw [plW_top ho (by omega) (by rw [hkn]; intro x hx; cases hx)] at h
  unfold topW at h
  rw [if_pos hk] at h
  apply Classical.byContradiction
  intro hn
  rw [if_neg hn] at h
  exact h rfl
end Go.Qo
