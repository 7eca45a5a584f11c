/-
  The text of a plan, in plain Lean; how long it may be.
-/
import Derived.Test.YtmhlpjfijpomkaaGreatDoorZqGa
import Derived.Test.YtmhlpjfijpomkaaGreatDoorZqPlV
namespace Go.Qo
open Go.RowKit
set_option linter.unusedVariables false
set_option linter.unusedSimpArgs false

def plTexts : List (List UInt8) := [[], [115, 99, 97, 110], [102, 105, 108, 116, 101, 114], [112, 114, 111, 106, 101, 99, 116], [106, 111, 105, 110], [108, 101, 102, 116], [117, 110, 105, 111, 110], [100, 105, 115, 116, 105, 110, 99, 116], [103, 114, 111, 117, 112]]
def plName (k : Int) : List UInt8 := plTexts.getD k.toNat []
def colsText : List Int → List UInt8
  | [] => []
  | c :: cs => 32 :: 35 :: (Lib.itoa c ++ colsText cs)
theorem colsText_append : ∀ (a b : List Int), colsText (a ++ b) = colsText a ++ colsText b
  | [], b => by simp [colsText]
  | x :: a, b => by simp [colsText, colsText_append a b]
theorem colsText_snoc (a : List Int) (x : Int) : colsText (a ++ [x]) = colsText a ++ 32 :: 35 :: Lib.itoa x := by rw [colsText_append]; simp [colsText]
def tabText (k t : Int) : List UInt8 := if k = 1 then 32 :: Lib.itoa t else []
mutual
def plText : Pl → List UInt8
  | .mk k t es cs ks => 40 :: (plName k ++ (tabText k t ++ (colsText cs ++ (exsText es ++ (plsText ks ++ [41])))))
def plsText : List Pl → List UInt8
  | [] => []
  | x :: xs => 32 :: (plText x ++ plsText xs)
end
theorem plText_eq (p : Pl) : plText p = 40 :: (plName p.kind ++ (tabText p.kind p.table ++ (colsText p.cols ++ (exsText p.exprs ++ (plsText p.kids ++ [41]))))) := by
  obtain ⟨k, t, es, cs, ks⟩ := p
  rw [plText]
  rfl
theorem plsText_append : ∀ (a b : List Pl), plsText (a ++ b) = plsText a ++ plsText b
  | [], b => by simp [plsText]
  | x :: a, b => by simp [plsText, plsText_append a b]
theorem plsText_snoc (a : List Pl) (x : Pl) : plsText (a ++ [x]) = plsText a ++ 32 :: plText x := by rw [plsText_append]; simp [plsText]

theorem exOk_mono {w w' : Int} (hw : w ≤ w') {d : Int} {e : Ex} (h : ExOk w d e) : ExOk w' d e := by
  induction h with
  | mk hk hd hx hl ih =>
    refine .mk hk hd ih ?_
    unfold LocOk at hl ⊢
    split at hl
    · rename_i h1
      rw [if_pos h1]
      exact ⟨⟨hl.1.1, by omega⟩, hl.2⟩
    · rename_i h1
      rw [if_neg h1]
      exact hl

/-- Plans whose text is short: what a valid plan is. -/
inductive TxOk : Nat → Pl → Prop where
  | mk {d : Nat} {p : Pl} (ho : OnlyF p) (he : p.exprs.length ≤ 6) (hc : p.cols.length ≤ 6) (ht : 0 ≤ p.table ∧ p.table ≤ 1000) (hx : ∀ x, x ∈ p.exprs → ExOk 6 8 x) (hcs : ∀ c, c ∈ p.cols → 0 ≤ c ∧ c ≤ 1000)
      (hd : 0 < p.kids.length → 0 < d) (hks : ∀ x, x ∈ p.kids → TxOk (d - 1) x) : TxOk d p
theorem txOk_iff {d : Nat} {p : Pl} : TxOk d p ↔ OnlyF p ∧ p.exprs.length ≤ 6 ∧ p.cols.length ≤ 6 ∧ (0 ≤ p.table ∧ p.table ≤ 1000) ∧ (∀ x ∈ p.exprs, ExOk 6 8 x) ∧ (∀ c ∈ p.cols, 0 ≤ c ∧ c ≤ 1000) ∧ (0 < p.kids.length → 0 < d) ∧ ∀ x ∈ p.kids, TxOk (d - 1) x :=
  ⟨fun h => by cases h with | mk a b c d e f g h => exact ⟨a, b, c, d, e, f, g, h⟩, fun ⟨a, b, c, d, e, f, g, h⟩ => .mk a b c d e f g h⟩
theorem topW_tx {ws : List Int} (hwl : ws.length ≤ 4) {p : Pl} (ho : OnlyF p) {a b : Int} (hb0 : 0 ≤ a ∧ a ≤ 6) (h : topW ws p a b ≠ 0) : p.exprs.length ≤ 6 ∧ p.cols.length ≤ 6 ∧ (0 ≤ p.table ∧ p.table ≤ 1000) ∧ (∀ x ∈ p.exprs, ExOk 6 8 x) ∧ (∀ c ∈ p.cols, 0 ≤ c ∧ c ≤ 1000) := by
  obtain ⟨hk, h2, h3, h4, h5⟩ := ho
  have hE : ∀ {v : Int} {es : List Ex}, (∀ e ∈ es, EOk v e) → ∀ x ∈ es, ExOk 6 8 x := fun he x hx => exOk_mono (he x hx).1.2 (he x hx).2
  unfold topW at h
  unfold nexprs at h3
  by_cases k1 : p.kind = 1
  · rw [if_pos k1] at h
    have hc : p.cols = [] := List.length_eq_zero_iff.1 (by omega)
    have he : p.exprs = [] := List.length_eq_zero_iff.1 (by rw [if_neg (by omega), if_neg (by omega)] at h3; omega)
    split at h
    · rw [hc, he]; simp; omega
    · exact absurd rfl h
  · rw [if_neg k1] at h
    have ht : p.table = 0 := by omega
    by_cases k2 : p.kind = 2
    · rw [if_pos k2] at h
      have hc : p.cols = [] := List.length_eq_zero_iff.1 (by omega)
      rw [if_pos (by omega)] at h3
      split at h
      · rename_i he
        exact ⟨by omega, by rw [hc]; simp, by omega, hE he, by rw [hc]; simp⟩
      · exact absurd rfl h
    · rw [if_neg k2] at h
      by_cases k3 : p.kind = 3
      · rw [if_pos k3] at h
        have hc : p.cols = [] := List.length_eq_zero_iff.1 (by omega)
        split at h
        · rename_i he
          exact ⟨by omega, by rw [hc]; simp, by omega, hE he.1, by rw [hc]; simp⟩
        · exact absurd rfl h
      · rw [if_neg k3] at h
        by_cases k4 : p.kind = 4 ∨ p.kind = 5
        · rw [if_pos k4] at h
          have hc : p.cols = [] := List.length_eq_zero_iff.1 (by omega)
          rw [if_pos (by omega)] at h3
          split at h
          · rename_i he
            exact ⟨by omega, by rw [hc]; simp, by omega, hE he.2, by rw [hc]; simp⟩
          · exact absurd rfl h
        · rw [if_neg k4] at h
          have he : p.exprs = [] := List.length_eq_zero_iff.1 (by rw [if_neg (by omega), if_neg (by omega)] at h3; omega)
          by_cases k6 : p.kind = 6
          · have hc : p.cols = [] := List.length_eq_zero_iff.1 (by omega)
            rw [hc, he]; simp; omega
          · by_cases k7 : p.kind = 7
            · have hc : p.cols = [] := List.length_eq_zero_iff.1 (by omega)
              rw [hc, he]; simp; omega
            · rw [if_neg k6, if_neg k7] at h
              split at h
              · rename_i hcs
                refine ⟨by rw [he]; simp, by omega, by omega, by rw [he]; simp, fun c hc => ?_⟩
                obtain ⟨i, hi⟩ := List.getElem?_of_mem hc
                have := (hcs.1 i c hi).1
                omega
              · exact absurd rfl h
theorem plW_tx {ws : List Int} (hwl : ws.length ≤ 4) (hws : ∀ x ∈ ws, 1 ≤ x ∧ x ≤ 6) : ∀ (d : Nat) (p : Pl), plW ws d p ≠ 0 → TxOk d p
  | d, p, h => by
    have ho : OnlyF p := Classical.byContradiction fun hn => h (plW_no hn)
    have hd : 0 < p.kids.length → 0 < d := fun h0 => by
      rcases Nat.eq_zero_or_pos d with rfl | hp
      · exact absurd (plW_deep h0) h
      · exact hp
    have hk : ∀ x ∈ p.kids, plW ws (d - 1) x ≠ 0 := fun x hx => by
      obtain ⟨_, k, hk, hv⟩ := plW_kids h hx
      rw [hk]
      exact hv
    have ht : ∃ a b, (0 ≤ a ∧ a ≤ 6) ∧ topW ws p a b ≠ 0 := by
      cases d with
      | zero =>
        unfold plW at h
        split at h
        · exact ⟨0, 0, by omega, h⟩
        · exact absurd rfl h
      | succ d =>
        unfold plW at h
        split at h
        · exact ⟨_, _, kidW_range (plW_range hws d) p 0, h⟩
        · exact absurd rfl h
    obtain ⟨a, b, ha, hab⟩ := ht
    obtain ⟨t1, t2, t3, t4, t5⟩ := topW_tx hwl ho ha hab
    exact .mk ho t1 t2 t3 t4 t5 hd fun x hx => plW_tx hwl hws (d - 1) x (hk x hx)
termination_by _ x => SizeOf.sizeOf x
decreasing_by exact Pl.kid_lt hx
end Go.Qo
