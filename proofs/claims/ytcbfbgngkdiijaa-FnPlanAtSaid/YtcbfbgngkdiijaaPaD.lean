/-
  The part of a plan at a path. No program in sight.
-/
import Derived.Test.YtcbfbgngkdiijaaTdp
namespace Go.Qo
open Go.RowKit
set_option linter.unusedVariables false
set_option linter.unusedSimpArgs false

def atP (p : Pl) : List Int → Option Pl
  | [] => some p
  | i :: is => if h : 0 ≤ i ∧ i.toNat < p.kids.length then atP p.kids[i.toNat] is else none
theorem atP_append : ∀ (a b : List Int) (p : Pl), atP p (a ++ b) = (atP p a).bind fun q => atP q b
  | [], b, p => rfl
  | i :: a, b, p => by
    rw [List.cons_append, atP, atP]
    by_cases h : 0 ≤ i ∧ i.toNat < p.kids.length
    · rw [dif_pos h, dif_pos h]
      exact atP_append a b _
    · rw [dif_neg h, dif_neg h]
      rfl
theorem atP_le : ∀ (a : List Int) (p q : Pl), atP p a = some q → plN q ≤ plN p
  | [], p, q, h => by cases h; exact Nat.le_refl _
  | i :: a, p, q, h => by
    rw [atP] at h
    by_cases hc : 0 ≤ i ∧ i.toNat < p.kids.length
    · rw [dif_pos hc] at h
      have h1 := atP_le a _ q h
      have h2 := plsN_mem (List.getElem_mem hc.2)
      rw [plN_eq p]
      omega
    · rw [dif_neg hc] at h
      cases h
theorem atP_yes {p : Pl} {i : Int} {is : List Int} {k : Nat} (hi : i = k) (hk : k < p.kids.length) : atP p (i :: is) = atP p.kids[k] is := by
  subst hi
  rw [atP, dif_pos ⟨by omega, by simpa using hk⟩]
  simp
theorem atP_no {p : Pl} {i : Int} {is : List Int} (h : i < 0 ∨ (p.kids.length : Int) ≤ i) : atP p (i :: is) = none := by
  rw [atP, dif_neg (by omega)]
def zeroPl : Pl := .mk 0 0 [] [] []
/-- What is handed back: the part, or nothing. -/
def resP (o : Option Pl) : Pl := o.getD zeroPl
theorem resP_le {x : Pl} {a : List Int} : plN (resP (atP x a)) ≤ plN x := by
  cases h : atP x a with
  | none => simp only [resP, Option.getD_none, zeroPl, plN, exsN, plsN]; have := plN_pos x; omega
  | some q => exact atP_le a x q h
/-- The cells of no plan. -/
def zeroFP : FP := ⟨0, 0, ⟨none, 0, 0⟩, ⟨none, 0, 0⟩, ⟨none, 0, 0⟩⟩
theorem plT_zero {S : Nat → Prop} {w : World} : PlT S w zeroFP zeroPl := PlT.make SVok.nil SVok.nil SVok.nil ExsT.nil SlS.nil PlsT.nil (by simp) (by simp) (by simp)
/-- All blocks. -/
def Any : Nat → Prop := fun _ => True
theorem PlT.kid {S : Nat → Prop} {w : World} {f : FP} {p : Pl} (h : PlT S w f p) {i : Nat} (hi : i < p.kids.length) : ∃ b o g, f.ks.A = some ⟨b, o, none⟩ ∧ b < w.heap.size ∧ FpAt w b (o + i * 5) g ∧ PlT S w g p.kids[i] := by
  obtain ⟨_, _, _, _, _, _, _, fs, h7, h8, h9⟩ := h.flat
  have hi' : i < fs.length := by omega
  obtain ⟨b, o, hA, _, hB, hc⟩ := h8 (by omega)
  have hx := List.getElem?_eq_getElem hi'
  exact ⟨b, o, fs[i], hA, hB, ⟨hc i _ hx 0 _ rfl, hc i _ hx 1 _ rfl, hc i _ hx 2 _ rfl, hc i _ hx 3 _ rfl, hc i _ hx 4 _ rfl⟩, h9 i _ _ hx (List.getElem?_eq_getElem hi)⟩
end Go.Qo
