/-
  Words for the generators of trees: what they hand back. No program in sight.
-/
import Derived.Test.YtcbfbgngkdiijaaProg
import Derived.Test.YtcbfbgngkdiijaaExT
import Derived.Test.YtcbfbgngkdiijaaRd
import Derived.Test.YtcbfbgngkdiijaaEqP
import Derived.Test.YtcbfbgngkdiijaaRgG
import Derived.Test.YtcbfbgngkdiijaaNds
namespace Go.Proofs.Ytcbfbgngkdiijaa
open Go.RowKit Go.Qo
set_option linter.unusedVariables false
set_option linter.unusedSimpArgs false

theorem Rd.apart {w w' : World} {b p : Nat} {S : Nat → Prop} (h : Rd w b p) (k : Only S w w') (hS : ∀ i, S i → b < i) : Rd w' b p := by
  have hlt := h.lt
  have hsz := k.size
  obtain ⟨A, xs, c, q, h1, h2, h3, h4, h5⟩ := h
  exact ⟨A, xs, c, q, h1, h2, h3.only k (fun hb => by have := hS b hb; omega), h4, h5.keep fun i o hi => World.cell?_of_block (w := w) (a := ⟨i, o, none⟩) (k.block i (by omega) fun hi' => by have := hS i hi'; omega)⟩
theorem set5 (w : World) (g : Nat) (v0 v1 v2 v3 v4 : Value) : Only (fun k => k = g) w (((((w.setCell ⟨g, 0, none⟩ v0).setCell ⟨g, 1, none⟩ v1).setCell ⟨g, 2, none⟩ v2).setCell ⟨g, 3, none⟩ v3).setCell ⟨g, 4, none⟩ v4) :=
  ((((((Only.refl (S := fun k => k = g) w).set (p := ⟨g, 0, none⟩) (.inl rfl) v0).set (p := ⟨g, 1, none⟩) (.inl rfl) v1).set (p := ⟨g, 2, none⟩) (.inl rfl) v2).set (p := ⟨g, 3, none⟩) (.inl rfl) v3).set (p := ⟨g, 4, none⟩) (.inl rfl) v4)
/-- An expression of the call's own, of at most D nodes, is handed back; the reader alone has changed; its counter is at most p. -/
def GotEx (D b p : Nat) (w : World) (e : Ending) (w' : World) : Prop :=
  ∃ (f : FE) (x : Ex), e = .returned (feV f) ∧ ExT (fun k => w.heap.size ≤ k) w' f x ∧ But b w w' ∧ Rd w' b p ∧ exN x ≤ D
def GotPl (D b p : Nat) (w : World) (e : Ending) (w' : World) : Prop :=
  ∃ (f : FP) (x : Pl), e = .returned (fpV f) ∧ PlT (fun k => w.heap.size ≤ k) w' f x ∧ But b w w' ∧ Rd w' b p ∧ plN x ≤ D
/-- The kids of an expression while they grow: a slice of the call's own, its elements trees beside it. -/
def Kds (lo : Nat) (w : World) (v : Value) (es : List Ex) : Prop :=
  ∃ fs : List FE, fs.length = es.length ∧ Ow lo 66 5 feC w v fs ∧ ∀ (i : Nat) (g : FE) (x : Ex), fs[i]? = some g → es[i]? = some x → ExT (fun k => lo ≤ k ∧ v.ownBlock ≠ some k) w g x
theorem Kds.nil {lo : Nat} {w : World} : Kds lo w (.slice none 0 0) [] := ⟨[], rfl, Ow.nil, fun i g x h _ => by simp at h⟩
theorem Kds.only {lo : Nat} {w w' : World} {v : Value} {es : List Ex} {S : Nat → Prop} (h : Kds lo w v es) (k : Only S w w') (hS : ∀ i, S i → i < lo) : Kds lo w' v es := by
  obtain ⟨fs, h1, h2, h3⟩ := h
  exact ⟨fs, h1, h2.only k fun i hi => .inl (hS i hi), fun i g x hg hx => (h3 i g x hg hx).keep k.size fun c hc hl => k.block c hl fun hs => by have := hS c hs; omega⟩
theorem Kds.shape {lo : Nat} {w : World} {v : Value} {es : List Ex} (h : Kds lo w v es) : ∃ A c, v = .slice A es.length c ∧ es.length ≤ c ∧ c ≤ maxLen := by
  obtain ⟨fs, h1, h2, h3⟩ := h
  obtain ⟨A, c, hv, h4, h5, _⟩ := h2.shape feC_length
  exact ⟨A, c, by rw [hv, h1], by omega, h5⟩
theorem Kds.exs {lo : Nat} {w : World} {A : Option Addr} {n c : Nat} {es : List Ex} (h : Kds lo w (.slice A n c) es) : ExsT (fun k => lo ≤ k) w A es := by
  obtain ⟨fs, h1, h2, h3⟩ := h
  exact ⟨fs, h1, SlS.of_ow feC_length h2, fun i g x hg hx => (h3 i g x hg hx).mono fun b _ hb => hb.1⟩
/-- One kid more: appended in a world in which it is held beside. -/
theorem Kds.snoc {lo : Nat} {w w' : World} {v v' : Value} {es : List Ex} {fs : List FE} {f : FE} {x : Ex} (hl : fs.length = es.length)
    (h3 : ∀ (i : Nat) (g : FE) (x : Ex), fs[i]? = some g → es[i]? = some x → ExT (fun k => lo ≤ k ∧ v.ownBlock ≠ some k) w g x) (hx : ExT (fun k => lo ≤ k ∧ v.ownBlock ≠ some k) w f x)
    (how : Ow lo 66 5 feC w' v' (fs ++ [f])) (hgr : w.grownBy w' v.ownBlock) (hob : v'.ownBlock = v.ownBlock ∨ v'.ownBlock = some w.heap.size) : Kds lo w' v' (es ++ [x]) := by
  have key : ∀ (g : FE) (y : Ex), ExT (fun k => lo ≤ k ∧ v.ownBlock ≠ some k) w g y → ExT (fun k => lo ≤ k ∧ v'.ownBlock ≠ some k) w' g y := fun g y h => by
    have h' : ExT (fun k => lo ≤ k ∧ v.ownBlock ≠ some k ∧ k < w.heap.size) w g y := h.mono fun b hb hk => ⟨hk.1, hk.2, hb⟩
    refine (h'.keep hgr.size fun c hc hl => hgr.block c hl fun e => hc.2.1 e.symm).mono fun c _ hc => ⟨hc.1, ?_⟩
    rcases hob with e | e
    · rw [e]; exact hc.2.1
    · rw [e]; intro e'; have := Option.some.inj e'; omega
  refine ⟨fs ++ [f], by simp [hl], how, fun i g y hg hy => ?_⟩
  by_cases hi : i < fs.length
  · rw [List.getElem?_append_left hi] at hg
    rw [List.getElem?_append_left (by omega)] at hy
    exact key g y (h3 i g y hg hy)
  · rw [List.getElem?_append_right (by omega)] at hg
    rw [List.getElem?_append_right (by omega)] at hy
    have h0 : i - fs.length = 0 := by
      have := (List.getElem?_eq_some_iff.1 hg).1
      simp at this
      omega
    rw [h0] at hg
    rw [← hl, h0] at hy
    simp at hg hy
    subst hg hy
    exact key _ _ hx
end Go.Proofs.Ytcbfbgngkdiijaa
