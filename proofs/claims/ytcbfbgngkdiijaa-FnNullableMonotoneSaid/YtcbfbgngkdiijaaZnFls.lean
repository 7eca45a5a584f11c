/-
  Lists of lists of flags in memory. No program in sight.
-/
import Derived.Test.YtcbfbgngkdiijaaZnExW
import Derived.Test.YtcbfbgngkdiijaaZnGa
namespace Go.Qo
open Go.RowKit
set_option linter.unusedVariables false
set_option linter.unusedSimpArgs false

theorem svC_len1 (s : SV) : (svC s).length = 1 := rfl
/-- Rows of flags, all below B. -/
def FlIn (w : World) (B : Nat) (A : Option Addr) (rs : List (List Bool)) : Prop :=
  ∃ hs : List SV, hs.length = rs.length ∧ Sl 1 svC w B A hs ∧ ∀ (i : Nat) (s : SV) (r : List Bool), hs[i]? = some s → rs[i]? = some r → SVok s r.length ∧ Sl 1 boolC w B s.A r
theorem FlIn.on {w w' : World} {A : Option Addr} {rs : List (List Bool)} (h : FlIn w w.heap.size A rs) (hb : Below w.heap.size w w') : FlIn w' w'.heap.size A rs := by
  obtain ⟨hs, h1, h2, h3⟩ := h
  exact ⟨hs, h1, h2.on hb, fun i s r hg hr => ⟨(h3 i s r hg hr).1, (h3 i s r hg hr).2.on hb⟩⟩
theorem FlIn.nil {w : World} {B : Nat} {A : Option Addr} : FlIn w B A [] := ⟨[], rfl, Sl.nil, fun i s r h => by simp at h⟩
/-- The i-th row's head. -/
theorem FlIn.at_ {w : World} {B : Nat} {A : Option Addr} {rs : List (List Bool)} (h : FlIn w B A rs) {i : Nat} (hi : i < rs.length) :
    ∃ (b o : Nat) (s : SV), A = some ⟨b, o, none⟩ ∧ b < B ∧ w.cell? ⟨b, o + i, none⟩ = some (.slice s.A rs[i].length s.c) ∧ rs[i].length ≤ s.c ∧ s.c ≤ maxLen ∧ Sl 1 boolC w B s.A rs[i] := by
  obtain ⟨hs, h1, h2, h3⟩ := h
  have hi' : i < hs.length := by omega
  obtain ⟨b, o, hA, hB, hc⟩ := Sl.at1 (f := fun s : SV => Value.slice s.A s.n s.c) h2 hi'
  obtain ⟨⟨e1, e2, e3⟩, e4⟩ := h3 i hs[i] rs[i] (List.getElem?_eq_getElem hi') (List.getElem?_eq_getElem hi)
  rw [e1] at hc e2
  exact ⟨b, o, hs[i], hA, hB, hc, e2, e3, e4⟩
section
variable {tB : TypeId} {w w' : World} {lo z : Nat} {v v' : Value} {rs : List (List Bool)}
/-- Rows of flags while they grow. -/
def FlW (tB : TypeId) (lo z : Nat) (w : World) (v : Value) (rs : List (List Bool)) : Prop :=
  ∃ hs : List SV, hs.length = rs.length ∧ Ow lo tB 1 svC w v hs ∧ ∀ (i : Nat) (s : SV) (r : List Bool), hs[i]? = some s → rs[i]? = some r → SVok s r.length ∧ SlS (fun b => lo ≤ b ∧ b < z ∧ v.ownBlock ≠ some b) 1 boolC w s.A r
theorem FlW.nil : FlW tB lo z w (.slice none 0 0) [] := ⟨[], rfl, Ow.nil, fun i s r h => by simp at h⟩
theorem FlW.only {S : Nat → Prop} (h : FlW tB lo z w v rs) (k : Only S w w') (hS : ∀ i, S i → i < lo) : FlW tB lo z w' v rs := by
  obtain ⟨hs, h1, h2, h3⟩ := h
  exact ⟨hs, h1, h2.only k fun i hi => .inl (hS i hi), fun i s r hg hr => ⟨(h3 i s r hg hr).1, (h3 i s r hg hr).2.keep k.size fun b hb hl => k.block b hl fun q => by have := hS b q; omega⟩⟩
theorem FlW.shape (h : FlW tB lo z w v rs) : ∃ A c, v = .slice A rs.length c ∧ rs.length ≤ c ∧ c ≤ maxLen := by
  obtain ⟨hs, h1, h2, h3⟩ := h
  obtain ⟨A, c, hv, h4, h5, _⟩ := h2.shape svC_len1
  exact ⟨A, c, by rw [hv, h1], by omega, h5⟩
/-- A row more: its block is newer than the rows that were there. -/
theorem FlW.snoc {hs : List SV} {s : SV} {r : List Bool} (hl : hs.length = rs.length) (how0 : Ow lo tB 1 svC w v hs) (h3 : ∀ (i : Nat) (s : SV) (r : List Bool), hs[i]? = some s → rs[i]? = some r → SVok s r.length ∧ SlS (fun b => lo ≤ b ∧ b < z ∧ v.ownBlock ≠ some b) 1 boolC w s.A r) (hz : z ≤ w.heap.size)
    (hok : SVok s r.length) (hx : SlS (fun k => lo ≤ k ∧ v.ownBlock ≠ some k) 1 boolC w s.A r) (how : Ow lo tB 1 svC w' v' (hs ++ [s])) (hgr : w.grownBy w' v.ownBlock) (hob : v'.ownBlock = v.ownBlock ∨ v'.ownBlock = some w.heap.size) : FlW tB lo w.heap.size w' v' (rs ++ [r]) := by
  have key : ∀ b, b < w.heap.size → v.ownBlock ≠ some b → v'.ownBlock ≠ some b := fun b hb hn => by
    rcases hob with e | e
    · rw [e]; exact hn
    · rw [e]; intro e'; have := Option.some.inj e'; omega
  refine ⟨hs ++ [s], by simp [hl], how, fun i s' r' hg hr => ?_⟩
  have put : ∀ {s' : SV} {r' : List Bool}, SlS (fun b => lo ≤ b ∧ v.ownBlock ≠ some b) 1 boolC w s'.A r' → SlS (fun b => lo ≤ b ∧ b < w.heap.size ∧ v'.ownBlock ≠ some b) 1 boolC w' s'.A r' := fun hq =>
    ((hq.mono (T := fun b => lo ≤ b ∧ b < w.heap.size ∧ v.ownBlock ≠ some b ∧ v'.ownBlock ≠ some b) fun b hb h => ⟨h.1, hb, h.2, key b hb h.2⟩).keep hgr.size (fun b hb hl => hgr.block b hl fun e => hb.2.2.1 e.symm)).mono fun b _ h => ⟨h.1, h.2.1, h.2.2.2⟩
  rcases Nat.lt_trichotomy i hs.length with h | h | h
  · rw [List.getElem?_append_left h] at hg
    rw [List.getElem?_append_left (by omega)] at hr
    exact ⟨(h3 i s' r' hg hr).1, put ((h3 i s' r' hg hr).2.mono fun b _ hb => ⟨hb.1, hb.2.2⟩)⟩
  · rw [List.getElem?_append_right (by omega), h, Nat.sub_self] at hg
    rw [List.getElem?_append_right (by omega), h, hl, Nat.sub_self] at hr
    simp at hg hr
    subst hg hr
    exact ⟨hok, put hx⟩
  · rw [List.getElem?_eq_none (by simp; omega)] at hg
    cases hg
theorem FlW.in_ {A : Option Addr} {n c : Nat} (h : FlW tB lo z w (.slice A n c) rs) : FlIn w w.heap.size A rs := by
  obtain ⟨hs, h1, h2, h3⟩ := h
  exact ⟨hs, h1, (slS_ow svC_len1 h2 (S := fun _ => True) fun _ _ => trivial).sl, fun i s r hg hr => ⟨(h3 i s r hg hr).1, (h3 i s r hg hr).2.sl⟩⟩
end
theorem FlIn.tail {w : World} {B b o : Nat} {rs : List (List Bool)} (h : FlIn w B (some ⟨b, o, none⟩) rs) (k : Nat) : FlIn w B (some ⟨b, o + k, none⟩) (rs.drop k) := by
  obtain ⟨hs, h1, h2, h3⟩ := h
  refine ⟨hs.drop k, by simp [h1], ?_, fun i s r hg hr => ?_⟩
  · have := h2.tail k
    simpa using this
  · rw [List.getElem?_drop] at hg hr
    exact h3 (k + i) s r hg hr
end Go.Qo
