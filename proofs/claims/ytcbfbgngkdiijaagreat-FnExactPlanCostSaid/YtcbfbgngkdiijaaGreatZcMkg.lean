import Derived.Test.YtcbfbgngkdiijaaGreatProg
import Derived.Test.YtcbfbgngkdiijaaGreatZcPln
import Derived.Test.YtcbfbgngkdiijaaGreatZcRwt
import Derived.Test.YtcbfbgngkdiijaaGreatZcCol
import Derived.Test.YtcbfbgngkdiijaaGreatZcMjg
import Derived.Test.YtcbfbgngkdiijaaGreatZcTbg
import Derived.Deep.DeepCutAuto
import Derived.Test.YtcbfbgngkdiijaaGreatZcGf
namespace Go.Proofs.YtcbfbgngkdiijaaGreat
open Go.RowKit Go.Qo
set_option linter.unusedVariables false
set_option linter.unusedSimpArgs false

theorem set_mid {α : Type} (xs ys : List α) (y : α) (i : Nat) (hl : xs.length = i) (hi : i < ys.length) : (xs ++ ys.drop i).set i y = (xs ++ [y]) ++ ys.drop (i + 1) := by
  rw [List.set_append_right _ _ (by omega), hl, Nat.sub_self, List.drop_eq_getElem_cons hi, List.set_cons_zero, List.append_assoc, List.singleton_append]

def OwnB (v : Value) : Nat → Prop := fun i => v.ownBlock = some i

end Go.Proofs.YtcbfbgngkdiijaaGreat

namespace Go.Proofs.YtcbfbgngkdiijaaGreat
open Go.RowKit Go.Qo
set_option linter.unusedVariables false
set_option linter.unusedSimpArgs false

theorem Row.ow {α : Type} {sz : Nat} {enc : α → List Value} (he : ∀ x, (enc x).length = sz) {w : World} {lo b : Nat} {t : TypeId} {xs : List α} (h : Row w b t (xs.flatMap enc)) (hlo : lo ≤ b) (hm : xs.length ≤ maxLen) :
    Ow lo t sz enc w (.slice (some ⟨b, 0, none⟩) xs.length xs.length) xs :=
  ⟨flat_length sz enc he xs, .inr ⟨b, xs.length, _, rfl, hlo, h, Nat.le_refl _, hm, by simp [flat_length sz enc he xs], by simp; rw [List.take_of_length_le (by rw [flat_length sz enc he xs]; omega)]⟩⟩

end Go.Proofs.YtcbfbgngkdiijaaGreat

namespace Go.Proofs.YtcbfbgngkdiijaaGreat
open Go.RowKit Go.Qo
set_option linter.unusedVariables false
set_option linter.unusedSimpArgs false

theorem Ow.apart {α : Type} {lo : Nat} {e : TypeId} {sz : Nat} {enc : α → List Value} {w w' : World} {v : Value} {xs : List α} {S : Nat → Prop} (h : Ow lo e sz enc w v xs) (k : Only S w w') (hS : ∀ b, v.ownBlock = some b → ¬ S b) : Ow lo e sz enc w' v xs := by
  refine ⟨h.1, ?_⟩
  rcases h.2 with h2 | ⟨g, cap, cur, hv, hg, hh, r⟩
  · exact .inl h2
  · exact .inr ⟨g, cap, cur, hv, hg, (k.block g (Array.getElem?_eq_some_iff.1 hh).1 (hS g (by rw [hv]; rfl))).trans hh, r⟩
theorem Cps.put {lo : Nat} {z z' : World} {cp : List SRw} {i : Nat} {p : SRw} {ys : Row1} (h : Cps lo z cp) (hi : cp[i]? = some p) (hk : Only (OwnB (.slice p.1.A p.1.n p.1.c)) z z') (hp : OwP lo z' (p.1, ys)) : Cps lo z' (cp.set i (p.1, ys)) := by
  have hil := (List.getElem?_eq_some_iff.1 hi).1
  have hie := (List.getElem?_eq_some_iff.1 hi).2
  refine ⟨fun q hq => ?_, ?_⟩
  · obtain ⟨j, hj, rfl⟩ := List.getElem_of_mem hq
    rw [List.length_set] at hj
    rw [List.getElem_set]
    split
    · exact hp
    · rename_i hne
      have h1 := h.1 cp[j] (List.getElem_mem hj)
      refine ⟨h1.1, Ow.apart h1.2 hk fun b hb hc => ?_⟩
      have hpw := List.pairwise_iff_getElem.1 h.2
      rcases Nat.lt_or_gt_of_ne hne with hlt | hlt
      · exact hpw i j hil hj hlt b (by rw [hie]; exact hc) hb
      · exact hpw j i hj hil hlt b hb (by rw [hie]; exact hc)
  · have e : (cp.set i (p.1, ys)).map (·.1) = cp.map (·.1) := by
      rw [List.map_set]
      apply List.ext_getElem?
      intro j
      rw [List.getElem?_set]
      split
      · rename_i h1
        subst h1
        rw [List.getElem?_map, hi]
        simp [hil]
      · rfl
    have key : ∀ l : List SRw, l.Pairwise Apart ↔ (l.map (·.1)).Pairwise fun s t => ∀ b, svB s = some b → svB t ≠ some b := fun l => by rw [List.pairwise_map]; rfl
    rw [key, e, ← key]
    exact h.2

end Go.Proofs.YtcbfbgngkdiijaaGreat

namespace Go.Proofs.YtcbfbgngkdiijaaGreat
open Go.RowKit Go.Qo
set_option linter.unusedVariables false
set_option linter.unusedSimpArgs false

theorem OwnRs.sv {w : World} {B0 b : Nat} {bs : List Nat} {rows : List Row1} {tO tI : TypeId} (h : OwnRs valC tO tI w B0 b bs rows []) (hm : ∀ r ∈ rows, r.length ≤ maxLen) :
    ∃ svs, Sl 1 svC w w.heap.size (some ⟨b, 0, none⟩) svs ∧ RowsT tI 2 valC 0 w svs rows := by
  refine ⟨List.zipWith rowSV bs rows, Row.sl (t := tO) (more := []) svC_length h.outer, by rw [List.length_zipWith, h.len, Nat.min_self], fun i s xs h1 h2 => ?_⟩
  rw [List.getElem?_zipWith, h2] at h1
  cases hc : bs[i]? with
  | none => rw [hc] at h1; simp at h1
  | some c =>
    rw [hc] at h1
    simp only [Option.some.injEq] at h1
    subst h1
    exact ⟨rfl, Nat.le_refl _, hm xs (List.mem_of_getElem? h2), Row.slT' valC_length (h.inner i c xs hc h2) (Nat.zero_le _)⟩
theorem belT {B b : Nat} {a z : World} (h : Below B a z) (hb : B ≤ b) (u u' : Value) : Below B a ((z.setCell ⟨b, 0, none⟩ u).setCell ⟨b, 1, none⟩ u') := (h.setCell hb _).setCell hb _
theorem onlyT (w : World) (b : Nat) (u u' : Value) : Only (fun i => i = b) w ((w.setCell ⟨b, 0, none⟩ u).setCell ⟨b, 1, none⟩ u') :=
  (Only.set (S := fun i => i = b) (p := ⟨b, 0, none⟩) (Only.refl w) (.inl rfl) u).set (p := ⟨b, 1, none⟩) (.inl rfl) u'
theorem Rws.below {B : Nat} {A : Option Addr} {w w' : World} {out : List Row1} (h : Rws w B A out) (hb : Below B w w') : Rws w' B A out := by
  obtain ⟨svs, h1, h2, h3⟩ := h
  exact ⟨svs, h1, h2.below hb, fun i s xs ha hc => by
    obtain ⟨k1, k2, k3, k4⟩ := h3 i s xs ha hc
    exact ⟨k1, k2, k3, k4.below hb⟩⟩
theorem Rws.more {B B' : Nat} {A : Option Addr} {w : World} {out : List Row1} (h : Rws w B A out) (hB : B ≤ B') : Rws w B' A out := by
  obtain ⟨svs, h1, h2, h3⟩ := h
  exact ⟨svs, h1, h2.more hB, fun i s xs ha hc => by
    obtain ⟨k1, k2, k3, k4⟩ := h3 i s xs ha hc
    exact ⟨k1, k2, k3, k4.more hB⟩⟩
theorem SpecTab.read {q : Bool} {W : Int} {rows : List Row1} {w w' : World} {e : Ending} (h : SpecTab q W rows w e w') : ∃ (W1 : Int) (A : Option Addr) (c : Nat) (svs : List SV) (out : List Row1), e = .returned (.tuple #[.agg #[.int .i64 W1, .slice A out.length c], .bool q]) ∧ TabD q W rows W1 out ∧ Ow w.heap.size 100 1 svC w' (.slice A out.length c) svs ∧ RowsT 85 2 valC 0 w' svs out ∧ Below w.heap.size w w' := by
  obtain ⟨W1, v, svs, out, rfl, h1, h2, h3, h4⟩ := h
  obtain ⟨A, c, rfl, _, _, _⟩ := h2.shape svC_length
  have hl := h3.1
  rw [hl] at h2 ⊢
  exact ⟨W1, A, c, svs, out, rfl, h1, h2, h3, h4⟩
theorem TabRes.read {q : Bool} {W : Int} {rows : List Row1} {w w' : World} {e : Ending} (h : TabRes q W rows w e w') : ∃ (W1 : Int) (A : Option Addr) (c : Nat) (cp : List SRw), e = .returned (.tuple #[.agg #[.int .i64 W1, .slice A cp.length c], .bool q]) ∧ TabC q W rows W1 (cp.map (·.2)) ∧ Ow w.heap.size 100 1 svC w' (.slice A cp.length c) (cp.map (·.1)) ∧ Cps w.heap.size w' cp ∧ Below w.heap.size w w' := by
  obtain ⟨W1, v, cp, rfl, h1, h2, h3, h4⟩ := h
  obtain ⟨A, c, rfl, _, _, _⟩ := h2.shape svC_length
  rw [List.length_map] at h2 ⊢
  exact ⟨W1, A, c, cp, rfl, h1, h2, h3, h4⟩
end Go.Proofs.YtcbfbgngkdiijaaGreat

namespace Go.Proofs.YtcbfbgngkdiijaaGreat
open Go.RowKit Go.Qo
set_option linter.unusedVariables false
set_option linter.unusedSimpArgs false

end Go.Proofs.YtcbfbgngkdiijaaGreat

namespace Go.Proofs.YtcbfbgngkdiijaaGreat
open Go.RowKit Go.Qo
set_option linter.unusedVariables false

end Go.Proofs.YtcbfbgngkdiijaaGreat

namespace Go.Proofs.YtcbfbgngkdiijaaGreat
open Go.RowKit Go.Qo
set_option linter.unusedVariables false
set_option linter.unusedSimpArgs false

end Go.Proofs.YtcbfbgngkdiijaaGreat

namespace Go.Proofs.YtcbfbgngkdiijaaGreat
open Go.RowKit Go.Qo
set_option linter.unusedVariables false
set_option linter.unusedSimpArgs false

def DrTab (lo : Nat) (w : World) (W : Int) (v : Value) (svs : List SV) (rows : List Row1) : Prop :=
  W ≤ 16 ∧ rows.length ≤ 16 ∧ (∀ r ∈ rows, r.length ≤ 16) ∧ Ow lo 100 1 svC w v svs ∧ RowsT 85 2 valC lo w svs rows
theorem DrTab.low {lo lo' : Nat} {w : World} {W : Int} {v : Value} {svs : List SV} {rows : List Row1} (h : DrTab lo w W v svs rows) (hl : lo' ≤ lo) : DrTab lo' w W v svs rows := ⟨h.1, h.2.1, h.2.2.1, h.2.2.2.1.low hl, h.2.2.2.2.low hl⟩
theorem DrTab.on {lo : Nat} {w w' : World} {W : Int} {v : Value} {svs : List SV} {rows : List Row1} (h : DrTab lo w W v svs rows) (hb : Below w.heap.size w w') : DrTab lo w' W v svs rows := ⟨h.1, h.2.1, h.2.2.1, h.2.2.2.1.on hb, h.2.2.2.2.on hb⟩
theorem DrTab.only {lo : Nat} {w w' : World} {S : Nat → Prop} {W : Int} {v : Value} {svs : List SV} {rows : List Row1} (h : DrTab lo w W v svs rows) (hb : Only S w w') (hS : ∀ k, S k → k < lo ∨ TyAt w k 32) : DrTab lo w' W v svs rows :=
  ⟨h.1, h.2.1, h.2.2.1, h.2.2.2.1.only hb fun k hk => (hS k hk).imp id fun ht => ⟨_, by decide, ht⟩, h.2.2.2.2.only hb fun k hk => (hS k hk).imp id fun ht => ⟨_, by decide, ht⟩⟩
theorem DrTab.sl {lo : Nat} {w : World} {W : Int} {A : Option Addr} {n c : Nat} {svs : List SV} {rows : List Row1} (h : DrTab lo w W (.slice A n c) svs rows) : Sl 1 svC w w.heap.size A svs := by
  obtain ⟨A2, c2, e, _, _, h2⟩ := h.2.2.2.1.shape svC_length
  injection e with e1 e2 e3
  subst e1
  exact h2.sl
end Go.Proofs.YtcbfbgngkdiijaaGreat

namespace Go.Proofs.YtcbfbgngkdiijaaGreat
open Go.RowKit Go.Qo
set_option linter.unusedVariables false
set_option linter.unusedSimpArgs false

theorem DrTab.read {lo : Nat} {w : World} {W : Int} {v : Value} {svs : List SV} {rows : List Row1} (h : DrTab lo w W v svs rows) :
    ∃ A c, v = .slice A rows.length c ∧ rows.length ≤ c ∧ c ≤ maxLen ∧ Sl 1 svC w w.heap.size A svs ∧ RowsT 85 2 valC 0 w svs rows ∧ rows.length ≤ 16 ∧ (∀ r ∈ rows, r.length ≤ 16) := by
  obtain ⟨_, h2, h3, h4, h5⟩ := h
  obtain ⟨A, c, rfl, h6, h7, h8⟩ := h4.shape svC_length
  have hl := h5.1
  exact ⟨A, c, by rw [hl], by omega, h7, h8.sl, h5.low (Nat.zero_le _), h2, h3⟩
theorem Ow.cap {lo : Nat} {w : World} {A : Option Addr} {n c : Nat} {svs : List SV} (h : Ow lo 100 1 svC w (.slice A n c) svs) : n ≤ c ∧ c ≤ maxLen := by
  obtain ⟨A2, c2, e, h1, h2, _⟩ := h.shape svC_length
  injection e with e1 e2 e3
  subst e2
  subst e3
  exact ⟨h1, h2⟩
end Go.Proofs.YtcbfbgngkdiijaaGreat

namespace Go.Proofs.YtcbfbgngkdiijaaGreat
open Go.RowKit Go.Qo
set_option linter.unusedVariables false
set_option linter.unusedSimpArgs false

end Go.Proofs.YtcbfbgngkdiijaaGreat
