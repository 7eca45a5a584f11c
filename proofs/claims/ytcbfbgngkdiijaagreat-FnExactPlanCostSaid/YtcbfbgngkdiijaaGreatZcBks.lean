import Derived.Test.YtcbfbgngkdiijaaGreatZcPln
import Derived.Test.YtcbfbgngkdiijaaGreatProg
import Derived.Test.YtcbfbgngkdiijaaGreatZcGd
import Derived.Test.YtcbfbgngkdiijaaGreatZcMkg
import Derived.Test.YtcbfbgngkdiijaaGreatZcRwt
import Derived.Test.YtcbfbgngkdiijaaGreatZcGa
import Derived.Test.YtcbfbgngkdiijaaGreatZcTbg
import Derived.Test.YtcbfbgngkdiijaaGreatZcGb
import Derived.Deep.AppendLies
namespace Go.Qo
set_option linter.unusedVariables false
set_option linter.unusedSimpArgs false

end Go.Qo

namespace Go.Proofs.YtcbfbgngkdiijaaGreat
open Go.RowKit Go.Qo
set_option linter.unusedVariables false
set_option linter.unusedSimpArgs false

end Go.Proofs.YtcbfbgngkdiijaaGreat

namespace Go.Proofs.YtcbfbgngkdiijaaGreat
open Go.RowKit Go.Qo
set_option linter.unusedVariables false
set_option linter.unusedSimpArgs false

end Go.Proofs.YtcbfbgngkdiijaaGreat

namespace Go.Proofs.YtcbfbgngkdiijaaGreat
open Go.RowKit Go.Qo
set_option linter.unusedVariables false
set_option linter.unusedSimpArgs false

def svV (s : SV) : Value := .slice s.A s.n s.c
structure Bks (w : World) (wr : World) (vs : List SV) (bks : List (List Row1)) : Prop where
  len : vs.length = bks.length
  own : ∀ (k : Nat) (s : SV) (b : List Row1), vs[k]? = some s → bks[k]? = some b → ∃ l : List SV, s.n = l.length ∧ Ow w.heap.size 100 1 svC wr (svV s) l ∧ l.length = b.length ∧ ∀ (i : Nat) (sv : SV) (r : Row1), l[i]? = some sv → b[i]? = some r → SVIs 2 valC w w.heap.size sv r
  apart : ∀ (j k : Nat) (s t : SV) (g : Nat), vs[j]? = some s → vs[k]? = some t → (svV s).ownBlock = some g → (svV t).ownBlock = some g → j = k

theorem Bks.keep {w wr wr' : World} {vs : List SV} {bks : List (List Row1)} (h : Bks w wr vs bks) (hk : ∀ b, w.heap.size ≤ b → b < wr.heap.size → TyAt wr b 100 → wr'.heap[b]? = wr.heap[b]?) : Bks w wr' vs bks :=
  ⟨h.len, fun k s b h1 h2 => by obtain ⟨l, a, b', c, d⟩ := h.own k s b h1 h2; exact ⟨l, a, b'.keep hk, c, d⟩, h.apart⟩
theorem Bks.on {w wr wr' : World} {vs : List SV} {bks : List (List Row1)} (h : Bks w wr vs bks) (hb : Below wr.heap.size wr wr') : Bks w wr' vs bks := h.keep fun b _ hl _ => hb.block b hl
theorem Bks.put {w wr wr' : World} {vs : List SV} {bks : List (List Row1)} (h : Bks w wr vs bks) {j : Nat} {s : SV} {b : List Row1} {l : List SV} (hs : vs[j]? = some s) (hb : bks[j]? = some b) (hl : l.length = b.length) (hr : ∀ (i : Nat) (sv : SV) (r : Row1), l[i]? = some sv → b[i]? = some r → SVIs 2 valC w w.heap.size sv r)
    {g cap : Nat} {sv : SV} {r : Row1} (hsv : SVIs 2 valC w w.heap.size sv r) (hown : Ow w.heap.size 100 1 svC wr' (.slice (some ⟨g, 0, none⟩) (l ++ [sv]).length cap) (l ++ [sv])) (hg : wr.grownBy wr' (svV s).ownBlock) (hat : (svV s).ownBlock = some g ∨ g = wr.heap.size) :
    Bks w wr' (vs.set j ⟨some ⟨g, 0, none⟩, (l ++ [sv]).length, cap⟩) (bks.set j (b ++ [r])) := by
  have hblk : ∀ (k : Nat) (t : SV) (q : Nat), k ≠ j → vs[k]? = some t → (svV t).ownBlock = some q → q ≠ g ∧ wr'.heap[q]? = wr.heap[q]? := by
    intro k t q hkj ht hq
    have hkb : ∃ bk, bks[k]? = some bk := by
      have := (List.getElem?_eq_some_iff.1 ht).1
      exact ⟨_, List.getElem?_eq_getElem (by rw [← h.len]; exact this)⟩
    obtain ⟨bk, hbk⟩ := hkb
    obtain ⟨lk, _, how, _, _⟩ := h.own k t bk ht hbk
    have hlt := (how.ty q hq).2.1
    refine ⟨?_, hg.block q hlt fun e => ?_⟩
    · rintro rfl
      rcases hat with h1 | h1
      · exact hkj (h.apart k j t s q ht hs hq h1)
      · omega
    · exact hkj (h.apart k j t s q ht hs hq e.symm)
  refine ⟨by simp [h.len], fun k s' b' h1 h2 => ?_, fun j' k' s' t' q h1 h2 h3 h4 => ?_⟩
  · rw [List.getElem?_set] at h1 h2
    by_cases e : j = k
    · subst e
      rw [if_pos rfl] at h1 h2
      split at h1 <;> cases h1
      split at h2 <;> cases h2
      refine ⟨l ++ [sv], rfl, hown, by simp [hl], fun i sv' r' h3 h4 => ?_⟩
      rw [List.getElem?_append] at h3 h4
      rw [← hl] at h4
      split at h3
      · rename_i hi; rw [if_pos hi] at h4; exact hr i sv' r' h3 h4
      · rename_i hi
        rw [if_neg hi] at h4
        cases hj : i - l.length with
        | zero => rw [hj] at h3 h4; simp only [List.getElem?_cons_zero, Option.some.injEq] at h3 h4; subst h3; subst h4; exact hsv
        | succ m => rw [hj] at h3; simp at h3
    · rw [if_neg e] at h1 h2
      obtain ⟨lk, a1, a2, a3, a4⟩ := h.own k s' b' h1 h2
      refine ⟨lk, a1, ?_, a3, a4⟩
      refine ⟨a2.1, ?_⟩
      rcases a2.2 with h5 | ⟨g', cap', cur, hv, hg', hh, rest⟩
      · exact .inl h5
      · exact .inr ⟨g', cap', cur, hv, hg', (hblk k s' g' (fun e' => e e'.symm) h1 (by rw [hv]; rfl)).2.trans hh, rest⟩
  · rw [List.getElem?_set] at h1 h2
    by_cases e : j = j'
    · subst e
      by_cases e' : j = k'
      · exact e'
      · rw [if_neg e'] at h2
        rw [if_pos rfl] at h1
        split at h1 <;> cases h1
        cases h3
        exact absurd rfl (hblk k' t' g (fun x => e' x.symm) h2 h4).1
    · rw [if_neg e] at h1
      by_cases e' : j = k'
      · subst e'
        rw [if_pos rfl] at h2
        split at h2 <;> cases h2
        cases h4
        exact absurd rfl (hblk j' s' g (fun x => e x.symm) h1 h3).1
      · rw [if_neg e'] at h2
        exact h.apart j' k' s' t' q h1 h2 h3 h4
theorem Bks.start (w wr : World) (m : Nat) : Bks w wr (List.replicate m ⟨none, 0, 0⟩) (List.replicate m []) := by
  refine ⟨by simp, fun k s b h1 h2 => ?_, fun j k s t g h1 h2 h3 h4 => ?_⟩
  · have e1 := List.eq_of_mem_replicate (List.mem_of_getElem? h1)
    have e2 := List.eq_of_mem_replicate (List.mem_of_getElem? h2)
    subst e1
    subst e2
    exact ⟨[], rfl, Ow.nil, rfl, fun i sv r h => by simp at h⟩
  · have e1 := List.eq_of_mem_replicate (List.mem_of_getElem? h1)
    subst e1
    cases h3
end Go.Proofs.YtcbfbgngkdiijaaGreat
