/-
  What laws about two tables share: the reference's table and the program's are the same; tables of the call's own read as rows.
-/
import Derived.Test.YtfhafbincknaeaaProg
import Derived.Test.YtfhafbincknaeaaPln
import Derived.Test.YtfhafbincknaeaaCol
import Derived.Test.YtfhafbincknaeaaHel
import Derived.Test.YtfhafbincknaeaaBag
namespace Go.Proofs.Ytfhafbincknaeaa
open Go.RowKit Go.Qo
set_option linter.unusedVariables false
set_option linter.unusedSimpArgs false

theorem tab_same {q : Bool} {W W1 W2 : Int} {rs ri out out' : List Row1} (hv : q = true → rs.Perm ri ∧ ∀ r ∈ rs, RowOk W r) (h : TabD q W rs W1 out) (h' : TabC q W ri W2 out') : W2 = W1 ∧ out' = out := by
  rcases h with ⟨hq, rfl, rfl⟩ | ⟨hq, rfl, h1⟩
  · rcases h' with ⟨_, rfl, rfl⟩ | ⟨hq', _, _⟩
    · exact ⟨rfl, rfl⟩
    · rw [hq] at hq'; cases hq'
  · rcases h' with ⟨hq', _, _⟩ | ⟨_, rfl, h2⟩
    · rw [hq] at hq'; cases hq'
    · obtain ⟨hp, hr⟩ := hv hq
      refine ⟨rfl, ?_⟩
      by_cases hl : rs.length ≤ 400
      · rw [if_pos hl] at h1
        rw [if_pos (hp.length_eq ▸ hl)] at h2
        have hp1 := h1.perm
        exact srt_unique (W := W2) (fun r h3 => hr r ((h2.1.trans hp.symm).mem_iff.1 h3)) ((h2.1.trans hp.symm).trans hp1.symm) h2.2 (h1.srt hr)
      · rw [if_neg hl] at h1
        rw [if_neg (hp.length_eq ▸ hl)] at h2
        rw [h1, h2]
theorem tabC_bd {q : Bool} {W W2 : Int} {ri out : List Row1} (hv : q = true → ∀ r ∈ ri, RowOk W r) (h : TabC q W ri W2 out) : out.length ≤ 400 ∧ ∀ r ∈ out, r.length ≤ 16 := by
  rcases h with ⟨hq, rfl, rfl⟩ | ⟨hq, rfl, h1⟩
  · exact ⟨by simp, fun r h => by simp at h⟩
  · by_cases hl : ri.length ≤ 400
    · rw [if_pos hl] at h1
      refine ⟨by rw [h1.1.length_eq]; exact hl, fun r hr => ?_⟩
      have := rowValid_len (hv hq r (h1.1.mem_iff.1 hr)).1
      omega
    · rw [if_neg hl] at h1
      subst h1
      exact ⟨by simp, fun r h => by simp at h⟩
theorem OwnRs.sv {w : World} {B0 b : Nat} {bs : List Nat} {rows : List Row1} {tO tI : TypeId} (h : OwnRs valC tO tI w B0 b bs rows []) (hm : ∀ r ∈ rows, r.length ≤ maxLen) :
    ∃ svs, Sl 1 svC w w.heap.size (some ⟨b, 0, none⟩) svs ∧ RowsT tI 2 valC 0 w svs rows := by
  refine ⟨List.zipWith rowSV bs rows, Row.sl (t := tO) (more := []) svC_length h.outer, by rw [List.length_zipWith, h.len, Nat.min_self], fun i s xs h1 h2 => ?_⟩
  rw [List.getElem?_zipWith, h2] at h1
  cases hc : bs[i]? with
  | none => rw [hc] at h1; simp at h1
  | some c =>
    rw [hc] at h1
    simp only [Option.some.injEq] at h1
    subst h1
    exact ⟨rfl, Nat.le_refl _, hm xs (List.mem_of_getElem? h2), Row.slT' valC_length (h.inner i c xs hc h2) (Nat.zero_le _)⟩
theorem putT {w : World} {b : Nat} {t : TypeId} {a a' : Value} (h : Row w b t [a, a']) (u u' : Value) : Row ((w.setCell ⟨b, 0, none⟩ u).setCell ⟨b, 1, none⟩ u') b t [u, u'] := ((h.set 0 _).set 1 _).of rfl
theorem belT {B b : Nat} {a z : World} (h : Below B a z) (hb : B ≤ b) (u u' : Value) : Below B a ((z.setCell ⟨b, 0, none⟩ u).setCell ⟨b, 1, none⟩ u') := (h.setCell hb _).setCell hb _
theorem onlyT (w : World) (b : Nat) (u u' : Value) : Only (fun i => i = b) w ((w.setCell ⟨b, 0, none⟩ u).setCell ⟨b, 1, none⟩ u') :=
  (Only.set (S := fun i => i = b) (p := ⟨b, 0, none⟩) (Only.refl w) (.inl rfl) u).set (p := ⟨b, 1, none⟩) (.inl rfl) u'
/-- A table's rows, read where they lie; n says how many. -/
def RwsN (z : World) (B : Nat) (v : Value) (n : Nat) (out : List Row1) : Prop := ∃ A c, v = .slice A n c ∧ n = out.length ∧ Rws z B A out
theorem Rws.below {B : Nat} {A : Option Addr} {w w' : World} {out : List Row1} (h : Rws w B A out) (hb : Below B w w') : Rws w' B A out := by
  obtain ⟨svs, h1, h2, h3⟩ := h
  exact ⟨svs, h1, h2.below hb, fun i s xs ha hc => by
    obtain ⟨k1, k2, k3, k4⟩ := h3 i s xs ha hc
    exact ⟨k1, k2, k3, k4.below hb⟩⟩
theorem Rws.more {B B' : Nat} {A : Option Addr} {w : World} {out : List Row1} (h : Rws w B A out) (hB : B ≤ B') : Rws w B' A out := by
  obtain ⟨svs, h1, h2, h3⟩ := h
  exact ⟨svs, h1, h2.more hB, fun i s xs ha hc => by
    obtain ⟨k1, k2, k3, k4⟩ := h3 i s xs ha hc
    exact ⟨k1, k2, k3, k4.more hB⟩⟩
/-- The reference's table: its width, its rows. -/
theorem SpecTab.read {q : Bool} {W : Int} {rows : List Row1} {w w' : World} {e : Ending} (h : SpecTab q W rows w e w') : ∃ (W1 : Int) (A : Option Addr) (c : Nat) (svs : List SV) (out : List Row1), e = .returned (.tuple #[.agg #[.int .i64 W1, .slice A out.length c], .bool q]) ∧ TabD q W rows W1 out ∧ Ow w.heap.size 42 1 svC w' (.slice A out.length c) svs ∧ RowsT 44 2 valC 0 w' svs out ∧ Below w.heap.size w w' := by
  obtain ⟨W1, v, svs, out, rfl, h1, h2, h3, h4⟩ := h
  obtain ⟨A, c, rfl, _, _, _⟩ := h2.shape svC_length
  have hl := h3.1
  rw [hl] at h2 ⊢
  exact ⟨W1, A, c, svs, out, rfl, h1, h2, h3, h4⟩
theorem TabRes.read {q : Bool} {W : Int} {rows : List Row1} {w w' : World} {e : Ending} (h : TabRes q W rows w e w') : ∃ (W1 : Int) (A : Option Addr) (c : Nat) (cp : List SRw), e = .returned (.tuple #[.agg #[.int .i64 W1, .slice A cp.length c], .bool q]) ∧ TabC q W rows W1 (cp.map (·.2)) ∧ Ow w.heap.size 42 1 svC w' (.slice A cp.length c) (cp.map (·.1)) ∧ Cps w.heap.size w' cp ∧ Below w.heap.size w w' := by
  obtain ⟨W1, v, cp, rfl, h1, h2, h3, h4⟩ := h
  obtain ⟨A, c, rfl, _, _, _⟩ := h2.shape svC_length
  rw [List.length_map] at h2 ⊢
  exact ⟨W1, A, c, cp, rfl, h1, h2, h3, h4⟩
theorem rws_cp {lo lo' : Nat} {w : World} {A : Option Addr} {c : Nat} {cp : List SRw} (h : Ow lo' 42 1 svC w (.slice A cp.length c) (cp.map (·.1))) (h' : Cps lo w cp) : Rws w w.heap.size A (cp.map (·.2)) := by
  obtain ⟨A2, c2, e, _, _, h2⟩ := h.shape svC_length
  injection e with e1 e2 e3
  subst e1
  exact sls_of' h2.sl h'.rows
theorem rws_sv {lo' : Nat} {w : World} {A : Option Addr} {c : Nat} {svs : List SV} {out : List Row1} (h : Ow lo' 42 1 svC w (.slice A out.length c) svs) (h' : RowsT 44 2 valC 0 w svs out) : Rws w w.heap.size A out := by
  obtain ⟨A2, c2, e, _, _, h2⟩ := h.shape svC_length
  injection e with e1 e2 e3
  subst e1
  exact sls_of' h2.sl h'
end Go.Proofs.Ytfhafbincknaeaa
