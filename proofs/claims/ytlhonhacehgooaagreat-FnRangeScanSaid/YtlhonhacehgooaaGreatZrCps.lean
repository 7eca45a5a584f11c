/-
  Rows of the call's own, each in memory of its own.
-/
import Derived.Test.YtlhonhacehgooaaGreatProg
import Derived.Test.YtlhonhacehgooaaGreatZrRwt
import Derived.Test.YtlhonhacehgooaaGreatZrPln
namespace Go.Proofs.YtlhonhacehgooaaGreat
open Go.RowKit Go.Qo
set_option linter.unusedVariables false
set_option linter.unusedSimpArgs false

/-- A slice with the row that it reads as. -/
abbrev SRw := SV × Row1
/-- A row of the call's own, with its slice. -/
def OwP (lo : Nat) (z : World) (p : SRw) : Prop := p.1.n = p.2.length ∧ Ow lo 55 2 valC z (.slice p.1.A p.1.n p.1.c) p.2
def svB (s : SV) : Option Nat := (Value.slice s.A s.n s.c).ownBlock
/-- Two rows in memory of their own each. -/
def Apart (p q : SRw) : Prop := ∀ b, svB p.1 = some b → svB q.1 ≠ some b
theorem Apart.symm {p q : SRw} (h : Apart p q) : Apart q p := fun b hb hc => h b hc hb
/-- Rows of the call's own, each in memory of its own. -/
def Cps (lo : Nat) (z : World) (cp : List SRw) : Prop := (∀ p ∈ cp, OwP lo z p) ∧ cp.Pairwise Apart
theorem Cps.nil {lo : Nat} {z : World} : Cps lo z [] := ⟨fun _ h => by simp at h, List.Pairwise.nil⟩
theorem Cps.keep {lo : Nat} {z z' : World} {cp : List SRw} (h : Cps lo z cp) (hk : ∀ b, lo ≤ b → b < z.heap.size → TyAt z b 55 → z'.heap[b]? = z.heap[b]?) : Cps lo z' cp := ⟨fun p hp => ⟨(h.1 p hp).1, (h.1 p hp).2.keep hk⟩, h.2⟩
theorem Cps.on {lo : Nat} {z z' : World} {cp : List SRw} (h : Cps lo z cp) (hb : Below z.heap.size z z') : Cps lo z' cp := h.keep fun b _ hl _ => hb.block b hl
theorem Cps.only {lo : Nat} {z z' : World} {cp : List SRw} {S : Nat → Prop} (h : Cps lo z cp) (k : Only S z z') (hS : ∀ b, S b → b < lo ∨ ∃ u, u ≠ 55 ∧ TyAt z b u) : Cps lo z' cp :=
  h.keep fun b h1 h2 h3 => k.block b h2 fun hs => by
    rcases hS b hs with h4 | ⟨u, h4, h5⟩
    · omega
    · exact (TyAt.ne h5 h3 h4) rfl
theorem Cps.grown {lo : Nat} {z z' : World} {cp : List SRw} {row : Option Nat} (h : Cps lo z cp) (hg : z.grownBy z' row) (hr : ∀ b, row = some b → ∃ u, u ≠ 55 ∧ TyAt z b u) : Cps lo z' cp :=
  h.keep fun b h1 h2 h3 => hg.block b h2 fun e => by
    obtain ⟨u, h4, h5⟩ := hr b e.symm
    exact (TyAt.ne h5 h3 h4) rfl
theorem Cps.low {lo lo' : Nat} {z : World} {cp : List SRw} (h : Cps lo z cp) (hl : lo' ≤ lo) : Cps lo' z cp := ⟨fun p hp => ⟨(h.1 p hp).1, (h.1 p hp).2.low hl⟩, h.2⟩
theorem OwP.slT {lo : Nat} {z : World} {p : SRw} (h : OwP lo z p) : p.2.length ≤ p.1.c ∧ p.1.c ≤ maxLen ∧ SlT 55 2 valC lo z p.1.A p.2 := by
  obtain ⟨A, c, e, h1, h2, h3⟩ := h.2.shape valC_length
  injection e with e1 e2 e3
  rw [e1, e3]
  exact ⟨h1, h2, h3⟩
theorem Cps.rows {lo : Nat} {z : World} {cp : List SRw} (h : Cps lo z cp) : RowsT 55 2 valC lo z (cp.map (·.1)) (cp.map (·.2)) := by
  refine ⟨by simp, fun i s xs h1 h2 => ?_⟩
  rw [List.getElem?_map] at h1 h2
  cases hp : cp[i]? with
  | none => rw [hp] at h1; cases h1
  | some p =>
    rw [hp] at h1 h2
    cases h1; cases h2
    have := h.1 p (List.mem_of_getElem? hp)
    exact ⟨this.1, this.slT⟩
theorem Cps.perm {lo : Nat} {z : World} {cp qs : List SRw} (h : Cps lo z cp) (hp : qs.Perm cp) : Cps lo z qs := ⟨fun p hq => h.1 p (hp.mem_iff.1 hq), (hp.pairwise_iff Apart.symm).2 h.2⟩
theorem Cps.snoc {lo : Nat} {z0 z : World} {cp : List SRw} {p : SRw} (h0 : Cps lo z0 cp) (h : Cps lo z cp) (hl : lo ≤ z0.heap.size) (hp : OwP z0.heap.size z p) : Cps lo z (cp ++ [p]) := by
  refine ⟨fun q hq => ?_, ?_⟩
  · rcases List.mem_append.1 hq with h1 | h1
    · exact h.1 q h1
    · simp only [List.mem_singleton] at h1
      subst h1
      exact ⟨hp.1, hp.2.low hl⟩
  · rw [List.pairwise_append]
    refine ⟨h.2, List.pairwise_singleton _ _, fun a ha b hb => ?_⟩
    simp only [List.mem_singleton] at hb
    subst hb
    intro k h1 h2
    have h3 := ((h0.1 a ha).2.ty k h1).2.1
    have h4 := (hp.2.ty k h2).1
    omega
end Go.Proofs.YtlhonhacehgooaaGreat
