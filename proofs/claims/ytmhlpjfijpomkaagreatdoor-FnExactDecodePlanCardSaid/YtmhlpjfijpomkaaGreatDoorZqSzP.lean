/-
  Contracts: sizes of plans, as the laws reckon them (szIntS, szPlanS, szPlan).
-/
import Derived.Test.YtmhlpjfijpomkaaGreatDoorProg
import Derived.Test.YtmhlpjfijpomkaaGreatDoorZqGf
namespace Go.Proofs.YtmhlpjfijpomkaaGreatDoor
open Go.RowKit Go.Qo
set_option linter.unusedVariables false
set_option linter.unusedSimpArgs false

/-- A list of plans. -/
def PlsIn (w : World) (B : Nat) (A : Option Addr) (ps : List Pl) : Prop :=
  ∃ fs : List FP, fs.length = ps.length ∧ Sl 5 fpC w B A fs ∧ ∀ (i : Nat) (g : FP) (x : Pl), fs[i]? = some g → ps[i]? = some x → PlIn w B g x
theorem PlsIn.on {w w' : World} {A : Option Addr} {ps : List Pl} (h : PlsIn w w.heap.size A ps) (hb : Below w.heap.size w w') : PlsIn w' w'.heap.size A ps := by
  obtain ⟨fs, h1, h2, h3⟩ := h
  exact ⟨fs, h1, h2.on hb, fun i g x hg hx => (h3 i g x hg hx).on hb⟩
theorem PlsIn.at_ {w : World} {B : Nat} {A : Option Addr} {ps : List Pl} (h : PlsIn w B A ps) {i : Nat} (hi : i < ps.length) : ∃ b o g, A = some ⟨b, o, none⟩ ∧ b < B ∧ FpAt w b (o + i * 5) g ∧ PlIn w B g ps[i] := by
  obtain ⟨fs, h1, h2, h3⟩ := h
  have hi' : i < fs.length := by omega
  obtain ⟨b, o, hA, hB, hc⟩ := h2 (by omega)
  have hx := List.getElem?_eq_getElem hi'
  exact ⟨b, o, fs[i], hA, hB, ⟨hc i _ hx 0 _ rfl, hc i _ hx 1 _ rfl, hc i _ hx 2 _ rfl, hc i _ hx 3 _ rfl, hc i _ hx 4 _ rfl⟩, h3 i _ _ hx (List.getElem?_eq_getElem hi)⟩
theorem plKids_in {w : World} {B : Nat} {f : FP} {p : Pl} (h : PlIn w B f p) : PlsIn w B f.ks.A p.kids := by
  obtain ⟨n, h⟩ := h
  cases n with
  | zero => exact h.elim
  | succ n =>
    obtain ⟨_, _, _, _, _, _, _, fs, h7, h8, h9⟩ := h
    exact ⟨fs, h7, h8, fun i g x hg hx => ⟨n, h9 i g x hg hx⟩⟩
mutual
def plCnt : Pl → Nat
  | .mk _ _ es cs ks => (es.length + exKids es) + (cs.length + (ks.length + plKids ks))
def plKids : List Pl → Nat
  | [] => 0
  | x :: xs => plCnt x + plKids xs
end
theorem plCnt_eq (p : Pl) : plCnt p = (p.exprs.length + exKids p.exprs) + (p.cols.length + (p.kids.length + plKids p.kids)) := by
  obtain ⟨k, t, es, cs, ks⟩ := p
  rw [plCnt]
  rfl
theorem plKids_append : ∀ (a b : List Pl), plKids (a ++ b) = plKids a + plKids b
  | [], b => by simp [plKids]
  | x :: a, b => by rw [List.cons_append, plKids, plKids, plKids_append a b]; omega
theorem plKids_take {ks : List Pl} {i : Nat} (h : i < ks.length) : plKids (ks.take (i + 1)) = plKids (ks.take i) + plCnt ks[i] := by
  rw [List.take_succ_eq_append_getElem h, plKids_append]
  simp [plKids]
theorem plKids_le {ks : List Pl} (i : Nat) : plKids (ks.take i) ≤ plKids ks := by
  have : plKids ks = plKids (ks.take i) + plKids (ks.drop i) := by rw [← plKids_append, List.take_append_drop]
  omega
theorem plCnt_mem {ks : List Pl} {x : Pl} (h : x ∈ ks) : plCnt x ≤ plKids ks := by
  obtain ⟨i, hi, rfl⟩ := List.getElem_of_mem h
  have h1 := plKids_take hi
  have h2 := plKids_le (ks := ks) (i + 1)
  omega
theorem plB_of_cnt : ∀ p : Pl, plCnt p ≤ 1048576 → PlB p := Pl.ind fun p ih h => by
  rw [plCnt_eq] at h
  exact .mk (by omega) (by omega) (by omega) (fun x hx => exB_of_cnt x (by have := exCnt_mem hx; omega)) fun y hy => ih y hy (by have := plCnt_mem hy; omega)

end Go.Proofs.YtmhlpjfijpomkaaGreatDoor
