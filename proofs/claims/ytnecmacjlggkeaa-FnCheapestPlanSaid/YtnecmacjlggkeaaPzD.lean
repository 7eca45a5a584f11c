/-
  The parts of a plan, itself first: in plain Lean.
-/
import Derived.Test.YtnecmacjlggkeaaPlV
namespace Go.Qo
open Go.RowKit
set_option linter.unusedVariables false
set_option linter.unusedSimpArgs false

mutual
def Pl.parts : Pl → List Pl
  | .mk k t es cs ks => .mk k t es cs ks :: partsL ks
def partsL : List Pl → List Pl
  | [] => []
  | p :: ps => p.parts ++ partsL ps
end
theorem parts_eq (p : Pl) : p.parts = p :: partsL p.kids := by
  cases p with | mk k t es cs ks => rw [Pl.parts]; rfl
theorem partsL_append : ∀ (xs ys : List Pl), partsL (xs ++ ys) = partsL xs ++ partsL ys
  | [], ys => by rw [partsL]; rfl
  | x :: xs, ys => by rw [List.cons_append, partsL, partsL, partsL_append xs ys, List.append_assoc]
theorem partsL_snoc (xs : List Pl) (x : Pl) : partsL (xs ++ [x]) = partsL xs ++ x.parts := by
  rw [partsL_append]
  congr 1
  rw [partsL, partsL, List.append_nil]
theorem partsL_take {ks : List Pl} {i : Nat} (h : i < ks.length) : partsL (ks.take (i + 1)) = partsL (ks.take i) ++ (ks[i]).parts := by
  rw [List.take_add_one, List.getElem?_eq_getElem h]
  exact partsL_snoc _ _
theorem partsL_le {m : Nat} : ∀ (ks : List Pl), (∀ x ∈ ks, x.parts.length ≤ m) → (partsL ks).length ≤ ks.length * m
  | [], _ => by rw [partsL]; simp
  | x :: xs, h => by
    rw [partsL, List.length_append, List.length_cons, Nat.add_mul, Nat.one_mul]
    have h1 := h x (List.mem_cons_self ..)
    have h2 := partsL_le xs fun y hy => h y (List.mem_cons_of_mem _ hy)
    omega
/-- A valid plan has few parts. -/
theorem parts_le {ws : List Int} : ∀ (d : Nat) (p : Pl), plW ws d p ≠ 0 → p.parts.length ≤ 2 ^ (d + 1) - 1
  | d, p, h => by
    have ho : OnlyF p := Classical.byContradiction fun hn => h (plW_no hn)
    have hk := ho.kids_le
    rw [parts_eq, List.length_cons]
    cases d with
    | zero =>
      have h0 : ¬ 0 < p.kids.length := fun hn => h (plW_deep hn)
      have he : p.kids = [] := List.eq_nil_of_length_eq_zero (by omega)
      rw [he, partsL]
      simp
    | succ d =>
      have h1 := partsL_le (m := 2 ^ (d + 1) - 1) p.kids fun x hx => by
        obtain ⟨_, k, he, hv⟩ := plW_kids h hx
        obtain rfl : k = d := by omega
        exact parts_le k x hv
      have h2 : 2 ^ (d + 1 + 1) = 2 * 2 ^ (d + 1) := by rw [Nat.pow_succ, Nat.mul_comm]
      have h3 := Nat.two_pow_pos (d + 1)
      have h4 : p.kids.length * (2 ^ (d + 1) - 1) ≤ 2 * (2 ^ (d + 1) - 1) := Nat.mul_le_mul_right _ hk
      omega
/-- A part that scans a table. -/
def scansT (t : Int) (x : Pl) : Bool := decide (x.kind = 1) && decide (x.table = t)
/-- A valid plan scans one of the tables. -/
theorem parts_scan {ws : List Int} : ∀ (d : Nat) (p : Pl), plW ws d p ≠ 0 → ∃ j : Nat, j < ws.length ∧ p.parts.any (scansT j) = true
  | d, p, h => by
    have ho : OnlyF p := Classical.byContradiction fun hn => h (plW_no hn)
    by_cases hk : p.kind = 1
    · have ht : 0 ≤ p.table ∧ p.table < ws.length := by
        have hkl : p.kids.length = 0 := by
          have := ho.2.1
          rw [hk] at this
          simp [nkids] at this
          simpa using this
        have hkn : p.kids = [] := List.eq_nil_of_length_eq_zero hkl
        rw [plW_top ho (by omega) (by rw [hkn]; intro x hx; cases hx)] at h
        unfold topW at h
        rw [if_pos hk] at h
        apply Classical.byContradiction
        intro hn
        rw [if_neg hn] at h
        exact h rfl
      obtain ⟨j, hj⟩ := Int.eq_ofNat_of_zero_le ht.1
      refine ⟨j, by omega, ?_⟩
      rw [parts_eq, List.any_cons]
      simp [scansT, hk, hj]
    · have hkp : 0 < p.kids.length := by
        have := ho.2.1
        unfold nkids at this
        rw [if_neg hk] at this
        split at this <;> omega
      cases d with
      | zero => exact absurd (plW_deep hkp) h
      | succ d =>
        obtain ⟨_, k, he, hv⟩ := plW_kids h (List.getElem_mem hkp)
        obtain rfl : k = d := by omega
        obtain ⟨j, hj, hs⟩ := parts_scan k _ hv
        refine ⟨j, hj, ?_⟩
        rw [parts_eq, List.any_cons]
        have h1 : partsL (p.kids.take (0 + 1)) = partsL (p.kids.take 0) ++ (p.kids[0]).parts := partsL_take hkp
        have h2 : partsL p.kids = partsL (p.kids.take 1) ++ partsL (p.kids.drop 1) := by rw [← partsL_append, List.take_append_drop]
        have h3 : partsL (p.kids.take 0) = [] := by rw [List.take_zero, partsL]
        rw [h2, show (1 : Nat) = 0 + 1 from rfl, h1, h3, List.nil_append, List.any_append, hs]
        simp
/-- The tables that are scanned are not more than the parts. -/
theorem filter_or_len {α : Type} (P Q : α → Bool) : ∀ l : List α, (l.filter fun x => P x || Q x).length ≤ (l.filter P).length + (l.filter Q).length
  | [] => by simp
  | x :: l => by
    have := filter_or_len P Q l
    simp only [List.filter_cons]
    cases P x <;> cases Q x <;> simp <;> omega
theorem filter_one {x : Int} : ∀ (m : Nat), ((List.range m).filter fun t : Nat => decide (x = (t : Int))).length ≤ 1
  | 0 => by simp
  | m + 1 => by
    have ih := filter_one (x := x) m
    rw [List.range_succ, List.filter_append, List.length_append]
    by_cases hx : x = (m : Int)
    · have h0 : (List.range m).filter (fun t : Nat => decide (x = (t : Int))) = [] := by
        rw [List.filter_eq_nil_iff]
        intro t ht
        have := List.mem_range.1 ht
        simp
        omega
      rw [h0]
      simp [hx]
    · have h1 : [m].filter (fun t : Nat => decide (x = (t : Int))) = [] := by simp [hx]
      rw [h1]
      simpa using ih
def tabsOf (m : Nat) (l : List Pl) : List Nat := (List.range m).filter fun t : Nat => l.any (scansT (t : Int))
theorem tabsOf_le (m : Nat) : ∀ l : List Pl, (tabsOf m l).length ≤ l.length
  | [] => by simp [tabsOf]
  | x :: l => by
    have ih := tabsOf_le m l
    unfold tabsOf at ih ⊢
    simp only [List.any_cons, List.length_cons]
    have h1 := filter_or_len (fun t : Nat => scansT (t : Int) x) (fun t : Nat => l.any (scansT (t : Int))) (List.range m)
    have h2 : ((List.range m).filter fun t : Nat => scansT (t : Int) x).length ≤ 1 := by
      unfold scansT
      by_cases hk : x.kind = 1
      · have := filter_one (x := x.table) m
        simpa [hk] using this
      · rw [List.filter_eq_nil_iff.2 (fun t _ => by simp [hk])]; simp
    omega
theorem tabsOf_pos {m : Nat} {l : List Pl} {j : Nat} (hj : j < m) (h : l.any (scansT j) = true) : 0 < (tabsOf m l).length :=
  List.length_pos_of_mem (List.mem_filter.2 ⟨List.mem_range.2 hj, h⟩)

/-- Held below B, in a later world. -/
theorem ExsIn.below {w w' : World} {B : Nat} {A : Option Addr} {es : List Ex} (h : ExsIn w B A es) (hb : Below B w w') : ExsIn w' B A es := by
  obtain ⟨fs, h1, h2, h3⟩ := h
  exact ⟨fs, h1, h2.below hb, fun i g x hg hx => (h3 i g x hg hx).below hb⟩
theorem PlAt.below {w w' : World} {B : Nat} (hb : Below B w w') : ∀ (n : Nat) (f : FP) (p : Pl), PlAt w B n f p → PlAt w' B n f p
  | 0, _, _, h => h.elim
  | n + 1, f, p, ⟨h1, h2, h3, h4, h5, h6, h7, fs, h8, h9, h10⟩ => ⟨h1, h2, h3, h4, h5, h6.below hb, h7.below hb, fs, h8, h9.below hb, fun i g x hg hx => PlAt.below hb n g x (h10 i g x hg hx)⟩
theorem PlIn.below {w w' : World} {B : Nat} {f : FP} {p : Pl} (h : PlIn w B f p) (hb : Below B w w') : PlIn w' B f p := h.imp fun n h => PlAt.below hb n f p h
theorem FpAt.below {w w' : World} {B b o : Nat} {f : FP} (h : FpAt w b o f) (hb : Below B w w') (hB : b < B) : FpAt w' b o f :=
  ⟨(hb.cell (p := ⟨_, _, none⟩) hB).trans h.1, (hb.cell (p := ⟨_, _, none⟩) hB).trans h.2.1, (hb.cell (p := ⟨_, _, none⟩) hB).trans h.2.2.1, (hb.cell (p := ⟨_, _, none⟩) hB).trans h.2.2.2.1, (hb.cell (p := ⟨_, _, none⟩) hB).trans h.2.2.2.2⟩
theorem But.low {w w' : World} {B cb : Nat} (h : But cb w w') (hB : B ≤ cb) (hs : B ≤ w.heap.size) : Below B w w' := ⟨h.os, h.tape, h.output, h.size, fun k hk => h.block k (by omega) (show ¬ k = cb by omega)⟩
end Go.Qo
