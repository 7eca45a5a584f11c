/-
  Which columns may be null, in plain Lean: the states of expressions, the flags of plans; more flags give more flags. No program in sight.
-/
import Derived.Test.YtcbfbgngkdiijaaZnGa
import Derived.Test.YtcbfbgngkdiijaaZnGa
namespace Go.Qo
open Go.RowKit
set_option linter.unusedVariables false
set_option linter.unusedSimpArgs false

/-- The state of a value: 1 for zero, 2 for another number, 4 for null. -/
def stV (v : Val) : Nat := if v.1 = true then 4 else if v.2 = 0 then 1 else 2
def notS (a : Nat) : Nat := (if a / 4 % 2 = 1 then 4 else 0) + (if a % 2 = 1 then 2 else 0) + (if a / 2 % 2 = 1 then 1 else 0)
def tstS (a : Nat) : Nat := (if a / 4 % 2 = 1 then 2 else 0) + (if a % 4 = 0 then 0 else 1)
def andSt (x y : Nat) : Nat := if x = 1 ∨ y = 1 then 1 else if x = 4 ∨ y = 4 then 4 else 2
def orSt (x y : Nat) : Nat := if x = 2 ∨ y = 2 then 2 else if x = 4 ∨ y = 4 then 4 else 1
/-- Whether a set of states holds x (1, 2 or 4). -/
def has (a x : Nat) : Bool := a / x % 2 == 1
/-- The sets of states that f makes of two sets. -/
def pairS (f : Nat → Nat → Nat) (a b : Nat) : Nat :=
  let g (z : Nat) : Nat := if [1, 2, 4].any (fun x => [1, 2, 4].any fun y => has a x && has b y && f x y == z) = true then z else 0
  g 1 + g 2 + g 4
def numS (sm : Bool) (a b : Nat) : Nat := (if has a 4 || has b 4 || (sm && a % 4 != 0 && b % 4 != 0) then 4 else 0) + (if a % 4 != 0 && b % 4 != 0 then 3 else 0)
def cmbS (k : Int) (a b : Nat) : Nat := if k = 8 then pairS andSt a b else if k = 9 then pairS orSt a b else numS (decide (k < 6)) a b
def nodeS (k c : Int) (v : Val) (sts os : List Nat) : Nat :=
  if k = 1 then sts.getD c.toNat 0 else if k = 2 then stV v else if k = 10 then notS (os.getD 0 0) else if k = 11 then tstS (os.getD 0 0) else cmbS k (os.getD 0 0) (os.getD 1 0)
mutual
def outc (sts : List Nat) : Ex → Nat
  | .mk k c v ks => nodeS k c v sts (outcs sts ks)
def outcs (sts : List Nat) : List Ex → List Nat
  | [] => []
  | x :: xs => outc sts x :: outcs sts xs
end
theorem outc_eq (sts : List Nat) (e : Ex) : outc sts e = nodeS e.kind e.col e.val sts (outcs sts e.kids) := by
  obtain ⟨k, c, v, ks⟩ := e
  rw [outc]
  rfl
theorem outcs_map (sts : List Nat) : ∀ es : List Ex, outcs sts es = es.map (outc sts)
  | [] => by rw [outcs]; rfl
  | x :: xs => by rw [outcs, outcs_map sts xs]; rfl
/-- A set of states within another. -/
def SubS (a b : Nat) : Prop := a < 8 ∧ b < 8 ∧ a % 2 ≤ b % 2 ∧ a / 2 % 2 ≤ b / 2 % 2 ∧ a / 4 ≤ b / 4
instance (a b : Nat) : Decidable (SubS a b) := by unfold SubS; infer_instance
theorem SubS.refl {a : Nat} (h : a < 8) : SubS a a := ⟨h, h, Nat.le_refl _, Nat.le_refl _, Nat.le_refl _⟩
theorem SubS.trans {a b c : Nat} (h : SubS a b) (g : SubS b c) : SubS a c := ⟨h.1, g.2.1, Nat.le_trans h.2.2.1 g.2.2.1, Nat.le_trans h.2.2.2.1 g.2.2.2.1, Nat.le_trans h.2.2.2.2 g.2.2.2.2⟩
theorem stV_lt (v : Val) : stV v < 8 := by
  unfold stV
  split
  · omega
  · split <;> omega
theorem notS_mono {a b : Nat} (h : SubS a b) : SubS (notS a) (notS b) := by
  have : ∀ a b : Fin 8, SubS a.1 b.1 → SubS (notS a.1) (notS b.1) := by decide +kernel
  exact this ⟨a, h.1⟩ ⟨b, h.2.1⟩ h
theorem tstS_mono {a b : Nat} (h : SubS a b) : SubS (tstS a) (tstS b) := by
  have : ∀ a b : Fin 8, SubS a.1 b.1 → SubS (tstS a.1) (tstS b.1) := by decide +kernel
  exact this ⟨a, h.1⟩ ⟨b, h.2.1⟩ h
theorem andS_mono {a b a' b' : Nat} (h : SubS a a') (g : SubS b b') : SubS (pairS andSt a b) (pairS andSt a' b') := by
  have t1 : ∀ a a' b : Fin 8, SubS a.1 a'.1 → SubS (pairS andSt a.1 b.1) (pairS andSt a'.1 b.1) := by decide +kernel
  have t2 : ∀ a b b' : Fin 8, SubS b.1 b'.1 → SubS (pairS andSt a.1 b.1) (pairS andSt a.1 b'.1) := by decide +kernel
  exact (t1 ⟨a, h.1⟩ ⟨a', h.2.1⟩ ⟨b, g.1⟩ h).trans (t2 ⟨a', h.2.1⟩ ⟨b, g.1⟩ ⟨b', g.2.1⟩ g)
theorem orS_mono {a b a' b' : Nat} (h : SubS a a') (g : SubS b b') : SubS (pairS orSt a b) (pairS orSt a' b') := by
  have t1 : ∀ a a' b : Fin 8, SubS a.1 a'.1 → SubS (pairS orSt a.1 b.1) (pairS orSt a'.1 b.1) := by decide +kernel
  have t2 : ∀ a b b' : Fin 8, SubS b.1 b'.1 → SubS (pairS orSt a.1 b.1) (pairS orSt a.1 b'.1) := by decide +kernel
  exact (t1 ⟨a, h.1⟩ ⟨a', h.2.1⟩ ⟨b, g.1⟩ h).trans (t2 ⟨a', h.2.1⟩ ⟨b, g.1⟩ ⟨b', g.2.1⟩ g)
theorem numS_mono (sm : Bool) {a b a' b' : Nat} (h : SubS a a') (g : SubS b b') : SubS (numS sm a b) (numS sm a' b') := by
  have t1 : ∀ (sm : Bool) (a a' b : Fin 8), SubS a.1 a'.1 → SubS (numS sm a.1 b.1) (numS sm a'.1 b.1) := by decide +kernel
  have t2 : ∀ (sm : Bool) (a b b' : Fin 8), SubS b.1 b'.1 → SubS (numS sm a.1 b.1) (numS sm a.1 b'.1) := by decide +kernel
  exact (t1 sm ⟨a, h.1⟩ ⟨a', h.2.1⟩ ⟨b, g.1⟩ h).trans (t2 sm ⟨a', h.2.1⟩ ⟨b, g.1⟩ ⟨b', g.2.1⟩ g)
theorem cmbS_mono (k : Int) {a b a' b' : Nat} (h : SubS a a') (g : SubS b b') : SubS (cmbS k a b) (cmbS k a' b') := by
  unfold cmbS
  split
  · exact andS_mono h g
  · split
    · exact orS_mono h g
    · exact numS_mono _ h g
/-- Row of states, place by place. -/
def SubR (s t : List Nat) : Prop := ∀ i, SubS (s.getD i 0) (t.getD i 0)
theorem outc_mono : ∀ (e : Ex) (s t : List Nat), SubR s t → SubS (outc s e) (outc t e) := Ex.ind fun e ih s t h => by
  have hk : ∀ i, SubS ((outcs s e.kids).getD i 0) ((outcs t e.kids).getD i 0) := fun i => by
    rw [outcs_map, outcs_map, List.getD_eq_getElem?_getD, List.getD_eq_getElem?_getD, List.getElem?_map, List.getElem?_map]
    cases hx : e.kids[i]? with
    | none => exact SubS.refl (a := 0) (by decide)
    | some x => exact ih x (List.mem_of_getElem? hx) s t h
  rw [outc_eq, outc_eq]
  unfold nodeS
  split
  · exact h _
  · split
    · exact SubS.refl (stV_lt _)
    · split
      · exact notS_mono (hk 0)
      · split
        · exact tstS_mono (hk 0)
        · exact cmbS_mono _ (hk 0) (hk 1)

/-! ### Plans -/
def stsOf (l : List Bool) : List Nat := l.map fun b => if b = true then 7 else 3
def filN (e : Ex) (l : List Bool) : List Bool := (List.range l.length).map fun i => l.getD i false && has (outc ((stsOf l).set i 4) e) 2
def nodeN (k t : Int) (es : List Ex) (cs : List Int) (flags : List (List Bool)) (ns : List (List Bool)) : List Bool :=
  if k = 1 then flags.getD t.toNat []
  else if k = 2 then filN (es.getD 0 (.mk 0 0 (false, 0) [])) (ns.getD 0 [])
  else if k = 3 then es.map fun e => has (outc (stsOf (ns.getD 0 [])) e) 4
  else if k = 4 then ns.getD 0 [] ++ ns.getD 1 []
  else if k = 5 then ns.getD 0 [] ++ (ns.getD 1 []).map fun _ => true
  else if k = 6 then (List.range (ns.getD 0 []).length).map fun i => (ns.getD 0 []).getD i false || (ns.getD 1 []).getD i false
  else if k = 8 then (cs.map fun c => (ns.getD 0 []).getD c.toNat false) ++ [false]
  else ns.getD 0 []
mutual
def nulP (flags : List (List Bool)) : Pl → List Bool
  | .mk k t es cs ks => nodeN k t es cs flags (nulPs flags ks)
def nulPs (flags : List (List Bool)) : List Pl → List (List Bool)
  | [] => []
  | x :: xs => nulP flags x :: nulPs flags xs
end
theorem nulP_eq (flags : List (List Bool)) (p : Pl) : nulP flags p = nodeN p.kind p.table p.exprs p.cols flags (nulPs flags p.kids) := by
  obtain ⟨k, t, es, cs, ks⟩ := p
  rw [nulP]
  rfl
theorem nulPs_map (flags : List (List Bool)) : ∀ ps : List Pl, nulPs flags ps = ps.map (nulP flags)
  | [] => by rw [nulPs]; rfl
  | x :: xs => by rw [nulPs, nulPs_map flags xs]; rfl
/-- More flags, place by place. -/
def LeB (l m : List Bool) : Prop := l.length = m.length ∧ ∀ i, l.getD i false = true → m.getD i false = true
theorem LeB.refl (l : List Bool) : LeB l l := ⟨rfl, fun _ h => h⟩
def LeF (f g : List (List Bool)) : Prop := ∀ i, LeB (f.getD i []) (g.getD i [])
theorem stsOf_sub {l m : List Bool} (h : LeB l m) : SubR (stsOf l) (stsOf m) := fun i => by
  unfold stsOf
  rw [List.getD_eq_getElem?_getD, List.getD_eq_getElem?_getD, List.getElem?_map, List.getElem?_map]
  have h2 := h.2 i
  rw [List.getD_eq_getElem?_getD, List.getD_eq_getElem?_getD] at h2
  by_cases hi : i < l.length
  · have hm : i < m.length := by rw [← h.1]; exact hi
    rw [List.getElem?_eq_getElem hi, List.getElem?_eq_getElem hm] at h2 ⊢
    simp only [Option.getD_some, Option.map_some] at h2 ⊢
    cases hl : l[i] <;> cases hmm : m[i] <;> simp_all [SubS]
  · rw [List.getElem?_eq_none (by omega), List.getElem?_eq_none (by rw [← h.1]; omega)]
    exact SubS.refl (by decide)
theorem SubR.set {s t : List Nat} (h : SubR s t) (hl : s.length = t.length) (i x : Nat) (hx : x < 8) : SubR (s.set i x) (t.set i x) := fun j => by
  have hj := h j
  rw [List.getD_eq_getElem?_getD, List.getD_eq_getElem?_getD] at hj ⊢
  rw [List.getElem?_set, List.getElem?_set, ← hl]
  split
  · split
    · exact SubS.refl hx
    · exact SubS.refl (by decide)
  · exact hj
theorem has_mono {a b x : Nat} (hx : x = 2 ∨ x = 4) (h : SubS a b) (g : has a x = true) : has b x = true := by
  obtain ⟨h1, h2, h3, h4, h5⟩ := h
  unfold has at g ⊢
  rw [beq_iff_eq] at g ⊢
  rcases hx with rfl | rfl <;> omega
theorem range_getD {α : Type} (n : Nat) (f : Nat → α) (d : α) (i : Nat) : ((List.range n).map f).getD i d = if i < n then f i else d := by
  rw [List.getD_eq_getElem?_getD, List.getElem?_map]
  by_cases h : i < n
  · rw [if_pos h, List.getElem?_range h]; rfl
  · rw [if_neg h, List.getElem?_eq_none (by simpa using h)]; rfl
theorem nulP_mono : ∀ (p : Pl) (f g : List (List Bool)), LeF f g → LeB (nulP f p) (nulP g p) := Pl.ind fun p ih f g h => by
  have hk : ∀ i, LeB ((nulPs f p.kids).getD i []) ((nulPs g p.kids).getD i []) := fun i => by
    rw [nulPs_map, nulPs_map, List.getD_eq_getElem?_getD, List.getD_eq_getElem?_getD, List.getElem?_map, List.getElem?_map]
    cases hx : p.kids[i]? with
    | none => exact LeB.refl _
    | some x => exact ih x (List.mem_of_getElem? hx) f g h
  rw [nulP_eq, nulP_eq]
  unfold nodeN
  have h0 := hk 0
  have h1 := hk 1
  generalize (nulPs f p.kids).getD 0 [] = a at h0
  generalize (nulPs g p.kids).getD 0 [] = b at h0
  generalize (nulPs f p.kids).getD 1 [] = a1 at h1
  generalize (nulPs g p.kids).getD 1 [] = b1 at h1
  split
  · exact h _
  split
  · refine ⟨by simp [filN, h0.1], fun i hi => ?_⟩
    unfold filN at hi ⊢
    rw [range_getD] at hi ⊢
    by_cases hl : i < a.length
    · rw [if_pos hl, Bool.and_eq_true] at hi
      rw [if_pos (by rw [← h0.1]; exact hl), Bool.and_eq_true]
      exact ⟨h0.2 i hi.1, has_mono (.inl rfl) (outc_mono _ _ _ ((stsOf_sub h0).set (by simp [stsOf, h0.1]) i 4 (by decide))) hi.2⟩
    · rw [if_neg hl] at hi; cases hi
  split
  · refine ⟨by simp, fun i hi => ?_⟩
    rw [List.getD_eq_getElem?_getD, List.getElem?_map] at hi ⊢
    cases hx : p.exprs[i]? with
    | none => rw [hx] at hi; cases hi
    | some e =>
      rw [hx] at hi
      exact has_mono (.inr rfl) (outc_mono e _ _ (stsOf_sub h0)) hi
  have happ : ∀ (x y : List Bool), LeB x y → LeB (a ++ x) (b ++ y) := fun x y hxy => by
    refine ⟨by simp [h0.1, hxy.1], fun i hi => ?_⟩
    have g0 := h0.2 i
    have g1 := hxy.2 (i - a.length)
    rw [List.getD_eq_getElem?_getD] at hi g0 g1 ⊢
    rw [List.getD_eq_getElem?_getD] at g0 g1
    by_cases hl : i < a.length
    · rw [List.getElem?_append_left hl] at hi
      rw [List.getElem?_append_left (by rw [← h0.1]; exact hl)]
      exact g0 hi
    · rw [List.getElem?_append_right (by omega)] at hi
      rw [List.getElem?_append_right (by rw [← h0.1]; omega), ← h0.1]
      exact g1 hi
  split
  · exact happ _ _ h1
  split
  · refine happ _ _ ⟨by simp [h1.1], fun i hi => ?_⟩
    rw [List.getD_eq_getElem?_getD, List.getElem?_map] at hi ⊢
    by_cases hl : i < b1.length
    · rw [List.getElem?_eq_getElem hl]; rfl
    · rw [List.getElem?_eq_none (by rw [h1.1]; omega)] at hi; cases hi
  split
  · refine ⟨by simp [h0.1], fun i hi => ?_⟩
    rw [range_getD] at hi ⊢
    by_cases hl : i < a.length
    · rw [if_pos hl, Bool.or_eq_true] at hi
      rw [if_pos (by rw [← h0.1]; exact hl), Bool.or_eq_true]
      exact hi.elim (fun q => .inl (h0.2 i q)) fun q => .inr (h1.2 i q)
    · rw [if_neg hl] at hi; cases hi
  split
  · refine ⟨by simp, fun i hi => ?_⟩
    rw [List.getD_eq_getElem?_getD] at hi ⊢
    by_cases hl : i < p.cols.length
    · rw [List.getElem?_append_left (by simpa using hl), List.getElem?_map, List.getElem?_eq_getElem hl] at hi ⊢
      exact h0.2 _ hi
    · rw [List.getElem?_append_right (by simpa using hl)] at hi ⊢
      simpa using hi
  · exact h0
/-- All columns of the tables may be null. -/
theorem leF_all (f : List (List Bool)) : LeF f (f.map fun r => r.map fun _ => true) := fun i => by
  rw [List.getD_eq_getElem?_getD, List.getD_eq_getElem?_getD, List.getElem?_map]
  cases f[i]? with
  | none => exact LeB.refl _
  | some r =>
    refine ⟨by simp, fun j hj => ?_⟩
    simp only [Option.getD_some, Option.map_some] at hj ⊢
    rw [List.getD_eq_getElem?_getD] at hj ⊢
    rw [List.getElem?_map]
    by_cases hl : j < r.length
    · rw [List.getElem?_eq_getElem hl]; rfl
    · rw [List.getElem?_eq_none (by omega)] at hj; cases hj
end Go.Qo
