/-
  The flags of a valid plan: how many there are, and what its parts have. (Plain, but for the seat's word FlOk.)
-/
import Derived.Test.YtcbfbgngkdiijaaProg
import Derived.Test.YtcbfbgngkdiijaaZnNuV
import Derived.Test.YtcbfbgngkdiijaaZnNuO
import Derived.Test.YtcbfbgngkdiijaaZnGa
namespace Go.Proofs.Ytcbfbgngkdiijaa
open Go.RowKit Go.Qo
set_option linter.unusedVariables false
set_option linter.unusedSimpArgs false

def kidN (flags : List (List Bool)) (p : Pl) (i : Nat) : List Bool := (nulPs flags p.kids).getD i []
theorem kidN_at {flags : List (List Bool)} {p : Pl} {i : Nat} (h : i < p.kids.length) : kidN flags p i = nulP flags p.kids[i] := by
  unfold kidN
  rw [nulPs_map, List.getD_eq_getElem?_getD, List.getElem?_map, List.getElem?_eq_getElem h]; rfl
theorem kidN_none {flags : List (List Bool)} {p : Pl} {i : Nat} (h : p.kids.length ≤ i) : kidN flags p i = [] := by
  unfold kidN
  rw [nulPs_map, List.getD_eq_getElem?_getD, List.getElem?_map, List.getElem?_eq_none h]; rfl
theorem nulP_top (flags : List (List Bool)) (p : Pl) : nulP flags p = 
    if p.kind = 1 then flags.getD p.table.toNat []
    else if p.kind = 2 then filN (p.exprs.getD 0 (.mk 0 0 (false, 0) [])) (kidN flags p 0)
    else if p.kind = 3 then p.exprs.map fun e => Qo.has (outc (stsOf (kidN flags p 0)) e) 4
    else if p.kind = 4 then kidN flags p 0 ++ kidN flags p 1
    else if p.kind = 5 then kidN flags p 0 ++ (kidN flags p 1).map fun _ => true
    else if p.kind = 6 then (List.range (kidN flags p 0).length).map fun i => (kidN flags p 0).getD i false || (kidN flags p 1).getD i false
    else if p.kind = 8 then (p.cols.map fun c => (kidN flags p 0).getD c.toNat false) ++ [false]
    else kidN flags p 0 := by
  rw [nulP_eq]; rfl
theorem nulP_len {ws : List Int} {flags : List (List Bool)} (hf : FlOk ws flags) : ∀ (d : Nat) (p : Pl), plW ws d p ≠ 0 → ((nulP flags p).length : Int) = plW ws d p
  | d, p, h => by
    have ho : OnlyF p := Classical.byContradiction fun hn => h (plW_no hn)
    have hk : ∀ i (hi : i < p.kids.length), ∃ e, d = e + 1 ∧ plW ws e p.kids[i] ≠ 0 := fun i hi => (plW_kids h (List.getElem_mem hi)).2
    have hd : 0 < p.kids.length → 0 < d := fun h0 => by obtain ⟨e, rfl, _⟩ := hk 0 h0; omega
    have hx : ∀ x ∈ p.kids, plW ws (d - 1) x ≠ 0 := fun x hx => by
      obtain ⟨i, hi, rfl⟩ := List.getElem_of_mem hx
      obtain ⟨e, rfl, he⟩ := hk i hi
      exact he
    have ht := plW_top ho hd hx
    have kid : ∀ i, ((kidN flags p i).length : Int) = kidW (plW ws (d - 1)) p i := fun i => by
      by_cases hi : i < p.kids.length
      · obtain ⟨e, rfl, he⟩ := hk i hi
        rw [kidN_at hi]
        have := nulP_len hf e p.kids[i] he
        unfold kidW
        rw [List.getElem?_eq_getElem hi]
        exact this
      · rw [kidN_none (by omega)]
        unfold kidW
        rw [List.getElem?_eq_none (by omega)]
        rfl
    have k0 := kid 0
    have k1 := kid 1
    have hk8 := ho.1
    have hne := h
    rw [ht] at hne ⊢
    generalize kidW (plW ws (d - 1)) p 0 = a at *
    generalize kidW (plW ws (d - 1)) p 1 = b at *
    rw [nulP_top]
    unfold topW at hne ⊢
    by_cases h1 : p.kind = 1
    · rw [if_pos h1] at hne ⊢
      rw [if_pos h1]
      by_cases hl : 0 ≤ p.table ∧ p.table < ws.length
      · rw [if_pos hl]
        have hl1 : p.table.toNat < ws.length := by omega
        have hl2 : p.table.toNat < flags.length := by rw [hf.1]; exact hl1
        rw [List.getD_eq_getElem?_getD, List.getD_eq_getElem?_getD, List.getElem?_eq_getElem hl1, List.getElem?_eq_getElem hl2]
        exact hf.2 _ _ _ (List.getElem?_eq_getElem hl2) (List.getElem?_eq_getElem hl1)
      · rw [if_neg hl] at hne; exact absurd rfl hne
    rw [if_neg h1] at hne ⊢
    rw [if_neg h1]
    by_cases h2 : p.kind = 2
    · rw [if_pos h2] at hne ⊢
      rw [if_pos h2]
      split at hne
      · rw [if_pos (by assumption)]; unfold filN; simp; exact k0
      · exact absurd rfl hne
    rw [if_neg h2] at hne ⊢
    rw [if_neg h2]
    by_cases h3 : p.kind = 3
    · rw [if_pos h3] at hne ⊢
      rw [if_pos h3]
      split at hne
      · rw [if_pos (by assumption)]; simp
      · exact absurd rfl hne
    rw [if_neg h3] at hne ⊢
    rw [if_neg h3]
    by_cases h45 : p.kind = 4 ∨ p.kind = 5
    · rw [if_pos h45] at hne ⊢
      split at hne
      · rename_i hc
        rw [if_pos hc]
        rcases h45 with h | h
        · rw [if_pos h, List.length_append]; omega
        · rw [if_neg (by omega), if_pos h, List.length_append, List.length_map]; omega
      · exact absurd rfl hne
    rw [if_neg h45] at hne ⊢
    rw [if_neg (by omega), if_neg (by omega)]
    by_cases h6 : p.kind = 6
    · rw [if_pos h6] at hne ⊢
      rw [if_pos h6]
      split at hne
      · rw [if_pos (by assumption)]; simp; exact k0
      · exact absurd rfl hne
    rw [if_neg h6] at hne ⊢
    rw [if_neg h6]
    by_cases h7 : p.kind = 7
    · rw [if_pos h7, if_neg (by omega)]; exact k0
    rw [if_neg h7] at hne ⊢
    rw [if_pos (by omega)]
    split at hne
    · rw [if_pos (by assumption)]; simp
    · exact absurd rfl hne
/-- What a valid plan's kind asks of its parts. -/
structure NuTop (flags : List (List Bool)) (p : Pl) : Prop where
  len : 1 ≤ (kidN flags p 0).length ∧ (kidN flags p 0).length ≤ 6 ∧ (kidN flags p 1).length ≤ 6
  ex : p.kind = 2 ∨ p.kind = 3 → (∀ e ∈ p.exprs, ExOk ((kidN flags p 0).length : Int) 8 e) ∧ p.exprs.length ≤ 6 ∧ (p.kind = 2 → p.exprs.length = 1)
  un : p.kind = 6 → (kidN flags p 1).length = (kidN flags p 0).length
  gr : p.kind = 8 → p.cols.length ≤ 6 ∧ ∀ c ∈ p.cols, 0 ≤ c ∧ c < ((kidN flags p 0).length : Int)
theorem nuTop {ws : List Int} {flags : List (List Bool)} (hws : ∀ x ∈ ws, 1 ≤ x ∧ x ≤ 6) (hf : FlOk ws flags) {d : Nat} {p : Pl} (h : plW ws d p ≠ 0) (h1 : p.kind ≠ 1) : NuTop flags p := by
  have ho : OnlyF p := Classical.byContradiction fun hn => h (plW_no hn)
  have hk : ∀ i (hi : i < p.kids.length), ∃ e, d = e + 1 ∧ plW ws e p.kids[i] ≠ 0 := fun i hi => (plW_kids h (List.getElem_mem hi)).2
  have hd : 0 < p.kids.length → 0 < d := fun h0 => by obtain ⟨e, rfl, _⟩ := hk 0 h0; omega
  have hx : ∀ x ∈ p.kids, plW ws (d - 1) x ≠ 0 := fun x hx => by
    obtain ⟨i, hi, rfl⟩ := List.getElem_of_mem hx
    obtain ⟨e, rfl, he⟩ := hk i hi
    exact he
  have ht := plW_top ho hd hx
  have kid : ∀ i, ((kidN flags p i).length : Int) = kidW (plW ws (d - 1)) p i ∧ (i < p.kids.length → kidW (plW ws (d - 1)) p i ≠ 0) := fun i => by
    by_cases hi : i < p.kids.length
    · obtain ⟨e, rfl, he⟩ := hk i hi
      rw [kidN_at hi]
      have := nulP_len hf e p.kids[i] he
      unfold kidW
      rw [List.getElem?_eq_getElem hi]
      exact ⟨this, fun _ => he⟩
    · rw [kidN_none (by omega)]
      unfold kidW
      rw [List.getElem?_eq_none (by omega)]
      exact ⟨rfl, fun h => absurd h hi⟩
  have h0 : 0 < p.kids.length := by
    have := ho.2.1
    unfold nkids at this
    rw [if_neg h1] at this
    split at this <;> omega
  have r0 := kidW_range (fun x => plW_range hws (d - 1) x) p 0
  have r1 := kidW_range (fun x => plW_range hws (d - 1) x) p 1
  obtain ⟨k0, k0'⟩ := kid 0
  obtain ⟨k1, _⟩ := kid 1
  have k0' := k0' h0
  rw [ht] at h
  generalize kidW (plW ws (d - 1)) p 0 = a at *
  generalize kidW (plW ws (d - 1)) p 1 = b at *
  unfold topW at h
  rw [if_neg h1] at h
  have hE := ho.2.2.1
  refine ⟨by omega, fun h23 => ?_, fun h6 => ?_, fun h8 => ?_⟩
  · rw [k0]
    by_cases h2 : p.kind = 2
    · rw [if_pos h2] at h
      have e1 : p.exprs.length = 1 := by unfold nexprs at hE; rw [if_pos (.inl h2)] at hE; omega
      split at h
      · rename_i hc; exact ⟨fun e he => (hc e he).2, by omega, fun _ => e1⟩
      · exact absurd rfl h
    · have h3 : p.kind = 3 := by omega
      rw [if_neg h2, if_pos h3] at h
      split at h
      · rename_i hc; exact ⟨fun e he => (hc.1 e he).2, hc.2, fun q => absurd q h2⟩
      · exact absurd rfl h
  · rw [if_neg (by omega), if_neg (by omega), if_neg (by omega), if_pos h6] at h
    split at h
    · omega
    · exact absurd rfl h
  · rw [if_neg (by omega), if_neg (by omega), if_neg (by omega), if_neg (by omega), if_neg (by omega)] at h
    split at h
    · rename_i hc
      refine ⟨by omega, fun c hm => ?_⟩
      obtain ⟨i, hi⟩ := List.getElem?_of_mem hm
      have := (hc.1 i c hi).1
      omega
    · exact absurd rfl h
theorem and2 {a : Nat} (h : a < 8) : (bits .and .i64 (a : Int) 2 != 0) = Qo.has a 2 := by
  have : ∀ a : Fin 8, (bits .and .i64 ((a.1 : Nat) : Int) 2 != 0) = Qo.has a.1 2 := by decide +kernel
  exact this ⟨a, h⟩
theorem stsOf_8 (l : List Bool) : St8 (stsOf l) := fun x hx => by
  unfold stsOf at hx
  obtain ⟨b, _, rfl⟩ := List.mem_map.1 hx
  cases b <;> decide
theorem St8.set {l : List Nat} (h : St8 l) (i x : Nat) (hx : x < 8) : St8 (l.set i x) := fun y hy => by
  rcases List.mem_or_eq_of_mem_set hy with h2 | rfl
  · exact h y h2
  · exact hx
theorem stI_of (l : List Bool) : stI (stsOf l) = stsI l := by
  unfold stI stsOf stsI
  rw [List.map_map]
  refine List.map_congr_left fun b _ => ?_
  cases b <;> rfl
theorem stI_set (l : List Nat) (i x : Nat) : stI (l.set i x) = (stI l).set i (x : Int) := by unfold stI; rw [List.map_set]
theorem stsOf_len (l : List Bool) : (stsOf l).length = l.length := by simp [stsOf]
theorem flat_setI : ∀ (xs : List Int) (j : Nat) (y : Int), (xs.flatMap intC).set j (.int .i64 y) = (xs.set j y).flatMap intC
  | [], j, y => by simp
  | x :: xs, 0, y => by simp [intC]
  | x :: xs, j + 1, y => by
    have ih := flat_setI xs j y
    simpa [intC] using ih
end Go.Proofs.Ytcbfbgngkdiijaa
