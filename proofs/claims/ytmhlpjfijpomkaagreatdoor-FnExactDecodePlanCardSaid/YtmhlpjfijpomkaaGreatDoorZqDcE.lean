/-
  How the program reads an expression, in plain Lean; what it reads is what was written.
-/
import Derived.Test.YtmhlpjfijpomkaaGreatDoorZqDcD
namespace Go.Qo
open Go.RowKit
set_option linter.unusedVariables false
set_option linter.unusedSimpArgs false

/-- The value that a word spells. -/
def pVal (l : List UInt8) : Option Val :=
  if l = [110, 117, 108, 108] then some (true, 0) else match Lib.atoiAll l with
    | .ok n => if vValid (false, n) = true ∧ Lib.itoa n = l then some (false, n) else none
    | _ => none
/-- The kind that a word names. -/
def kindOf (nm : Int → List UInt8) (lo : Int) : Nat → List UInt8 → Option Int
  | 0, _ => none
  | n + 1, l => if nm lo = l then some lo else kindOf nm (lo + 1) n l
def pKids {α : Type} (p : List UInt8 → Option (α × List UInt8)) : Nat → List UInt8 → Option (List α × List UInt8)
  | 0, l => some ([], l)
  | n + 1, l => match l with
    | [] => none
    | c :: r => if c = 32 then (match p r with
      | some (x, r') => (match pKids p n r' with
        | some (xs, r'') => some (x :: xs, r'')
        | none => none)
      | none => none) else none
def pLeaf (l : List UInt8) : Option (Ex × List UInt8) := match pVal (wordOf l) with
  | some v => some (.mk 2 0 v [], restOf l)
  | none => none
def pIdx (l : List UInt8) : Option (Int × List UInt8) := match Lib.atoiAll (wordOf l) with
  | .ok n => some (n, restOf l)
  | _ => none
def pShut {α : Type} : Option (α × List UInt8) → Option (α × List UInt8)
  | some (a, c :: r) => if c = 41 then some (a, r) else none
  | _ => none
def pEx : Nat → List UInt8 → Option (Ex × List UInt8)
  | 0, l => match l with
    | [] => pLeaf []
    | c :: r => if c = 35 then (pIdx r).map (fun x => (.mk 1 x.1 (false, 0) [], x.2)) else if c = 40 then none else pLeaf (c :: r)
  | d + 1, l => match l with
    | [] => pLeaf []
    | c :: r => if c = 35 then (pIdx r).map (fun x => (.mk 1 x.1 (false, 0) [], x.2)) else if c = 40 then (match kindOf opText 3 9 (wordOf r) with
      | some k => (pShut (pKids (pEx d) (kidsK k).toNat (restOf r))).map (fun x => (.mk k 0 (false, 0) x.1, x.2))
      | none => none) else pLeaf (c :: r)

theorem kindOf_at {nm : Int → List UInt8} : ∀ (n : Nat) (lo k : Int), lo ≤ k → k < lo + n → (∀ j, lo ≤ j → j < lo + n → nm j = nm k → j = k) → kindOf nm lo n (nm k) = some k
  | 0, lo, k, h1, h2, _ => absurd h2 (by omega)
  | n + 1, lo, k, h1, h2, hi => by
    unfold kindOf
    by_cases h : nm lo = nm k
    · rw [if_pos h, hi lo (by omega) (by omega) h]
    · rw [if_neg h]
      have hne : lo ≠ k := fun e => h (by rw [e])
      exact kindOf_at n (lo + 1) k (by omega) (by omega) fun j h3 h4 h5 => hi j (by omega) (by omega) h5
theorem pVal_text {v : Val} (h : vValid v = true) : pVal (valText v) = some v := by
  obtain ⟨b, n⟩ := v
  cases b
  · have hr : -10000 < n ∧ n < 10000 := by simp [vValid] at h; omega
    show pVal (Lib.itoa n) = _
    unfold pVal
    rw [if_neg (itoa_null n), atoi_itoa n (by omega) (by omega)]
    simp [h]
  · have : n = 0 := by simp [vValid] at h; omega
    subst this
    unfold pVal valText
    simp
theorem pKids_text {p : List UInt8 → Option (Ex × List UInt8)} : ∀ (es : List Ex) (rest : List UInt8), Delim rest → (∀ x ∈ es, ∀ r, Delim r → p (exText x ++ r) = some (x, r)) → pKids p es.length (exsText es ++ rest) = some (es, rest)
  | [], rest, _, _ => rfl
  | x :: es, rest, hd, hp => by
    have h1 : exsText (x :: es) ++ rest = 32 :: (exText x ++ (exsText es ++ rest)) := by simp [exsText]
    have hd1 : Delim (exsText es ++ rest) := by
      cases es with
      | nil => simpa [exsText] using hd
      | cons y ys => simp only [exsText, List.cons_append]; exact Delim.cons (by decide)
    have ih := pKids_text es rest hd fun y hy => hp y (List.mem_cons_of_mem _ hy)
    rw [h1, List.length_cons]
    unfold pKids
    simp [hp x (List.mem_cons_self ..) _ hd1, ih]
/-- WHAT IS READ IS WHAT WAS WRITTEN. -/
theorem pEx_text : ∀ (d : Nat) (x : Ex) (rest : List UInt8), ExOk 6 d x → Delim rest → pEx d (exText x ++ rest) = some (x, rest) := by
  intro d
  induction d with
  | zero =>
    intro x rest h hd
    obtain ⟨h1, h2, h3, h4⟩ := exOk_iff.1 h
    have hk0 : x.kids = [] := by
      match hk : x.kids with
      | [] => rfl
      | y :: ys => exact absurd rfl (h2 (by rw [hk]; simp))
    have htx := exText_eq x
    unfold LocOk at h4
    obtain ⟨k, c, v, ks⟩ := x
    have hk0 : ks = [] := hk0
    subst hk0
    have h1 : (0 : Int) = kidsK k := h1
    change if k = 1 then (0 ≤ c ∧ c ≤ 6 - 1) ∧ v = (false, 0) else if k = 2 then c = 0 ∧ vValid v = true else c = 0 ∧ v = (false, 0) at h4
    change exText (.mk k c v []) = if k = 1 then 35 :: Lib.itoa c else if k = 2 then valText v else _ at htx
    by_cases k1 : k = 1
    · rw [if_pos k1] at h4 htx
      obtain ⟨w1, w2⟩ := wordOf_app (itoa_noDel c) hd
      rw [htx, List.cons_append]
      unfold pEx
      simp only [pIdx, w1, w2, atoi_itoa c (by omega) (by omega)]
      simp [k1, h4.2]
    · rw [if_neg k1] at h4 htx
      by_cases k2 : k = 2
      · rw [if_pos k2] at h4 htx
        obtain ⟨w1, w2⟩ := wordOf_app (valText_noDel v) hd
        obtain ⟨a, r, he, ha1, ha2, _, _⟩ := valText_head (v := v)
        have hl : pLeaf (valText v ++ rest) = some (.mk 2 0 v [], rest) := by
          unfold pLeaf
          rw [w1, w2, pVal_text h4.2]
        rw [htx]
        rw [he] at hl ⊢
        rw [List.cons_append] at hl ⊢
        have n1 : ¬ a = 35 := fun e => ha1 (by rw [e]; rfl)
        have n2 : ¬ a = 40 := fun e => ha2 (by rw [e]; rfl)
        unfold pEx
        simp only [if_neg n1, if_neg n2, hl, k2, h4.1]
      · exfalso
        unfold kidsK at h1
        rw [if_neg (by omega)] at h1
        split at h1
        · omega
        · split at h1 <;> omega
  | succ d ih =>
    intro x rest h hd
    obtain ⟨h1, h2, h3, h4⟩ := exOk_iff.1 h
    have htx := exText_eq x
    have hkl := h.kids_le
    unfold LocOk at h4
    obtain ⟨k, c, v, ks⟩ := x
    change (ks.length : Int) = kidsK k at h1
    change ∀ x ∈ ks, ExOk 6 _ x at h3
    change ks.length ≤ 2 at hkl
    change if k = 1 then (0 ≤ c ∧ c ≤ 6 - 1) ∧ v = (false, 0) else if k = 2 then c = 0 ∧ vValid v = true else c = 0 ∧ v = (false, 0) at h4
    change exText (.mk k c v ks) = if k = 1 then 35 :: Lib.itoa c else if k = 2 then valText v else 40 :: (opText k ++ (exsText ks ++ [41])) at htx
    by_cases k1 : k = 1
    · rw [if_pos k1] at h4 htx
      have hk0 : ks = [] := List.length_eq_zero_iff.1 (by unfold kidsK at h1; rw [if_pos (by omega)] at h1; omega)
      subst hk0
      obtain ⟨w1, w2⟩ := wordOf_app (itoa_noDel c) hd
      rw [htx, List.cons_append]
      unfold pEx
      simp only [pIdx, w1, w2, atoi_itoa c (by omega) (by omega)]
      simp [k1, h4.2]
    · rw [if_neg k1] at h4 htx
      by_cases k2 : k = 2
      · rw [if_pos k2] at h4 htx
        have hk0 : ks = [] := List.length_eq_zero_iff.1 (by unfold kidsK at h1; rw [if_pos (by omega)] at h1; omega)
        subst hk0
        obtain ⟨w1, w2⟩ := wordOf_app (valText_noDel v) hd
        obtain ⟨a, r, he, ha1, ha2, _, _⟩ := valText_head (v := v)
        have hl : pLeaf (valText v ++ rest) = some (.mk 2 0 v [], rest) := by
          unfold pLeaf
          rw [w1, w2, pVal_text h4.2]
        rw [htx]
        rw [he] at hl ⊢
        rw [List.cons_append] at hl ⊢
        have n1 : ¬ a = 35 := fun e => ha1 (by rw [e]; rfl)
        have n2 : ¬ a = 40 := fun e => ha2 (by rw [e]; rfl)
        unfold pEx
        simp only [if_neg n1, if_neg n2, hl, k2, h4.1]
      · rw [if_neg k2] at h4 htx
        have hkr : 3 ≤ k ∧ k ≤ 11 := by
          unfold kidsK at h1
          rw [if_neg (by omega)] at h1
          split at h1
          · omega
          · split at h1 <;> omega
        have hd1 : Delim (exsText ks ++ (41 :: rest)) := by
          cases ks with
          | nil => exact Delim.cons (by decide)
          | cons y ys => simp only [exsText, List.cons_append]; exact Delim.cons (by decide)
        obtain ⟨w1, w2⟩ := wordOf_app (opText_noDel k) hd1
        have hkd := kindOf_at (nm := opText) 9 3 k hkr.1 (by omega) fun j h5 h6 h7 => opText_inj (by omega) (by omega) h7
        have hpk := pKids_text (p := pEx d) ks (41 :: rest) (Delim.cons (by decide)) fun y hy r hr => ih y r (by have := h3 y hy; rwa [show ((d + 1 : Nat) : Int) - 1 = (d : Int) by omega] at this) hr
        have e : exText (.mk k c v ks) ++ rest = 40 :: (opText k ++ (exsText ks ++ (41 :: rest))) := by rw [htx]; simp
        rw [e]
        unfold pEx
        have n1 : ¬ (40 : UInt8) = 35 := by decide
        have hn : (kidsK k).toNat = ks.length := by omega
        simp only [if_neg n1, if_true, w1, w2, hkd, hn, hpk]
        simp [pShut, h4.1, h4.2]
end Go.Qo
