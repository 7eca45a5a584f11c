/-
  How the reference reads an expression, in plain Lean; what it reads is what was written.
-/
import Derived.Test.YtmhlpjfijpomkaaGreatDoorZqDcE
namespace Go.Qo
open Go.RowKit
set_option linter.unusedVariables false
set_option linter.unusedSimpArgs false

/-- Taking one byte that must come next. -/
def spEat (c : UInt8) (r : List UInt8) (ok : Bool) : List UInt8 × Bool := match r with
  | [] => ([], false)
  | b :: r' => if b = c then (r', ok) else (b :: r', false)
theorem spEat_yes (c : UInt8) (r : List UInt8) (ok : Bool) : spEat c (c :: r) ok = (r, ok) := by simp [spEat]
theorem spEat_no {c : UInt8} {r : List UInt8} {ok : Bool} (h : ∀ r', r ≠ c :: r') : spEat c r ok = (r, false) := by
  cases r with
  | nil => rfl
  | cons b r' =>
    have : ¬ b = c := fun e => h r' (by rw [e])
    simp [spEat, this]
theorem spEat_tail (c : UInt8) (r : List UInt8) (ok : Bool) : ∃ a, r = a ++ (spEat c r ok).1 := by
  unfold spEat
  split
  · exact ⟨[], rfl⟩
  · rename_i b r'
    split
    · exact ⟨[b], rfl⟩
    · exact ⟨[], rfl⟩
def spKids {α : Type} (p : List UInt8 → Bool → α × List UInt8 × Bool) : Nat → List UInt8 → Bool → List α × List UInt8 × Bool
  | 0, r, ok => ([], r, ok)
  | n + 1, r, ok => if ok = true then
      ((p (spEat 32 r ok).1 (spEat 32 r ok).2).1 :: (spKids p n (p (spEat 32 r ok).1 (spEat 32 r ok).2).2.1 (p (spEat 32 r ok).1 (spEat 32 r ok).2).2.2).1,
       (spKids p n (p (spEat 32 r ok).1 (spEat 32 r ok).2).2.1 (p (spEat 32 r ok).1 (spEat 32 r ok).2).2.2).2)
    else ([], r, ok)
def spVal (l : List UInt8) : Val := if l = [110, 117, 108, 108] then (true, 0) else (false, pInt l)
def spLeaf (w : List UInt8) : Ex := if w.head? = some 35 then .mk 1 (pInt w.tail) (false, 0) [] else .mk 2 0 (spVal w) []
def spKind (nm : Int → List UInt8) (lo : Int) (n : Nat) (l : List UInt8) : Int := (kindOf nm lo n l).getD 0
def spEx : Nat → List UInt8 → Bool → Ex × List UInt8 × Bool
  | 0, r, ok => if r.head? = some 40 then
      (.mk (spKind opText 3 9 (wordOf r.tail)) 0 (false, 0) [], spEat 41 (restOf r.tail) ok)
    else (spLeaf (wordOf r), restOf r, ok)
  | d + 1, r, ok => if r.head? = some 40 then
      (.mk (spKind opText 3 9 (wordOf r.tail)) 0 (false, 0) (spKids (spEx d) (kidsK (spKind opText 3 9 (wordOf r.tail))).toNat (restOf r.tail) ok).1,
       spEat 41 (spKids (spEx d) (kidsK (spKind opText 3 9 (wordOf r.tail))).toNat (restOf r.tail) ok).2.1 (spKids (spEx d) (kidsK (spKind opText 3 9 (wordOf r.tail))).toNat (restOf r.tail) ok).2.2)
    else (spLeaf (wordOf r), restOf r, ok)
/-- How many kids are asked for. -/
def spMany (d : Nat) (k : Int) : Nat := if d = 0 then 0 else (kidsK k).toNat
theorem spEx_paren (d : Nat) (r : List UInt8) (ok : Bool) :
    spEx d (40 :: r) ok = (.mk (spKind opText 3 9 (wordOf r)) 0 (false, 0) (spKids (spEx (d - 1)) (spMany d (spKind opText 3 9 (wordOf r))) (restOf r) ok).1,
      spEat 41 (spKids (spEx (d - 1)) (spMany d (spKind opText 3 9 (wordOf r))) (restOf r) ok).2.1 (spKids (spEx (d - 1)) (spMany d (spKind opText 3 9 (wordOf r))) (restOf r) ok).2.2) := by
  cases d with
  | zero => simp [spEx, spMany, spKids]
  | succ d => simp [spEx, spMany]
theorem spEx_word (d : Nat) {r : List UInt8} (ok : Bool) (h : ∀ r', r ≠ 40 :: r') : spEx d r ok = (spLeaf (wordOf r), restOf r, ok) := by
  have hh : ¬ r.head? = some 40 := by
    cases r with
    | nil => simp
    | cons b r' =>
      have : ¬ b = 40 := fun e => h r' (by rw [e])
      simpa using this
  cases d with
  | zero => simp [spEx, hh]
  | succ d => simp [spEx, hh]
theorem spKids_tail {α : Type} {p : List UInt8 → Bool → α × List UInt8 × Bool} (hp : ∀ r ok, ∃ a, r = a ++ (p r ok).2.1) : ∀ (n : Nat) (r : List UInt8) (ok : Bool), ∃ a, r = a ++ (spKids p n r ok).2.1
  | 0, r, ok => ⟨[], rfl⟩
  | n + 1, r, ok => by
    unfold spKids
    split
    · obtain ⟨a1, h1⟩ := spEat_tail 32 r ok
      obtain ⟨a2, h2⟩ := hp (spEat 32 r ok).1 (spEat 32 r ok).2
      obtain ⟨a3, h3⟩ := spKids_tail hp n (p (spEat 32 r ok).1 (spEat 32 r ok).2).2.1 (p (spEat 32 r ok).1 (spEat 32 r ok).2).2.2
      refine ⟨a1 ++ (a2 ++ a3), ?_⟩
      dsimp only
      rw [List.append_assoc, List.append_assoc, ← h3, ← h2, ← h1]
    · exact ⟨[], rfl⟩
theorem spEx_tail : ∀ (d : Nat) (r : List UInt8) (ok : Bool), ∃ a, r = a ++ (spEx d r ok).2.1 := by
  intro d
  induction d with
  | zero =>
    intro r ok
    by_cases h : ∃ r', r = 40 :: r'
    · obtain ⟨r', rfl⟩ := h
      rw [spEx_paren]
      dsimp only
      obtain ⟨a, ha⟩ := spEat_tail 41 (restOf r') ok
      have hm : spMany 0 (spKind opText 3 9 (wordOf r')) = 0 := rfl
      rw [hm]
      exact ⟨40 :: (wordOf r' ++ a), by show _ = _ ++ (spEat 41 (restOf r') ok).1; rw [List.cons_append, List.append_assoc, ← ha, word_rest]⟩
    · rw [spEx_word 0 ok fun r' e => h ⟨r', e⟩]
      exact ⟨wordOf r, (word_rest r).symm⟩
  | succ d ih =>
    intro r ok
    by_cases h : ∃ r', r = 40 :: r'
    · obtain ⟨r', rfl⟩ := h
      rw [spEx_paren]
      dsimp only
      obtain ⟨a1, h1⟩ := spKids_tail ih (spMany (d + 1) (spKind opText 3 9 (wordOf r'))) (restOf r') ok
      obtain ⟨a2, h2⟩ := spEat_tail 41 (spKids (spEx d) (spMany (d + 1) (spKind opText 3 9 (wordOf r'))) (restOf r') ok).2.1 (spKids (spEx d) (spMany (d + 1) (spKind opText 3 9 (wordOf r'))) (restOf r') ok).2.2
      exact ⟨40 :: (wordOf r' ++ (a1 ++ a2)), by rw [List.cons_append, List.append_assoc, List.append_assoc, Nat.add_sub_cancel, ← h2, ← h1, word_rest]⟩
    · rw [spEx_word (d + 1) ok fun r' e => h ⟨r', e⟩]
      exact ⟨wordOf r, (word_rest r).symm⟩
theorem spVal_text {v : Val} (h : vValid v = true) : spVal (valText v) = v := by
  obtain ⟨b, n⟩ := v
  cases b
  · have hr : -10000 < n ∧ n < 10000 := by simp [vValid] at h; omega
    show spVal (Lib.itoa n) = _
    unfold spVal
    rw [if_neg (itoa_null n), pInt_itoa n (by omega) (by omega)]
  · have : n = 0 := by simp [vValid] at h; omega
    subst this
    unfold spVal valText
    simp
theorem spKids_text {α : Type} {tx : α → List UInt8} {txs : List α → List UInt8} (hnil : txs [] = []) (hcons : ∀ x xs, txs (x :: xs) = 32 :: (tx x ++ txs xs)) {p : List UInt8 → Bool → α × List UInt8 × Bool} :
    ∀ (es : List α) (rest : List UInt8), Delim rest → (∀ x ∈ es, ∀ r, Delim r → p (tx x ++ r) true = (x, r, true)) → spKids p es.length (txs es ++ rest) true = (es, rest, true)
  | [], rest, _, _ => by rw [hnil]; rfl
  | x :: es, rest, hd, hp => by
    have h1 : txs (x :: es) ++ rest = 32 :: (tx x ++ (txs es ++ rest)) := by rw [hcons]; simp
    have hd1 : Delim (txs es ++ rest) := by
      cases es with
      | nil => rw [hnil]; simpa using hd
      | cons y ys => rw [hcons, List.cons_append]; exact Delim.cons (by decide)
    have ih := spKids_text hnil hcons es rest hd fun y hy => hp y (List.mem_cons_of_mem _ hy)
    rw [h1, List.length_cons]
    unfold spKids
    rw [if_pos rfl, spEat_yes]
    simp only [hp x (List.mem_cons_self ..) _ hd1, ih]
/-- WHAT IS READ IS WHAT WAS WRITTEN. -/
theorem spEx_text : ∀ (d : Nat) (x : Ex) (rest : List UInt8), ExOk 6 d x → Delim rest → spEx d (exText x ++ rest) true = (x, rest, true) := by
  have leaf : ∀ (d : Nat) (x : Ex) (rest : List UInt8), (∃ d', ExOk 6 d' x) → (x.kind = 1 ∨ x.kind = 2) → Delim rest → spEx d (exText x ++ rest) true = (x, rest, true) := by
    intro d x rest ⟨d', h⟩ hk hd
    obtain ⟨h1, h2, h3, h4⟩ := exOk_iff.1 h
    have htx := exText_eq x
    unfold LocOk at h4
    obtain ⟨k, c, v, ks⟩ := x
    change (ks.length : Int) = kidsK k at h1
    change k = 1 ∨ k = 2 at hk
    have hk0 : ks = [] := List.length_eq_zero_iff.1 (by unfold kidsK at h1; rw [if_pos hk] at h1; omega)
    subst hk0
    change if k = 1 then (0 ≤ c ∧ c ≤ 6 - 1) ∧ v = (false, 0) else if k = 2 then c = 0 ∧ vValid v = true else c = 0 ∧ v = (false, 0) at h4
    change exText (.mk k c v []) = if k = 1 then 35 :: Lib.itoa c else if k = 2 then valText v else _ at htx
    by_cases k1 : k = 1
    · rw [if_pos k1] at h4 htx
      have hnd : NoDel (35 :: Lib.itoa c) := fun b hb => by
        rcases List.mem_cons.1 hb with rfl | hb
        · decide
        · exact itoa_noDel c b hb
      obtain ⟨w1, w2⟩ := wordOf_app hnd hd
      rw [htx]
      rw [spEx_word d true (fun r' e => by simp at e), w1, w2]
      unfold spLeaf
      rw [if_pos (show (35 :: Lib.itoa c).head? = some 35 from rfl), List.tail_cons, pInt_itoa c (by omega) (by omega), k1, h4.2]
    · have k2 : k = 2 := by omega
      rw [if_neg k1, if_pos k2] at h4 htx
      obtain ⟨w1, w2⟩ := wordOf_app (valText_noDel v) hd
      obtain ⟨a, r, he, ha1, ha2, _, _⟩ := valText_head (v := v)
      have n1 : ¬ a = 35 := fun e => ha1 (by rw [e]; rfl)
      have n2 : ¬ a = 40 := fun e => ha2 (by rw [e]; rfl)
      rw [htx, spEx_word d true (fun r' e => by rw [he] at e; exact n2 (by simpa using congrArg List.head? e)), w1, w2]
      unfold spLeaf
      rw [if_neg (by rw [he]; simpa using n1), spVal_text h4.2, k2, h4.1]
  intro d
  induction d with
  | zero =>
    intro x rest h hd
    obtain ⟨h1, h2, h3, h4⟩ := exOk_iff.1 h
    have hk0 : x.kids.length = 0 := by
      rcases Nat.eq_zero_or_pos x.kids.length with e | e
      · exact e
      · exact absurd rfl (h2 e)
    refine leaf 0 x rest ⟨_, h⟩ ?_ hd
    unfold kidsK at h1
    split at h1
    · assumption
    · split at h1
      · omega
      · split at h1 <;> omega
  | succ d ih =>
    intro x rest h hd
    by_cases hlf : x.kind = 1 ∨ x.kind = 2
    · exact leaf _ x rest ⟨_, h⟩ hlf hd
    obtain ⟨h1, h2, h3, h4⟩ := exOk_iff.1 h
    have htx := exText_eq x
    unfold LocOk at h4
    obtain ⟨k, c, v, ks⟩ := x
    change (ks.length : Int) = kidsK k at h1
    change ∀ x ∈ ks, ExOk 6 _ x at h3
    change ¬ (k = 1 ∨ k = 2) at hlf
    have k1 : ¬ k = 1 := fun e => hlf (.inl e)
    have k2 : ¬ k = 2 := fun e => hlf (.inr e)
    change if k = 1 then (0 ≤ c ∧ c ≤ 6 - 1) ∧ v = (false, 0) else if k = 2 then c = 0 ∧ vValid v = true else c = 0 ∧ v = (false, 0) at h4
    change exText (.mk k c v ks) = if k = 1 then 35 :: Lib.itoa c else if k = 2 then valText v else 40 :: (opText k ++ (exsText ks ++ [41])) at htx
    rw [if_neg k1, if_neg k2] at h4 htx
    have hkr : 3 ≤ k ∧ k ≤ 11 := by
      unfold kidsK at h1
      rw [if_neg (by omega)] at h1
      split at h1
      · omega
      · split at h1 <;> omega
    have hd1 : Delim (exsText ks ++ (41 :: rest)) := by
      cases ks with
      | nil => exact Delim.cons (by decide)
      | cons y ys => simp only [exsText, List.cons_append]; exact Delim.cons (by decide)
    obtain ⟨w1, w2⟩ := wordOf_app (opText_noDel k) hd1
    have hkd := kindOf_at (nm := opText) 9 3 k hkr.1 (by omega) fun j h5 h6 h7 => opText_inj (by omega) (by omega) h7
    have hsk : spKind opText 3 9 (opText k) = k := by unfold spKind; rw [hkd]; rfl
    have hpk := spKids_text (tx := exText) (txs := exsText) (by rw [exsText]) (fun x xs => by rw [exsText]) (p := spEx d) ks (41 :: rest) (Delim.cons (by decide)) fun y hy r hr => ih y r (by have := h3 y hy; rwa [show ((d + 1 : Nat) : Int) - 1 = (d : Int) by omega] at this) hr
    have e : exText (.mk k c v ks) ++ rest = 40 :: (opText k ++ (exsText ks ++ (41 :: rest))) := by rw [htx]; simp
    have hn : spMany (d + 1) k = ks.length := by show (kidsK k).toNat = _; omega
    rw [e, spEx_paren, w1, w2, hsk, hn, Nat.add_sub_cancel, hpk, h4.1, h4.2]
    simp only [spEat_yes]
end Go.Qo
