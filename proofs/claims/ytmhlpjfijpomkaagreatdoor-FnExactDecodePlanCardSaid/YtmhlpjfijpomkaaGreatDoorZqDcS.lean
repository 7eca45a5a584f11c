/-
  How the reference reads a plan, in plain Lean; what it reads is what was written.
-/
import Derived.Test.YtmhlpjfijpomkaaGreatDoorZqDcP
import Derived.Test.YtmhlpjfijpomkaaGreatDoorZqDcR
namespace Go.Qo
open Go.RowKit
set_option linter.unusedVariables false
set_option linter.unusedSimpArgs false

/-- The reference's loop over the parts of a plan. -/
def spParts (kid : List UInt8 → Bool → Pl × List UInt8 × Bool) (deep : Bool) (k : Int) : Nat → List Ex → List Int → List Pl → List UInt8 → Bool → (List Ex × List Int × List Pl) × List UInt8 × Bool
  | 0, es, cs, ks, r, ok => ((es, cs, ks), r, ok)
  | n + 1, es, cs, ks, r, ok => if r.head? = some 32 ∧ ok = true then
      (if isPl r.tail = true ∧ deep = true then spParts kid deep k n es cs (ks ++ [(kid r.tail true).1]) (kid r.tail true).2.1 (kid r.tail true).2.2
      else if k = 8 ∧ r.tail.head? = some 35 then spParts kid deep k n es (cs ++ [pInt (wordOf r.tail).tail]) ks (restOf r.tail) true
      else if isPl r.tail = true then spParts kid deep k n es cs ks r.tail false
      else spParts kid deep k n (es ++ [(spEx 8 r.tail true).1]) cs ks (spEx 8 r.tail true).2.1 (spEx 8 r.tail true).2.2)
    else ((es, cs, ks), r, ok)
def spTab (k : Int) (r : List UInt8) (ok : Bool) : Int × List UInt8 × Bool :=
  if k = 1 then (pInt (wordOf (spEat 32 r ok).1), restOf (spEat 32 r ok).1, (spEat 32 r ok).2) else (0, r, ok)
def spMk (k t : Int) (q : (List Ex × List Int × List Pl) × List UInt8 × Bool) : Pl × List UInt8 × Bool := (.mk k t q.1.1 q.1.2.1 q.1.2.2, spEat 41 q.2.1 q.2.2)
def spHead (l : List UInt8) (ok : Bool) : Int := spKind plName 1 8 (wordOf (spEat 40 l ok).1)
def spFrom (l : List UInt8) (ok : Bool) : Int × List UInt8 × Bool := spTab (spHead l ok) (restOf (spEat 40 l ok).1) (spEat 40 l ok).2
def spBody (kid : List UInt8 → Bool → Pl × List UInt8 × Bool) (deep : Bool) (l : List UInt8) (ok : Bool) : Pl × List UInt8 × Bool :=
  spMk (spHead l ok) (spFrom l ok).1 (spParts kid deep (spHead l ok) (spFrom l ok).2.1.length [] [] [] (spFrom l ok).2.1 (spFrom l ok).2.2)
def spPl : Nat → List UInt8 → Bool → Pl × List UInt8 × Bool
  | 0 => spBody (fun r ok => (.mk 0 0 [] [] [], r, ok)) false
  | d + 1 => spBody (spPl d) true

theorem spTab_tail (k : Int) (r : List UInt8) (ok : Bool) : ∃ a, r = a ++ (spTab k r ok).2.1 := by
  unfold spTab
  split
  · obtain ⟨a, ha⟩ := spEat_tail 32 r ok
    refine ⟨a ++ wordOf (spEat 32 r ok).1, ?_⟩
    dsimp only
    rw [List.append_assoc, word_rest, ← ha]
  · exact ⟨[], rfl⟩
theorem spFrom_tail (l : List UInt8) (ok : Bool) : ∃ a, l = a ++ (spFrom l ok).2.1 := by
  obtain ⟨a1, h1⟩ := spEat_tail 40 l ok
  obtain ⟨a2, h2⟩ := spTab_tail (spHead l ok) (restOf (spEat 40 l ok).1) (spEat 40 l ok).2
  refine ⟨a1 ++ (wordOf (spEat 40 l ok).1 ++ a2), ?_⟩
  unfold spFrom
  rw [List.append_assoc, List.append_assoc, ← h2, word_rest, ← h1]
theorem head32 {r : List UInt8} (h : r.head? = some 32) : r = 32 :: r.tail := by
  cases r with
  | nil => cases h
  | cons c r => simp at h; rw [h]; rfl
/-- One round of the loop leaves less text. -/
theorem spParts_tail {kid : List UInt8 → Bool → Pl × List UInt8 × Bool} (hk : ∀ r ok, ∃ a, r = a ++ (kid r ok).2.1) (deep : Bool) (k : Int) :
    ∀ (n : Nat) (es : List Ex) (cs : List Int) (ks : List Pl) (r : List UInt8) (ok : Bool), ∃ a, r = a ++ (spParts kid deep k n es cs ks r ok).2.1
  | 0, es, cs, ks, r, ok => ⟨[], rfl⟩
  | n + 1, es, cs, ks, r, ok => by
    unfold spParts
    by_cases h : r.head? = some 32 ∧ ok = true
    · rw [if_pos h]
      have hr := head32 h.1
      by_cases h1 : isPl r.tail = true ∧ deep = true
      · rw [if_pos h1]
        obtain ⟨a1, e1⟩ := hk r.tail true
        obtain ⟨a2, e2⟩ := spParts_tail hk deep k n es cs (ks ++ [(kid r.tail true).1]) (kid r.tail true).2.1 (kid r.tail true).2.2
        exact ⟨32 :: (a1 ++ a2), by rw [List.cons_append, List.append_assoc, ← e2, ← e1, ← hr]⟩
      · rw [if_neg h1]
        by_cases h2 : k = 8 ∧ r.tail.head? = some 35
        · rw [if_pos h2]
          obtain ⟨a2, e2⟩ := spParts_tail hk deep k n es (cs ++ [pInt (wordOf r.tail).tail]) ks (restOf r.tail) true
          exact ⟨32 :: (wordOf r.tail ++ a2), by rw [List.cons_append, List.append_assoc, ← e2, word_rest, ← hr]⟩
        · rw [if_neg h2]
          by_cases h3 : isPl r.tail = true
          · rw [if_pos h3]
            obtain ⟨a2, e2⟩ := spParts_tail hk deep k n es cs ks r.tail false
            exact ⟨32 :: a2, by rw [List.cons_append, ← e2, ← hr]⟩
          · rw [if_neg h3]
            obtain ⟨a1, e1⟩ := spEx_tail 8 r.tail true
            obtain ⟨a2, e2⟩ := spParts_tail hk deep k n (es ++ [(spEx 8 r.tail true).1]) cs ks (spEx 8 r.tail true).2.1 (spEx 8 r.tail true).2.2
            exact ⟨32 :: (a1 ++ a2), by rw [List.cons_append, List.append_assoc, ← e2, ← e1, ← hr]⟩
    · rw [if_neg h]
      exact ⟨[], rfl⟩
theorem spBody_tail {kid : List UInt8 → Bool → Pl × List UInt8 × Bool} (hk : ∀ r ok, ∃ a, r = a ++ (kid r ok).2.1) (deep : Bool) (l : List UInt8) (ok : Bool) : ∃ a, l = a ++ (spBody kid deep l ok).2.1 := by
  unfold spBody spMk
  obtain ⟨a1, h1⟩ := spFrom_tail l ok
  obtain ⟨a2, h2⟩ := spParts_tail hk deep (spHead l ok) (spFrom l ok).2.1.length [] [] [] (spFrom l ok).2.1 (spFrom l ok).2.2
  obtain ⟨a3, h3⟩ := spEat_tail 41 (spParts kid deep (spHead l ok) (spFrom l ok).2.1.length [] [] [] (spFrom l ok).2.1 (spFrom l ok).2.2).2.1 (spParts kid deep (spHead l ok) (spFrom l ok).2.1.length [] [] [] (spFrom l ok).2.1 (spFrom l ok).2.2).2.2
  exact ⟨a1 ++ (a2 ++ a3), by rw [List.append_assoc, List.append_assoc, ← h3, ← h2, ← h1]⟩
theorem spPl_tail : ∀ (d : Nat) (l : List UInt8) (ok : Bool), ∃ a, l = a ++ (spPl d l ok).2.1
  | 0, l, ok => spBody_tail (fun r ok => ⟨[], rfl⟩) false l ok
  | d + 1, l, ok => spBody_tail (spPl_tail d) true l ok

/-! ### What is read is what was written -/
theorem spParts_stop {kid : List UInt8 → Bool → Pl × List UInt8 × Bool} {deep : Bool} {k : Int} {n : Nat} {es : List Ex} {cs : List Int} {ks : List Pl} {r : List UInt8} (h : r.head? ≠ some 32) : spParts kid deep k n es cs ks r true = ((es, cs, ks), r, true) := by
  cases n with
  | zero => rfl
  | succ n => unfold spParts; rw [if_neg fun q => h q.1]
theorem spParts_kids {kid : List UInt8 → Bool → Pl × List UInt8 × Bool} {deep : Bool} {k : Int} (rest : List UInt8) : ∀ (ps : List Pl) (n : Nat) (es : List Ex) (cs : List Int) (ks : List Pl), ps.length ≤ n → (0 < ps.length → deep = true) →
    (∀ x ∈ ps, OnlyF x ∧ ∀ r, Delim r → kid (plText x ++ r) true = (x, r, true)) → spParts kid deep k n es cs ks (plsText ps ++ 41 :: rest) true = ((es, cs, ks ++ ps), 41 :: rest, true)
  | [], n, es, cs, ks, _, _, _ => by
    rw [show plsText [] ++ 41 :: rest = 41 :: rest by simp [plsText], spParts_stop (by simp), List.append_nil]
  | x :: ps, 0, es, cs, ks, hl, _, _ => by simp at hl
  | x :: ps, n + 1, es, cs, ks, hl, hd, h => by
    have e : plsText (x :: ps) ++ 41 :: rest = 32 :: (plText x ++ (plsText ps ++ 41 :: rest)) := by simp [plsText]
    obtain ⟨ho, hx⟩ := h x (List.mem_cons_self ..)
    have h1 := (plText_at x ho (plsText ps ++ 41 :: rest)).2.1
    have h2 := hx (plsText ps ++ 41 :: rest) (plsText_delim (Delim.cons (by decide)))
    rw [e]
    unfold spParts
    rw [if_pos ⟨rfl, rfl⟩, List.tail_cons, if_pos ⟨h1, hd (by simp)⟩, h2]
    dsimp only
    rw [spParts_kids rest ps n es cs (ks ++ [x]) (by simp at hl; omega) (fun _ => hd (by simp)) fun y hy => h y (List.mem_cons_of_mem _ hy), List.append_assoc]
    rfl
theorem exText_isPl (x : Ex) {d : Int} (h : ExOk 6 d x) (rest : List UInt8) (hd : Delim rest) : isPl (exText x ++ rest) = false := by
  have := exText_noPl x h rest hd
  unfold atPl at this
  unfold isPl
  cases hq : exText x ++ rest with
  | nil => rfl
  | cons c r =>
    rw [hq] at this
    dsimp only
    by_cases h40 : c = 40
    · rw [if_pos h40]
      rw [h40, strip2_yes] at this
      exact this
    · rw [if_neg h40]
theorem spParts_exs {kid : List UInt8 → Bool → Pl × List UInt8 × Bool} {deep : Bool} {k : Int} (hk : k ≠ 8) (rest : List UInt8) (hr : Delim rest) : ∀ (xs : List Ex) (n m : Nat) (es : List Ex) (cs : List Int) (ks : List Pl), m + xs.length ≤ n →
    (∀ x ∈ xs, ExOk 6 8 x) → ∃ n', m ≤ n' ∧ spParts kid deep k n es cs ks (exsText xs ++ rest) true = spParts kid deep k n' (es ++ xs) cs ks rest true
  | [], n, m, es, cs, ks, hl, _ => ⟨n, by simp at hl; omega, by simp [exsText]⟩
  | x :: xs, 0, m, es, cs, ks, hl, _ => by simp at hl
  | x :: xs, n + 1, m, es, cs, ks, hl, h => by
    have e : exsText (x :: xs) ++ rest = 32 :: (exText x ++ (exsText xs ++ rest)) := by simp [exsText]
    have hx := h x (List.mem_cons_self ..)
    have hd1 := exsText_delim (es := xs) hr
    have h1 := exText_isPl x hx (exsText xs ++ rest) hd1
    obtain ⟨n', hn, hq⟩ := spParts_exs (kid := kid) (deep := deep) hk rest hr xs n m (es ++ [x]) cs ks (by simp at hl; omega) fun y hy => h y (List.mem_cons_of_mem _ hy)
    refine ⟨n', hn, ?_⟩
    rw [e]
    conv => lhs; unfold spParts
    rw [if_pos ⟨rfl, rfl⟩, List.tail_cons, if_neg (by rw [h1]; simp), if_neg (fun q => hk q.1), if_neg (by rw [h1]; simp), spEx_text 8 x _ hx hd1]
    dsimp only
    rw [hq, List.append_assoc]
    rfl
theorem spParts_cols {kid : List UInt8 → Bool → Pl × List UInt8 × Bool} {deep : Bool} (rest : List UInt8) (hr : Delim rest) : ∀ (xs : List Int) (n m : Nat) (es : List Ex) (cs : List Int) (ks : List Pl), m + xs.length ≤ n →
    (∀ x ∈ xs, 0 ≤ x ∧ x ≤ 1000) → ∃ n', m ≤ n' ∧ spParts kid deep 8 n es cs ks (colsText xs ++ rest) true = spParts kid deep 8 n' es (cs ++ xs) ks rest true
  | [], n, m, es, cs, ks, hl, _ => ⟨n, by simp at hl; omega, by simp [colsText]⟩
  | x :: xs, 0, m, es, cs, ks, hl, _ => by simp at hl
  | x :: xs, n + 1, m, es, cs, ks, hl, h => by
    have e : colsText (x :: xs) ++ rest = 32 :: ((35 :: Lib.itoa x) ++ (colsText xs ++ rest)) := by simp [colsText]
    have hx := h x (List.mem_cons_self ..)
    have hd1 := colsText_delim (cs := xs) hr
    have hnd : NoDel (35 :: Lib.itoa x) := fun b hb => by
      rcases List.mem_cons.1 hb with rfl | hb
      · decide
      · exact itoa_noDel x b hb
    obtain ⟨w1, w2⟩ := wordOf_app hnd hd1
    have h1 : isPl ((35 :: Lib.itoa x) ++ (colsText xs ++ rest)) = false := by simp [isPl]
    obtain ⟨n', hn, hq⟩ := spParts_cols (kid := kid) (deep := deep) rest hr xs n m es (cs ++ [x]) ks (by simp at hl; omega) fun y hy => h y (List.mem_cons_of_mem _ hy)
    refine ⟨n', hn, ?_⟩
    rw [e]
    conv => lhs; unfold spParts
    rw [if_pos ⟨rfl, rfl⟩, List.tail_cons, if_neg (by rw [h1]; simp), if_pos ⟨rfl, rfl⟩, w1, w2, List.tail_cons, pInt_itoa x (by omega) (by omega), hq, List.append_assoc]
    rfl
theorem spPl_text : ∀ (d : Nat) (p : Pl) (rest : List UInt8), RdOk d p → Delim rest → spPl d (plText p ++ rest) true = (p, rest, true) := by
  have core : ∀ (d : Nat) (kid : List UInt8 → Bool → Pl × List UInt8 × Bool) (deep : Bool) (p : Pl) (rest : List UInt8), RdOk d p → Delim rest → (0 < p.kids.length → deep = true) →
      (∀ x ∈ p.kids, ∀ r, Delim r → kid (plText x ++ r) true = (x, r, true)) → spBody kid deep (plText p ++ rest) true = (p, rest, true) := by
    intro d kid deep p rest h hd hdp hkid
    obtain ⟨htx, h3, hks⟩ := rdOk_iff.1 h
    obtain ⟨ho, he, hc, ht, hx, hcs, hdk, _⟩ := txOk_iff.1 htx
    obtain ⟨_, _, hw, hkd⟩ := plText_at p ho rest
    have hd4 : Delim (plsText p.kids ++ (41 :: rest)) := plsText_delim (Delim.cons (by decide))
    have hd3 := exsText_delim (es := p.exprs) hd4
    have hd2 := colsText_delim (cs := p.cols) hd3
    have hd1 := tabText_delim (k := p.kind) (t := p.table) hd2
    obtain ⟨w1, w2⟩ := wordOf_app (plName_noDel p.kind) hd1
    have e : plText p ++ rest = 40 :: (plName p.kind ++ (tabText p.kind p.table ++ (colsText p.cols ++ (exsText p.exprs ++ (plsText p.kids ++ (41 :: rest)))))) := by rw [plText_eq]; simp
    have hH : spHead (plText p ++ rest) true = p.kind := by
      unfold spHead spKind
      rw [e, spEat_yes]
      dsimp only
      rw [w1, hkd]
      rfl
    have hkf : ∀ x ∈ p.kids, OnlyF x ∧ ∀ r, Delim r → kid (plText x ++ r) true = (x, r, true) := fun x hx => ⟨(txOk_iff.1 (rdOk_iff.1 (hks x hx)).1).1, hkid x hx⟩
    obtain ⟨hk, h2, h4, h5, h6⟩ := ho
    have hF : spFrom (plText p ++ rest) true = (p.table, colsText p.cols ++ (exsText p.exprs ++ (plsText p.kids ++ (41 :: rest))), true) := by
      unfold spFrom spTab
      rw [hH, e, spEat_yes]
      dsimp only
      rw [w2]
      unfold tabText
      by_cases k1 : p.kind = 1
      · rw [if_pos k1, if_pos k1, List.cons_append, spEat_yes]
        dsimp only
        obtain ⟨v1, v2⟩ := wordOf_app (itoa_noDel p.table) hd2
        rw [v1, v2, pInt_itoa p.table (by omega) (by omega)]
      · rw [if_neg k1, if_neg k1, List.nil_append]
        have : p.table = 0 := by omega
        rw [this]
    have hP : spParts kid deep p.kind (colsText p.cols ++ (exsText p.exprs ++ (plsText p.kids ++ (41 :: rest)))).length [] [] [] (colsText p.cols ++ (exsText p.exprs ++ (plsText p.kids ++ (41 :: rest)))) true = ((p.exprs, p.cols, p.kids), 41 :: rest, true) := by
      have hl1 := exsText_len1 p.exprs
      have hl2 := colsText_len1 p.cols
      have hl3 : p.kids.length ≤ 2 := by
        unfold nkids at h2
        split at h2
        · omega
        · split at h2 <;> omega
      have hl4 : ∀ ps : List Pl, ps.length ≤ (plsText ps).length := fun ps => by
        induction ps with
        | nil => simp
        | cons x xs ih => simp [plsText]; omega
      have hl4 := hl4 p.kids
      by_cases k8 : p.kind = 8
      · have he0 : p.exprs = [] := List.length_eq_zero_iff.1 (by unfold nexprs at h4; rw [if_neg (by omega), if_neg (by omega)] at h4; omega)
        rw [he0, show exsText [] = [] by simp [exsText], List.nil_append, k8]
        obtain ⟨n', hn, hq⟩ := spParts_cols (kid := kid) (deep := deep) (plsText p.kids ++ (41 :: rest)) hd4 p.cols (colsText p.cols ++ (plsText p.kids ++ (41 :: rest))).length p.kids.length [] [] [] (by simp; omega) hcs
        rw [hq, spParts_kids rest p.kids n' [] ([] ++ p.cols) [] hn hdp hkf]
        rfl
      · have hc0 : p.cols = [] := List.length_eq_zero_iff.1 (by omega)
        rw [hc0, show colsText [] = [] by simp [colsText], List.nil_append]
        obtain ⟨n', hn, hq⟩ := spParts_exs (kid := kid) (deep := deep) k8 (plsText p.kids ++ (41 :: rest)) hd4 p.exprs (exsText p.exprs ++ (plsText p.kids ++ (41 :: rest))).length p.kids.length [] [] [] (by simp; omega) hx
        rw [hq, spParts_kids rest p.kids n' ([] ++ p.exprs) [] [] hn hdp hkf]
        rfl
    unfold spBody
    rw [hH, hF]
    dsimp only
    rw [hP]
    unfold spMk
    dsimp only
    rw [spEat_yes]
    obtain ⟨k, t, es, cs, ks⟩ := p
    rfl
  intro d
  induction d with
  | zero =>
    intro p rest h hd
    obtain ⟨htx, h3, hks⟩ := rdOk_iff.1 h
    have hk0 : p.kids = [] := List.length_eq_zero_iff.1 (by
      have := (txOk_iff.1 htx).2.2.2.2.2.2.1
      rcases Nat.eq_zero_or_pos p.kids.length with e | e
      · exact e
      · have := this e; omega)
    exact core 0 _ false p rest h hd (fun h0 => by rw [hk0] at h0; simp at h0) (fun x hx => by rw [hk0] at hx; cases hx)
  | succ d ih =>
    intro p rest h hd
    exact core (d + 1) _ true p rest h hd (fun _ => rfl) fun x hx r hr => ih x r ((rdOk_iff.1 h).2.2 x hx) hr
end Go.Qo
