import Derived.Test.YtmhlpjfijpomkaaGreatDoorZpEnP
import Derived.Lib.AtoiAllCases
import Derived.Lib.IndexAny
/-
  Reading a text form: words, numbers, names; in plain Lean.
-/
namespace Go.Qo
open Go.RowKit
set_option linter.unusedVariables false
set_option linter.unusedSimpArgs false

/-! ### Words -/
def isDel (c : UInt8) : Bool := c == 32 || c == 40 || c == 41
def wordOf : List UInt8 → List UInt8
  | [] => []
  | c :: l => if isDel c then [] else c :: wordOf l
def restOf : List UInt8 → List UInt8
  | [] => []
  | c :: l => if isDel c then c :: l else restOf l
def NoDel (l : List UInt8) : Prop := ∀ c ∈ l, isDel c = false
def Delim (l : List UInt8) : Prop := ∀ c r, l = c :: r → isDel c = true
theorem Delim.nil : Delim [] := fun c r h => by cases h
theorem Delim.cons {c : UInt8} {l : List UInt8} (h : isDel c = true) : Delim (c :: l) := fun c' r h' => by cases h'; exact h
theorem word_rest : ∀ l, wordOf l ++ restOf l = l
  | [] => rfl
  | c :: l => by
    unfold wordOf restOf
    by_cases h : isDel c = true
    · rw [if_pos h, if_pos h]; rfl
    · rw [if_neg h, if_neg h, List.cons_append, word_rest l]
theorem wordOf_app : ∀ {a b : List UInt8}, NoDel a → Delim b → wordOf (a ++ b) = a ∧ restOf (a ++ b) = b
  | [], [], _, _ => ⟨rfl, rfl⟩
  | [], c :: b, _, hb => by
    have := hb c b rfl
    simp [wordOf, restOf, this]
  | c :: a, b, ha, hb => by
    have h := ha c (List.mem_cons_self ..)
    obtain ⟨h1, h2⟩ := wordOf_app (a := a) (b := b) (fun d hd => ha d (List.mem_cons_of_mem _ hd)) hb
    simp [wordOf, restOf, h, h1, h2]
theorem del_contains (c : UInt8) : ([32, 40, 41] : List UInt8).contains c = isDel c := by
  unfold isDel
  rw [List.contains_cons, List.contains_cons, List.contains_cons, List.contains_nil, Bool.or_false, Bool.or_assoc]
theorem indexAny_word : ∀ l : List UInt8, Lib.indexAny l [32, 40, 41] = if restOf l = [] then -1 else ((wordOf l).length : Int)
  | [] => rfl
  | c :: l => by
    unfold Lib.indexAny wordOf restOf
    rw [del_contains]
    by_cases h : isDel c = true
    · rw [if_pos h, if_pos h, if_pos h, if_neg (by simp)]; rfl
    · rw [if_neg h, if_neg h, if_neg h, indexAny_word l]
      by_cases hr : restOf l = []
      · simp [hr]
      · have : ¬ (((wordOf l).length : Int) == -1) = true := by rw [beq_iff_eq]; omega
        simp only [if_neg hr, if_neg this, List.length_cons]
        omega
theorem word_all {l : List UInt8} (h : restOf l = []) : wordOf l = l := by
  have := word_rest l
  rw [h, List.append_nil] at this
  exact this

/-! ### Numbers -/
theorem pdec_big {m : Nat} (h : ¬ m < 10) : Lib.decDigits m = Lib.decDigits (m / 10) ++ [UInt8.ofNat (48 + m % 10)] := by rw [Lib.decDigits, dif_neg h]
theorem pdec_small {m : Nat} (h : m < 10) : Lib.decDigits m = [UInt8.ofNat (48 + m)] := by rw [Lib.decDigits, dif_pos h]
theorem ofNat_dig {d : Nat} (h : d < 10) : (UInt8.ofNat (48 + d)).toNat = 48 + d := UInt8.toNat_ofNat_of_lt' (by show 48 + d < 256; omega)
theorem dec_dig (m : Nat) : ∀ c ∈ Lib.decDigits m, 48 ≤ c.toNat ∧ c.toNat ≤ 57 := by
  induction m using Nat.strongRecOn with
  | _ m ih =>
    intro c hc
    by_cases h : m < 10
    · rw [pdec_small h] at hc
      have : c = UInt8.ofNat (48 + m) := by simpa using hc
      rw [this, ofNat_dig h]; omega
    · rw [pdec_big h] at hc
      rcases List.mem_append.1 hc with hc | hc
      · exact ih (m / 10) (by omega) c hc
      · have : c = UInt8.ofNat (48 + m % 10) := by simpa using hc
        rw [this, ofNat_dig (by omega)]; omega
theorem dec_ne (m : Nat) : Lib.decDigits m ≠ [] := by
  by_cases h : m < 10
  · rw [pdec_small h]; simp
  · rw [pdec_big h]; simp
theorem itoa_bytes (n : Int) : ∀ c ∈ Lib.itoa n, c.toNat = 45 ∨ (48 ≤ c.toNat ∧ c.toNat ≤ 57) := by
  intro c hc
  unfold Lib.itoa at hc
  split at hc
  · rcases List.mem_cons.1 hc with rfl | hc
    · exact .inl rfl
    · exact .inr (dec_dig _ c hc)
  · exact .inr (dec_dig _ c hc)
theorem itoa_ne (n : Int) : Lib.itoa n ≠ [] := by
  unfold Lib.itoa
  split
  · simp
  · exact dec_ne _
theorem del_no {c : UInt8} (h : c.toNat ≠ 32 ∧ c.toNat ≠ 40 ∧ c.toNat ≠ 41) : isDel c = false := by
  unfold isDel
  have h1 : ¬ c = 32 := fun e => h.1 (by rw [e]; rfl)
  have h2 : ¬ c = 40 := fun e => h.2.1 (by rw [e]; rfl)
  have h3 : ¬ c = 41 := fun e => h.2.2 (by rw [e]; rfl)
  simp [h1, h2, h3]
theorem itoa_noDel (n : Int) : NoDel (Lib.itoa n) := fun c hc => del_no (by have := itoa_bytes n c hc; omega)
theorem pu_snoc {l : List UInt8} {c : UInt8} : ∀ {acc u : Nat}, Lib.parseUint10 acc l = .ok u → 48 ≤ c.toNat → c.toNat ≤ 57 → u < 100000000000000000 → Lib.parseUint10 acc (l ++ [c]) = .ok (u * 10 + (c.toNat - 48)) := by
  induction l with
  | nil =>
    intro acc u h h1 h2 h3
    simp only [Lib.parseUint10] at h
    injection h with h
    subst h
    simp only [List.nil_append, Lib.parseUint10]
    rw [if_pos ⟨h1, h2⟩, if_neg (by omega), if_neg (by omega)]
  | cons b l ih =>
    intro acc u h h1 h2 h3
    simp only [List.cons_append, Lib.parseUint10] at h ⊢
    split at h
    · rename_i hb
      rw [if_pos hb]
      split at h
      · cases h
      · rename_i hc
        rw [if_neg hc]
        split at h
        · cases h
        · rename_i hd
          rw [if_neg hd]
          exact ih h h1 h2 h3
    · cases h
theorem parse_dec (m : Nat) (h : m < 100000000000000000) : Lib.parseUint10 0 (Lib.decDigits m) = .ok m := by
  induction m using Nat.strongRecOn with
  | _ m ih =>
    by_cases h1 : m < 10
    · rw [pdec_small h1]
      have := pu_snoc (l := []) (c := UInt8.ofNat (48 + m)) (acc := 0) (u := 0) rfl (by rw [ofNat_dig h1]; omega) (by rw [ofNat_dig h1]; omega) (by omega)
      rw [List.nil_append, ofNat_dig h1] at this
      rw [this]
      congr 1
      omega
    · rw [pdec_big h1]
      have h10 : m % 10 < 10 := by omega
      rw [pu_snoc (ih (m / 10) (by omega) (by omega)) (by rw [ofNat_dig h10]; omega) (by rw [ofNat_dig h10]; omega) (by omega), ofNat_dig h10]
      congr 1
      omega
theorem mag_dec (m : Nat) (h : m < 100000000000000000) : Lib.parseMag (Lib.decDigits m) = .ok m := by
  unfold Lib.parseMag
  rw [if_neg (dec_ne m), parse_dec m h]
theorem atoi_itoa (n : Int) (h0 : -1000000 < n) (h1 : n < 1000000) : Lib.atoiAll (Lib.itoa n) = .ok n := by
  unfold Lib.itoa
  by_cases hn : n < 0
  · rw [if_pos hn, Lib.atoiAll_minus, mag_dec _ (by omega)]
    simp only [Lib.signed]
    rw [if_neg (by omega)]
    congr 1
    omega
  · rw [if_neg hn]
    have hm := mag_dec n.toNat (by omega)
    obtain ⟨c, r, hc⟩ : ∃ c r, Lib.decDigits n.toNat = c :: r := by
      match h : Lib.decDigits n.toNat with
      | [] => exact absurd h (dec_ne _)
      | c :: r => exact ⟨c, r, rfl⟩
    have hd := dec_dig n.toNat c (by rw [hc]; simp)
    rw [hc] at hm ⊢
    rw [Lib.atoiAll_plain c r (by omega) (by omega), hm]
    simp only [Lib.signless]
    rw [if_neg (by omega)]
    congr 1
    omega

theorem dec_len9 : ∀ (k m : Nat), m < 10 ^ (k + 1) → (Lib.decDigits m).length ≤ k + 1
  | 0, m, h => by rw [pdec_small (by simpa using h)]; simp
  | k + 1, m, h => by
    by_cases h1 : m < 10
    · rw [pdec_small h1]; simp
    · rw [pdec_big h1]
      have := dec_len9 k (m / 10) (by rw [Nat.pow_succ] at h; omega)
      simp; omega
theorem opTexts_noDel : ∀ k : Fin 12, ∀ c ∈ opTexts.getD k.val [], isDel c = false := by decide +kernel
theorem opText_noDel (k : Int) : NoDel (opText k) := by
  unfold opText
  by_cases h : k.toNat < 12
  · exact opTexts_noDel ⟨k.toNat, h⟩
  · rw [List.getD_eq_getElem?_getD, List.getElem?_eq_none (by show 12 ≤ k.toNat; omega)]
    exact fun c hc => by cases hc
theorem opTexts_inj : ∀ j k : Fin 12, opTexts.getD j.val [] = opTexts.getD k.val [] → j = k := by decide +kernel
theorem opText_inj {j k : Int} (hj : 0 ≤ j ∧ j < 12) (hk : 0 ≤ k ∧ k < 12) (h : opText j = opText k) : j = k := by
  have := opTexts_inj ⟨j.toNat, by omega⟩ ⟨k.toNat, by omega⟩ h
  have := congrArg Fin.val this
  simp at this
  omega
theorem plTexts_noDel : ∀ k : Fin 9, ∀ c ∈ plTexts.getD k.val [], isDel c = false := by decide +kernel
theorem plName_noDel (k : Int) : NoDel (plName k) := by
  unfold plName
  by_cases h : k.toNat < 9
  · exact plTexts_noDel ⟨k.toNat, h⟩
  · rw [List.getD_eq_getElem?_getD, List.getElem?_eq_none (by show 9 ≤ k.toNat; omega)]
    exact fun c hc => by cases hc
theorem plTexts_inj : ∀ j k : Fin 9, plTexts.getD j.val [] = plTexts.getD k.val [] → j = k := by decide +kernel
theorem plName_inj {j k : Int} (hj : 0 ≤ j ∧ j < 9) (hk : 0 ≤ k ∧ k < 9) (h : plName j = plName k) : j = k := by
  have := plTexts_inj ⟨j.toNat, by omega⟩ ⟨k.toNat, by omega⟩ h
  have := congrArg Fin.val this
  simp at this
  omega
theorem names_apart : ∀ (j : Fin 9) (k : Fin 12), 1 ≤ j.val → 3 ≤ k.val → plTexts.getD j.val [] ≠ opTexts.getD k.val [] := by decide +kernel
theorem name_apart {j k : Int} (hj : 1 ≤ j ∧ j < 9) (hk : 3 ≤ k ∧ k < 12) : plName j ≠ opText k := by
  exact names_apart ⟨j.toNat, by omega⟩ ⟨k.toNat, by omega⟩ (by show 1 ≤ j.toNat; omega) (by show 3 ≤ k.toNat; omega)

theorem valText_noDel (v : Val) : NoDel (valText v) := by
  unfold valText
  split
  · exact fun c hc => by revert c; decide +kernel
  · exact itoa_noDel _
theorem valText_head {v : Val} : ∃ c r, valText v = c :: r ∧ c.toNat ≠ 35 ∧ c.toNat ≠ 40 ∧ c.toNat ≠ 32 ∧ c.toNat ≠ 41 := by
  unfold valText
  split
  · exact ⟨110, _, rfl, by decide, by decide, by decide, by decide⟩
  · match h : Lib.itoa v.2 with
    | [] => exact absurd h (itoa_ne _)
    | c :: r =>
      have := itoa_bytes v.2 c (by rw [h]; simp)
      exact ⟨c, r, rfl, by omega, by omega, by omega, by omega⟩
/-- A value's text is that of no other valid value. -/
theorem itoa_null (n : Int) : Lib.itoa n ≠ [110, 117, 108, 108] := fun h => by
  have := itoa_bytes n 110 (by rw [h]; simp)
  have e : (110 : UInt8).toNat = 110 := rfl
  omega
end Go.Qo

/-
  How the program reads an expression, in plain Lean; what it reads is what was written.
-/
namespace Go.Qo
open Go.RowKit
set_option linter.unusedVariables false
set_option linter.unusedSimpArgs false

/-- The value that a word spells. -/
def pVal (l : List UInt8) : Option Val :=
  if l = [110, 117, 108, 108] then some (true, 0) else match Lib.atoiAll l with
    | .ok n => if vValid (false, n) = true ∧ Lib.itoa n = l then some (false, n) else none
    | _ => none
/-- The kind that a word names. -/
def kindOf (nm : Int → List UInt8) (lo : Int) : Nat → List UInt8 → Option Int
  | 0, _ => none
  | n + 1, l => if nm lo = l then some lo else kindOf nm (lo + 1) n l
def pKids {α : Type} (p : List UInt8 → Option (α × List UInt8)) : Nat → List UInt8 → Option (List α × List UInt8)
  | 0, l => some ([], l)
  | n + 1, l => match l with
    | [] => none
    | c :: r => if c = 32 then (match p r with
      | some (x, r') => (match pKids p n r' with
        | some (xs, r'') => some (x :: xs, r'')
        | none => none)
      | none => none) else none
def pLeaf (l : List UInt8) : Option (Ex × List UInt8) := match pVal (wordOf l) with
  | some v => some (.mk 2 0 v [], restOf l)
  | none => none
def pIdx (l : List UInt8) : Option (Int × List UInt8) := match Lib.atoiAll (wordOf l) with
  | .ok n => some (n, restOf l)
  | _ => none
def pShut {α : Type} : Option (α × List UInt8) → Option (α × List UInt8)
  | some (a, c :: r) => if c = 41 then some (a, r) else none
  | _ => none
def pEx : Nat → List UInt8 → Option (Ex × List UInt8)
  | 0, l => match l with
    | [] => pLeaf []
    | c :: r => if c = 35 then (pIdx r).map (fun x => (.mk 1 x.1 (false, 0) [], x.2)) else if c = 40 then none else pLeaf (c :: r)
  | d + 1, l => match l with
    | [] => pLeaf []
    | c :: r => if c = 35 then (pIdx r).map (fun x => (.mk 1 x.1 (false, 0) [], x.2)) else if c = 40 then (match kindOf opText 3 9 (wordOf r) with
      | some k => (pShut (pKids (pEx d) (kidsK k).toNat (restOf r))).map (fun x => (.mk k 0 (false, 0) x.1, x.2))
      | none => none) else pLeaf (c :: r)

theorem kindOf_at {nm : Int → List UInt8} : ∀ (n : Nat) (lo k : Int), lo ≤ k → k < lo + n → (∀ j, lo ≤ j → j < lo + n → nm j = nm k → j = k) → kindOf nm lo n (nm k) = some k
  | 0, lo, k, h1, h2, _ => absurd h2 (by omega)
  | n + 1, lo, k, h1, h2, hi => by
    unfold kindOf
    by_cases h : nm lo = nm k
    · rw [if_pos h, hi lo (by omega) (by omega) h]
    · rw [if_neg h]
      have hne : lo ≠ k := fun e => h (by rw [e])
      exact kindOf_at n (lo + 1) k (by omega) (by omega) fun j h3 h4 h5 => hi j (by omega) (by omega) h5
theorem pVal_text {v : Val} (h : vValid v = true) : pVal (valText v) = some v := by
  obtain ⟨b, n⟩ := v
  cases b
  · have hr : -10000 < n ∧ n < 10000 := by simp [vValid] at h; omega
    show pVal (Lib.itoa n) = _
    unfold pVal
    rw [if_neg (itoa_null n), atoi_itoa n (by omega) (by omega)]
    simp [h]
  · have : n = 0 := by simp [vValid] at h; omega
    subst this
    unfold pVal valText
    simp
theorem pKids_text {p : List UInt8 → Option (Ex × List UInt8)} : ∀ (es : List Ex) (rest : List UInt8), Delim rest → (∀ x ∈ es, ∀ r, Delim r → p (exText x ++ r) = some (x, r)) → pKids p es.length (exsText es ++ rest) = some (es, rest)
  | [], rest, _, _ => rfl
  | x :: es, rest, hd, hp => by
    have h1 : exsText (x :: es) ++ rest = 32 :: (exText x ++ (exsText es ++ rest)) := by simp [exsText]
    have hd1 : Delim (exsText es ++ rest) := by
      cases es with
      | nil => simpa [exsText] using hd
      | cons y ys => simp only [exsText, List.cons_append]; exact Delim.cons (by decide)
    have ih := pKids_text es rest hd fun y hy => hp y (List.mem_cons_of_mem _ hy)
    rw [h1, List.length_cons]
    unfold pKids
    simp [hp x (List.mem_cons_self ..) _ hd1, ih]
/-- WHAT IS READ IS WHAT WAS WRITTEN. -/
theorem pEx_text : ∀ (d : Nat) (x : Ex) (rest : List UInt8), ExOk 6 d x → Delim rest → pEx d (exText x ++ rest) = some (x, rest) := by
  intro d
  induction d with
  | zero =>
    intro x rest h hd
    obtain ⟨h1, h2, h3, h4⟩ := exOk_iff.1 h
    have hk0 : x.kids = [] := by
      match hk : x.kids with
      | [] => rfl
      | y :: ys => exact absurd rfl (h2 (by rw [hk]; simp))
    have htx := exText_eq x
    unfold LocOk at h4
    obtain ⟨k, c, v, ks⟩ := x
    have hk0 : ks = [] := hk0
    subst hk0
    have h1 : (0 : Int) = kidsK k := h1
    change if k = 1 then (0 ≤ c ∧ c ≤ 6 - 1) ∧ v = (false, 0) else if k = 2 then c = 0 ∧ vValid v = true else c = 0 ∧ v = (false, 0) at h4
    change exText (.mk k c v []) = if k = 1 then 35 :: Lib.itoa c else if k = 2 then valText v else _ at htx
    by_cases k1 : k = 1
    · rw [if_pos k1] at h4 htx
      obtain ⟨w1, w2⟩ := wordOf_app (itoa_noDel c) hd
      rw [htx, List.cons_append]
      unfold pEx
      simp only [pIdx, w1, w2, atoi_itoa c (by omega) (by omega)]
      simp [k1, h4.2]
    · rw [if_neg k1] at h4 htx
      by_cases k2 : k = 2
      · rw [if_pos k2] at h4 htx
        obtain ⟨w1, w2⟩ := wordOf_app (valText_noDel v) hd
        obtain ⟨a, r, he, ha1, ha2, _, _⟩ := valText_head (v := v)
        have hl : pLeaf (valText v ++ rest) = some (.mk 2 0 v [], rest) := by
          unfold pLeaf
          rw [w1, w2, pVal_text h4.2]
        rw [htx]
        rw [he] at hl ⊢
        rw [List.cons_append] at hl ⊢
        have n1 : ¬ a = 35 := fun e => ha1 (by rw [e]; rfl)
        have n2 : ¬ a = 40 := fun e => ha2 (by rw [e]; rfl)
        unfold pEx
        simp only [if_neg n1, if_neg n2, hl, k2, h4.1]
      · exfalso
        unfold kidsK at h1
        rw [if_neg (by omega)] at h1
        split at h1
        · omega
        · split at h1 <;> omega
  | succ d ih =>
    intro x rest h hd
    obtain ⟨h1, h2, h3, h4⟩ := exOk_iff.1 h
    have htx := exText_eq x
    have hkl := h.kids_le
    unfold LocOk at h4
    obtain ⟨k, c, v, ks⟩ := x
    change (ks.length : Int) = kidsK k at h1
    change ∀ x ∈ ks, ExOk 6 _ x at h3
    change ks.length ≤ 2 at hkl
    change if k = 1 then (0 ≤ c ∧ c ≤ 6 - 1) ∧ v = (false, 0) else if k = 2 then c = 0 ∧ vValid v = true else c = 0 ∧ v = (false, 0) at h4
    change exText (.mk k c v ks) = if k = 1 then 35 :: Lib.itoa c else if k = 2 then valText v else 40 :: (opText k ++ (exsText ks ++ [41])) at htx
    by_cases k1 : k = 1
    · rw [if_pos k1] at h4 htx
      have hk0 : ks = [] := List.length_eq_zero_iff.1 (by unfold kidsK at h1; rw [if_pos (by omega)] at h1; omega)
      subst hk0
      obtain ⟨w1, w2⟩ := wordOf_app (itoa_noDel c) hd
      rw [htx, List.cons_append]
      unfold pEx
      simp only [pIdx, w1, w2, atoi_itoa c (by omega) (by omega)]
      simp [k1, h4.2]
    · rw [if_neg k1] at h4 htx
      by_cases k2 : k = 2
      · rw [if_pos k2] at h4 htx
        have hk0 : ks = [] := List.length_eq_zero_iff.1 (by unfold kidsK at h1; rw [if_pos (by omega)] at h1; omega)
        subst hk0
        obtain ⟨w1, w2⟩ := wordOf_app (valText_noDel v) hd
        obtain ⟨a, r, he, ha1, ha2, _, _⟩ := valText_head (v := v)
        have hl : pLeaf (valText v ++ rest) = some (.mk 2 0 v [], rest) := by
          unfold pLeaf
          rw [w1, w2, pVal_text h4.2]
        rw [htx]
        rw [he] at hl ⊢
        rw [List.cons_append] at hl ⊢
        have n1 : ¬ a = 35 := fun e => ha1 (by rw [e]; rfl)
        have n2 : ¬ a = 40 := fun e => ha2 (by rw [e]; rfl)
        unfold pEx
        simp only [if_neg n1, if_neg n2, hl, k2, h4.1]
      · rw [if_neg k2] at h4 htx
        have hkr : 3 ≤ k ∧ k ≤ 11 := by
          unfold kidsK at h1
          rw [if_neg (by omega)] at h1
          split at h1
          · omega
          · split at h1 <;> omega
        have hd1 : Delim (exsText ks ++ (41 :: rest)) := by
          cases ks with
          | nil => exact Delim.cons (by decide)
          | cons y ys => simp only [exsText, List.cons_append]; exact Delim.cons (by decide)
        obtain ⟨w1, w2⟩ := wordOf_app (opText_noDel k) hd1
        have hkd := kindOf_at (nm := opText) 9 3 k hkr.1 (by omega) fun j h5 h6 h7 => opText_inj (by omega) (by omega) h7
        have hpk := pKids_text (p := pEx d) ks (41 :: rest) (Delim.cons (by decide)) fun y hy r hr => ih y r (by have := h3 y hy; rwa [show ((d + 1 : Nat) : Int) - 1 = (d : Int) by omega] at this) hr
        have e : exText (.mk k c v ks) ++ rest = 40 :: (opText k ++ (exsText ks ++ (41 :: rest))) := by rw [htx]; simp
        rw [e]
        unfold pEx
        have n1 : ¬ (40 : UInt8) = 35 := by decide
        have hn : (kidsK k).toNat = ks.length := by omega
        simp only [if_neg n1, if_true, w1, w2, hkd, hn, hpk]
        simp [pShut, h4.1, h4.2]
end Go.Qo
