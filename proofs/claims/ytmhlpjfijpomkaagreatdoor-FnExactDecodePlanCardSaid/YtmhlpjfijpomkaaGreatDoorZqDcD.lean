/-
  Reading a text form: words, numbers, names; in plain Lean.
-/
import Derived.Test.YtmhlpjfijpomkaaGreatDoorZqEnP
import Derived.Lib.AtoiAllCases
import Derived.Lib.IndexAny
namespace Go.Qo
open Go.RowKit
set_option linter.unusedVariables false
set_option linter.unusedSimpArgs false

/-! ### Words -/
def isDel (c : UInt8) : Bool := c == 32 || c == 40 || c == 41
def wordOf : List UInt8 → List UInt8
  | [] => []
  | c :: l => if isDel c then [] else c :: wordOf l
def restOf : List UInt8 → List UInt8
  | [] => []
  | c :: l => if isDel c then c :: l else restOf l
def NoDel (l : List UInt8) : Prop := ∀ c ∈ l, isDel c = false
def Delim (l : List UInt8) : Prop := ∀ c r, l = c :: r → isDel c = true
theorem Delim.nil : Delim [] := fun c r h => by cases h
theorem Delim.cons {c : UInt8} {l : List UInt8} (h : isDel c = true) : Delim (c :: l) := fun c' r h' => by cases h'; exact h
theorem word_rest : ∀ l, wordOf l ++ restOf l = l
  | [] => rfl
  | c :: l => by
    unfold wordOf restOf
    by_cases h : isDel c = true
    · rw [if_pos h, if_pos h]; rfl
    · rw [if_neg h, if_neg h, List.cons_append, word_rest l]
theorem wordOf_app : ∀ {a b : List UInt8}, NoDel a → Delim b → wordOf (a ++ b) = a ∧ restOf (a ++ b) = b
  | [], [], _, _ => ⟨rfl, rfl⟩
  | [], c :: b, _, hb => by
    have := hb c b rfl
    simp [wordOf, restOf, this]
  | c :: a, b, ha, hb => by
    have h := ha c (List.mem_cons_self ..)
    obtain ⟨h1, h2⟩ := wordOf_app (a := a) (b := b) (fun d hd => ha d (List.mem_cons_of_mem _ hd)) hb
    simp [wordOf, restOf, h, h1, h2]
theorem del_contains (c : UInt8) : ([32, 40, 41] : List UInt8).contains c = isDel c := by
  unfold isDel
  rw [List.contains_cons, List.contains_cons, List.contains_cons, List.contains_nil, Bool.or_false, Bool.or_assoc]
theorem indexAny_word : ∀ l : List UInt8, Lib.indexAny l [32, 40, 41] = if restOf l = [] then -1 else ((wordOf l).length : Int)
  | [] => rfl
  | c :: l => by
    unfold Lib.indexAny wordOf restOf
    rw [del_contains]
    by_cases h : isDel c = true
    · rw [if_pos h, if_pos h, if_pos h, if_neg (by simp)]; rfl
    · rw [if_neg h, if_neg h, if_neg h, indexAny_word l]
      by_cases hr : restOf l = []
      · simp [hr]
      · have : ¬ (((wordOf l).length : Int) == -1) = true := by rw [beq_iff_eq]; omega
        simp only [if_neg hr, if_neg this, List.length_cons]
        omega
theorem word_all {l : List UInt8} (h : restOf l = []) : wordOf l = l := by
  have := word_rest l
  rw [h, List.append_nil] at this
  exact this

/-! ### Numbers -/
theorem pdec_big {m : Nat} (h : ¬ m < 10) : Lib.decDigits m = Lib.decDigits (m / 10) ++ [UInt8.ofNat (48 + m % 10)] := by rw [Lib.decDigits, dif_neg h]
theorem pdec_small {m : Nat} (h : m < 10) : Lib.decDigits m = [UInt8.ofNat (48 + m)] := by rw [Lib.decDigits, dif_pos h]
theorem ofNat_dig {d : Nat} (h : d < 10) : (UInt8.ofNat (48 + d)).toNat = 48 + d := UInt8.toNat_ofNat_of_lt' (by show 48 + d < 256; omega)
theorem dec_dig (m : Nat) : ∀ c ∈ Lib.decDigits m, 48 ≤ c.toNat ∧ c.toNat ≤ 57 := by
  induction m using Nat.strongRecOn with
  | _ m ih =>
    intro c hc
    by_cases h : m < 10
    · rw [pdec_small h] at hc
      have : c = UInt8.ofNat (48 + m) := by simpa using hc
      rw [this, ofNat_dig h]; omega
    · rw [pdec_big h] at hc
      rcases List.mem_append.1 hc with hc | hc
      · exact ih (m / 10) (by omega) c hc
      · have : c = UInt8.ofNat (48 + m % 10) := by simpa using hc
        rw [this, ofNat_dig (by omega)]; omega
theorem dec_ne (m : Nat) : Lib.decDigits m ≠ [] := by
  by_cases h : m < 10
  · rw [pdec_small h]; simp
  · rw [pdec_big h]; simp
theorem itoa_bytes (n : Int) : ∀ c ∈ Lib.itoa n, c.toNat = 45 ∨ (48 ≤ c.toNat ∧ c.toNat ≤ 57) := by
  intro c hc
  unfold Lib.itoa at hc
  split at hc
  · rcases List.mem_cons.1 hc with rfl | hc
    · exact .inl rfl
    · exact .inr (dec_dig _ c hc)
  · exact .inr (dec_dig _ c hc)
theorem itoa_ne (n : Int) : Lib.itoa n ≠ [] := by
  unfold Lib.itoa
  split
  · simp
  · exact dec_ne _
theorem del_no {c : UInt8} (h : c.toNat ≠ 32 ∧ c.toNat ≠ 40 ∧ c.toNat ≠ 41) : isDel c = false := by
  unfold isDel
  have h1 : ¬ c = 32 := fun e => h.1 (by rw [e]; rfl)
  have h2 : ¬ c = 40 := fun e => h.2.1 (by rw [e]; rfl)
  have h3 : ¬ c = 41 := fun e => h.2.2 (by rw [e]; rfl)
  simp [h1, h2, h3]
theorem itoa_noDel (n : Int) : NoDel (Lib.itoa n) := fun c hc => del_no (by have := itoa_bytes n c hc; omega)
theorem pu_snoc {l : List UInt8} {c : UInt8} : ∀ {acc u : Nat}, Lib.parseUint10 acc l = .ok u → 48 ≤ c.toNat → c.toNat ≤ 57 → u < 100000000000000000 → Lib.parseUint10 acc (l ++ [c]) = .ok (u * 10 + (c.toNat - 48)) := by
  induction l with
  | nil =>
    intro acc u h h1 h2 h3
    simp only [Lib.parseUint10] at h
    injection h with h
    subst h
    simp only [List.nil_append, Lib.parseUint10]
    rw [if_pos ⟨h1, h2⟩, if_neg (by omega), if_neg (by omega)]
  | cons b l ih =>
    intro acc u h h1 h2 h3
    simp only [List.cons_append, Lib.parseUint10] at h ⊢
    split at h
    · rename_i hb
      rw [if_pos hb]
      split at h
      · cases h
      · rename_i hc
        rw [if_neg hc]
        split at h
        · cases h
        · rename_i hd
          rw [if_neg hd]
          exact ih h h1 h2 h3
    · cases h
theorem parse_dec (m : Nat) (h : m < 100000000000000000) : Lib.parseUint10 0 (Lib.decDigits m) = .ok m := by
  induction m using Nat.strongRecOn with
  | _ m ih =>
    by_cases h1 : m < 10
    · rw [pdec_small h1]
      have := pu_snoc (l := []) (c := UInt8.ofNat (48 + m)) (acc := 0) (u := 0) rfl (by rw [ofNat_dig h1]; omega) (by rw [ofNat_dig h1]; omega) (by omega)
      rw [List.nil_append, ofNat_dig h1] at this
      rw [this]
      congr 1
      omega
    · rw [pdec_big h1]
      have h10 : m % 10 < 10 := by omega
      rw [pu_snoc (ih (m / 10) (by omega) (by omega)) (by rw [ofNat_dig h10]; omega) (by rw [ofNat_dig h10]; omega) (by omega), ofNat_dig h10]
      congr 1
      omega
theorem mag_dec (m : Nat) (h : m < 100000000000000000) : Lib.parseMag (Lib.decDigits m) = .ok m := by
  unfold Lib.parseMag
  rw [if_neg (dec_ne m), parse_dec m h]
theorem atoi_itoa (n : Int) (h0 : -1000000 < n) (h1 : n < 1000000) : Lib.atoiAll (Lib.itoa n) = .ok n := by
  unfold Lib.itoa
  by_cases hn : n < 0
  · rw [if_pos hn, Lib.atoiAll_minus, mag_dec _ (by omega)]
    simp only [Lib.signed]
    rw [if_neg (by omega)]
    congr 1
    omega
  · rw [if_neg hn]
    have hm := mag_dec n.toNat (by omega)
    obtain ⟨c, r, hc⟩ : ∃ c r, Lib.decDigits n.toNat = c :: r := by
      match h : Lib.decDigits n.toNat with
      | [] => exact absurd h (dec_ne _)
      | c :: r => exact ⟨c, r, rfl⟩
    have hd := dec_dig n.toNat c (by rw [hc]; simp)
    rw [hc] at hm ⊢
    rw [Lib.atoiAll_plain c r (by omega) (by omega), hm]
    simp only [Lib.signless]
    rw [if_neg (by omega)]
    congr 1
    omega

/-- What the reference's parseInt reckons: a sign, then at most nine bytes. -/
def digs (acc : Int) : List UInt8 → Int
  | [] => acc
  | c :: l => digs (10 * acc + c.toNat - 48) l
def pInt (l : List UInt8) : Int := if l.head? = some 45 then -1 * digs 0 (l.tail.take 9) else 1 * digs 0 (l.take 9)
theorem digs_snoc : ∀ (l : List UInt8) (acc : Int) (c : UInt8), digs acc (l ++ [c]) = 10 * digs acc l + c.toNat - 48
  | [], acc, c => rfl
  | b :: l, acc, c => by rw [List.cons_append, digs, digs, digs_snoc l _ c]
theorem digs_dec (m : Nat) : digs 0 (Lib.decDigits m) = m := by
  induction m using Nat.strongRecOn with
  | _ m ih =>
    by_cases h1 : m < 10
    · rw [pdec_small h1, digs, digs, ofNat_dig h1]; omega
    · rw [pdec_big h1, digs_snoc, ih (m / 10) (by omega), ofNat_dig (by omega)]; omega
theorem dec_len9 : ∀ (k m : Nat), m < 10 ^ (k + 1) → (Lib.decDigits m).length ≤ k + 1
  | 0, m, h => by rw [pdec_small (by simpa using h)]; simp
  | k + 1, m, h => by
    by_cases h1 : m < 10
    · rw [pdec_small h1]; simp
    · rw [pdec_big h1]
      have := dec_len9 k (m / 10) (by rw [Nat.pow_succ] at h; omega)
      simp; omega
theorem pInt_itoa (n : Int) (h0 : -1000000 < n) (h1 : n < 1000000) : pInt (Lib.itoa n) = n := by
  unfold Lib.itoa pInt
  by_cases hn : n < 0
  · have hl := dec_len9 5 n.natAbs (by show n.natAbs < 1000000; omega)
    rw [if_pos hn, if_pos (show (45 :: Lib.decDigits n.natAbs).head? = some 45 from rfl), List.tail_cons, List.take_of_length_le (by omega), digs_dec]
    omega
  · have hl := dec_len9 5 n.toNat (by show n.toNat < 1000000; omega)
    have hh : ¬ (Lib.decDigits n.toNat).head? = some 45 := fun h => by
      have := dec_dig n.toNat 45 (List.mem_of_mem_head? h)
      have e : (45 : UInt8).toNat = 45 := rfl
      omega
    rw [if_neg hn, if_neg hh, List.take_of_length_le (by omega), digs_dec]
    omega

/-! ### Names and first bytes -/
theorem opTexts_noDel : ∀ k : Fin 12, ∀ c ∈ opTexts.getD k.val [], isDel c = false := by decide +kernel
theorem opText_noDel (k : Int) : NoDel (opText k) := by
  unfold opText
  by_cases h : k.toNat < 12
  · exact opTexts_noDel ⟨k.toNat, h⟩
  · rw [List.getD_eq_getElem?_getD, List.getElem?_eq_none (by show 12 ≤ k.toNat; omega)]
    exact fun c hc => by cases hc
theorem opTexts_inj : ∀ j k : Fin 12, opTexts.getD j.val [] = opTexts.getD k.val [] → j = k := by decide +kernel
theorem opText_inj {j k : Int} (hj : 0 ≤ j ∧ j < 12) (hk : 0 ≤ k ∧ k < 12) (h : opText j = opText k) : j = k := by
  have := opTexts_inj ⟨j.toNat, by omega⟩ ⟨k.toNat, by omega⟩ h
  have := congrArg Fin.val this
  simp at this
  omega
theorem plTexts_noDel : ∀ k : Fin 9, ∀ c ∈ plTexts.getD k.val [], isDel c = false := by decide +kernel
theorem plName_noDel (k : Int) : NoDel (plName k) := by
  unfold plName
  by_cases h : k.toNat < 9
  · exact plTexts_noDel ⟨k.toNat, h⟩
  · rw [List.getD_eq_getElem?_getD, List.getElem?_eq_none (by show 9 ≤ k.toNat; omega)]
    exact fun c hc => by cases hc
theorem plTexts_inj : ∀ j k : Fin 9, plTexts.getD j.val [] = plTexts.getD k.val [] → j = k := by decide +kernel
theorem plName_inj {j k : Int} (hj : 0 ≤ j ∧ j < 9) (hk : 0 ≤ k ∧ k < 9) (h : plName j = plName k) : j = k := by
  have := plTexts_inj ⟨j.toNat, by omega⟩ ⟨k.toNat, by omega⟩ h
  have := congrArg Fin.val this
  simp at this
  omega
theorem names_apart : ∀ (j : Fin 9) (k : Fin 12), 1 ≤ j.val → 3 ≤ k.val → plTexts.getD j.val [] ≠ opTexts.getD k.val [] := by decide +kernel
theorem name_apart {j k : Int} (hj : 1 ≤ j ∧ j < 9) (hk : 3 ≤ k ∧ k < 12) : plName j ≠ opText k := by
  exact names_apart ⟨j.toNat, by omega⟩ ⟨k.toNat, by omega⟩ (by show 1 ≤ j.toNat; omega) (by show 3 ≤ k.toNat; omega)

theorem valText_noDel (v : Val) : NoDel (valText v) := by
  unfold valText
  split
  · exact fun c hc => by revert c; decide +kernel
  · exact itoa_noDel _
theorem valText_head {v : Val} : ∃ c r, valText v = c :: r ∧ c.toNat ≠ 35 ∧ c.toNat ≠ 40 ∧ c.toNat ≠ 32 ∧ c.toNat ≠ 41 := by
  unfold valText
  split
  · exact ⟨110, _, rfl, by decide, by decide, by decide, by decide⟩
  · match h : Lib.itoa v.2 with
    | [] => exact absurd h (itoa_ne _)
    | c :: r =>
      have := itoa_bytes v.2 c (by rw [h]; simp)
      exact ⟨c, r, rfl, by omega, by omega, by omega, by omega⟩
/-- A value's text is that of no other valid value. -/
theorem itoa_null (n : Int) : Lib.itoa n ≠ [110, 117, 108, 108] := fun h => by
  have := itoa_bytes n 110 (by rw [h]; simp)
  have e : (110 : UInt8).toNat = 110 := rfl
  omega
theorem exText_pos (x : Ex) : 0 < (exText x).length := by
  rw [exText_eq]
  split
  · simp
  · split
    · obtain ⟨c, r, h, _⟩ := valText_head (v := x.val)
      rw [h]
      simp
    · simp
end Go.Qo
