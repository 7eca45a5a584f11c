/-
  Sort keys in plain Lean: which are valid, the order by keys.
-/
import Derived.Test.YtldndapcbgaliaaValD
namespace Go.Qo
open Go.RowKit
set_option linter.unusedVariables false
set_option linter.unusedSimpArgs false

def KeysOk (W : Int) (keys : List (Int × Bool)) : Prop := (∀ k ∈ keys, 0 ≤ k.1 ∧ k.1 < W) ∧ ∀ (i j : Nat) (x y : Int × Bool), i < j → keys[i]? = some x → keys[j]? = some y → x.1 ≠ y.1
def KeysUpto (W : Int) (keys : List (Int × Bool)) (k : Nat) : Prop :=
  (∀ (i : Nat) (x : Int × Bool), i < k → keys[i]? = some x → 0 ≤ x.1 ∧ x.1 < W) ∧ ∀ (i j : Nat) (x y : Int × Bool), i < j → j < k → keys[i]? = some x → keys[j]? = some y → x.1 ≠ y.1
theorem KeysUpto.zero {W : Int} {keys : List (Int × Bool)} : KeysUpto W keys 0 := ⟨fun _ _ h => absurd h (by omega), fun _ _ _ _ _ h => absurd h (by omega)⟩
theorem KeysUpto.succ {W : Int} {keys : List (Int × Bool)} {k : Nat} {x : Int × Bool} (h : KeysUpto W keys k) (hx : keys[k]? = some x) (h0 : 0 ≤ x.1) (h1 : x.1 < W) (hd : ∀ (i : Nat) (y : Int × Bool), i < k → keys[i]? = some y → y.1 ≠ x.1) : KeysUpto W keys (k + 1) := by
  refine ⟨fun i y hi hy => ?_, fun i j a b hij hj ha hb => ?_⟩
  · rcases Nat.lt_succ_iff_lt_or_eq.1 hi with hlt | rfl
    · exact h.1 i y hlt hy
    · rw [hx] at hy; cases hy; exact ⟨h0, h1⟩
  · rcases Nat.lt_succ_iff_lt_or_eq.1 hj with hlt | rfl
    · exact h.2 i j a b hij hlt ha hb
    · rw [hx] at hb; cases hb; exact hd i a hij ha
theorem KeysUpto.all {W : Int} {keys : List (Int × Bool)} {k : Nat} (h : KeysUpto W keys k) (hk : keys.length ≤ k) : KeysOk W keys := by
  refine ⟨fun x hx => ?_, fun i j x y hij hx hy => h.2 i j x y hij ?_ hx hy⟩
  · obtain ⟨i, hi, rfl⟩ := List.getElem_of_mem hx
    exact h.1 i _ (by omega) (List.getElem?_eq_getElem hi)
  · have := (List.getElem?_eq_some_iff.1 hy).1; omega
theorem KeysOk.at_ {W : Int} {keys : List (Int × Bool)} (h : KeysOk W keys) {i : Nat} {x : Int × Bool} (hx : keys[i]? = some x) : 0 ≤ x.1 ∧ x.1 < W := h.1 x (List.mem_of_getElem? hx)

/-- The set of the columns so far, as bits. -/
def SeenIs (keys : List (Int × Bool)) (k s : Nat) : Prop := s < 64 ∧ ∀ c : Nat, s.testBit c = true ↔ ∃ (i : Nat) (x : Int × Bool), i < k ∧ keys[i]? = some x ∧ x.1 = (c : Int)
theorem SeenIs.zero {keys : List (Int × Bool)} : SeenIs keys 0 0 := ⟨by omega, fun c => ⟨fun h => by simp at h, fun ⟨i, x, h, _⟩ => absurd h (by omega)⟩⟩
theorem SeenIs.succ {keys : List (Int × Bool)} {k s c : Nat} {d : Bool} (h : SeenIs keys k s) (hx : keys[k]? = some ((c : Int), d)) (hc : c < 6) : SeenIs keys (k + 1) (s ||| 2 ^ c) := by
  refine ⟨Nat.or_lt_two_pow (n := 6) h.1 (Nat.pow_lt_pow_right (by omega) hc), fun e => ?_⟩
  rw [Nat.testBit_or, Bool.or_eq_true, h.2 e, Nat.testBit_two_pow]
  constructor
  · rintro (⟨i, x, hi, hx', he⟩ | he)
    · exact ⟨i, x, by omega, hx', he⟩
    · exact ⟨k, _, by omega, hx, by simp at he; simp [he]⟩
  · rintro ⟨i, x, hi, hx', he⟩
    rcases Nat.lt_succ_iff_lt_or_eq.1 hi with hlt | rfl
    · exact .inl ⟨i, x, hlt, hx', he⟩
    · rw [hx] at hx'; cases hx'
      exact .inr (by simp at he; simp; omega)
theorem and_pow_zero (s c : Nat) : (s &&& 2 ^ c) = 0 ↔ s.testBit c = false := by
  constructor
  · intro h
    have h1 : (s &&& 2 ^ c).testBit c = false := by rw [h]; simp
    simpa [Nat.testBit_and, Nat.testBit_two_pow] using h1
  · intro h
    apply Nat.eq_of_testBit_eq
    intro i
    by_cases e : c = i
    · subst e; simp [Nat.testBit_and, h]
    · simp [Nat.testBit_and, Nat.testBit_two_pow, e]

theorem ofInt_i64' (a : Nat) (ha : a < 9223372036854775808) : (BitVec.ofInt 64 (a : Int)).toNat = a := by
  rw [BitVec.ofInt_natCast, BitVec.toNat_ofNat]; exact Nat.mod_eq_of_lt (by omega)
theorem band_i64 (a b : Nat) (ha : a < 9223372036854775808) (hb : b < 9223372036854775808) : bits .and .i64 (a : Int) (b : Int) = ((a &&& b : Nat) : Int) := by
  have hx : a &&& b < 2 ^ 63 := Nat.and_lt_two_pow _ (by omega)
  show IntKind.i64.wrap ((BitVec.ofInt 64 (a : Int) &&& BitVec.ofInt 64 (b : Int)).toNat : Int) = _
  rw [BitVec.toNat_and, ofInt_i64' a ha, ofInt_i64' b hb, IntKind.wrap_i64]
  omega
theorem bor_i64 (a b : Nat) (ha : a < 9223372036854775808) (hb : b < 9223372036854775808) : bits .or .i64 (a : Int) (b : Int) = ((a ||| b : Nat) : Int) := by
  have hx : a ||| b < 2 ^ 63 := Nat.or_lt_two_pow (by omega) (by omega)
  show IntKind.i64.wrap ((BitVec.ofInt 64 (a : Int) ||| BitVec.ofInt 64 (b : Int)).toNat : Int) = _
  rw [BitVec.toNat_or, ofInt_i64' a ha, ofInt_i64' b hb, IntKind.wrap_i64]
  omega

/-! ### The order by keys -/
def getV (r : Row1) (c : Int) : Val := r.getD c.toNat (false, 0)
def key1 (k : Int × Bool) (a b : Row1) : Int := if k.2 then - vCmp (getV a k.1) (getV b k.1) else vCmp (getV a k.1) (getV b k.1)
def kCmp : List (Int × Bool) → Row1 → Row1 → Int
  | [], _, _ => 0
  | k :: ks, a, b => if key1 k a b ≠ 0 then key1 k a b else kCmp ks a b
theorem kCmp_snoc (k : Int × Bool) (a b : Row1) : ∀ ks, kCmp (ks ++ [k]) a b = if kCmp ks a b ≠ 0 then kCmp ks a b else key1 k a b
  | [] => by
    show (if key1 k a b ≠ 0 then key1 k a b else 0) = if (0 : Int) ≠ 0 then 0 else key1 k a b
    by_cases h : key1 k a b = 0 <;> simp [h]
  | k' :: ks => by
    show (if key1 k' a b ≠ 0 then key1 k' a b else kCmp (ks ++ [k]) a b) = if (if key1 k' a b ≠ 0 then key1 k' a b else kCmp ks a b) ≠ 0 then (if key1 k' a b ≠ 0 then key1 k' a b else kCmp ks a b) else key1 k a b
    by_cases h : key1 k' a b = 0
    · simp only [h, ne_eq, not_true, if_false]
      exact kCmp_snoc k a b ks
    · simp [h]
theorem kCmp_drop {keys : List (Int × Bool)} {a b : Row1} : ∀ {k : Nat}, (∀ (i : Nat) (x : Int × Bool), i < k → keys[i]? = some x → key1 x a b = 0) → kCmp keys a b = kCmp (keys.drop k) a b
  | 0, _ => by simp
  | k + 1, h => by
    cases keys with
    | nil => simp [kCmp]
    | cons x xs =>
      rw [List.drop_succ_cons, kCmp, if_neg (by simpa using h 0 x (by omega) rfl)]
      exact kCmp_drop fun i y hi hy => h (i + 1) y (by omega) (by simpa using hy)
theorem kCmp_at {keys : List (Int × Bool)} {a b : Row1} {k : Nat} {x : Int × Bool} (hp : ∀ (i : Nat) (x : Int × Bool), i < k → keys[i]? = some x → key1 x a b = 0) (hx : keys[k]? = some x) (hne : key1 x a b ≠ 0) : kCmp keys a b = key1 x a b := by
  obtain ⟨hk, e⟩ := List.getElem?_eq_some_iff.1 hx
  rw [kCmp_drop hp, List.drop_eq_getElem_cons hk, e, kCmp, if_pos hne]
theorem kCmp_end {keys : List (Int × Bool)} {a b : Row1} {k : Nat} (hp : ∀ (i : Nat) (x : Int × Bool), i < k → keys[i]? = some x → key1 x a b = 0) (hk : keys.length ≤ k) : kCmp keys a b = 0 := by
  rw [kCmp_drop hp, List.drop_eq_nil_of_le hk]; rfl
theorem agreeK_succ {keys : List (Int × Bool)} {a b : Row1} {k : Nat} {x : Int × Bool} (hp : ∀ (i : Nat) (x : Int × Bool), i < k → keys[i]? = some x → key1 x a b = 0) (hx : keys[k]? = some x) (h : key1 x a b = 0) : ∀ (i : Nat) (x : Int × Bool), i < k + 1 → keys[i]? = some x → key1 x a b = 0 := by
  intro i y hi hy
  rcases Nat.lt_succ_iff_lt_or_eq.1 hi with hlt | rfl
  · exact hp i y hlt hy
  · rw [hx] at hy; cases hy; exact h
theorem key1_range (k : Int × Bool) (a b : Row1) : key1 k a b = -1 ∨ key1 k a b = 0 ∨ key1 k a b = 1 := by
  have := vCmp_range (getV a k.1) (getV b k.1)
  unfold key1; split <;> omega
theorem kCmp_range (a b : Row1) : ∀ ks, kCmp ks a b = -1 ∨ kCmp ks a b = 0 ∨ kCmp ks a b = 1
  | [] => by simp [kCmp]
  | k :: ks => by
    rw [kCmp]
    split
    · exact key1_range k a b
    · exact kCmp_range a b ks
theorem getV_eq {r : Row1} {c : Nat} (h : c < r.length) : getV r (c : Int) = r[c] := by simp [getV, List.getD, h]

/-- A list of rows sorted by keys, as IsSorted says it. -/
def SortedBy (keys : List (Int × Bool)) (rows : List Row1) : Prop := ∀ (i : Nat) (a b : Row1), rows[i]? = some a → rows[i + 1]? = some b → kCmp keys a b ≤ 0
def AllRows (W : Int) (rows : List Row1) : Prop := ∀ r ∈ rows, rowValid r = true ∧ (r.length : Int) = W
end Go.Qo
