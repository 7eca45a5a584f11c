/-
  Values, rows and tables as plain Lean data, and what their functions compute. No program in sight.
-/
import Derived.Test.YtldndapcbgaliaaBas
namespace Go.Qo
open Go.RowKit
set_option linter.unusedVariables false
set_option linter.unusedSimpArgs false

abbrev Val := Bool × Int
abbrev Row1 := List Val
def valC (v : Val) : List Value := [.bool v.1, .int .i64 v.2]
theorem valC_length (v : Val) : (valC v).length = 2 := rfl
theorem Val.at_ {w : World} {B : Nat} {A : Option Addr} {xs : List Val} (h : Sl 2 valC w B A xs) {i : Nat} (hi : i < xs.length) :
    ∃ b off, A = some ⟨b, off, none⟩ ∧ b < B ∧ w.cell? ⟨b, off + i * 2, none⟩ = some (.bool xs[i].1) ∧ w.cell? ⟨b, off + i * 2 + 1, none⟩ = some (.int .i64 xs[i].2) :=
  Sl.at2 (f := fun v : Val => .bool v.1) (g := fun v : Val => .int .i64 v.2) h hi

/-- A slice value among the cells. -/
structure SV where
  A : Option Addr
  n : Nat
  c : Nat
def svC (s : SV) : List Value := [.slice s.A s.n s.c]
theorem svC_length (s : SV) : (svC s).length = 1 := rfl

/-- A slice value that reads as a list of elements. -/
def SVIs {α : Type} (sz : Nat) (enc : α → List Value) (w : World) (B : Nat) (s : SV) (xs : List α) : Prop :=
  s.n = xs.length ∧ xs.length ≤ s.c ∧ s.c ≤ maxLen ∧ Sl sz enc w B s.A xs
/-- A slice of slices. -/
def Sls {α : Type} (sz : Nat) (enc : α → List Value) (w : World) (B : Nat) (A : Option Addr) (xss : List (List α)) : Prop :=
  ∃ svs : List SV, svs.length = xss.length ∧ Sl 1 svC w B A svs ∧ ∀ (i : Nat) (s : SV) (xs : List α), svs[i]? = some s → xss[i]? = some xs → SVIs sz enc w B s xs

section
variable {α : Type} {sz : Nat} {enc : α → List Value} {w w' : World} {B B' : Nat} {A : Option Addr} {xss : List (List α)}
theorem Sls.keep (h : Sls sz enc w B A xss) (hk : ∀ b o, b < B → w'.cell? ⟨b, o, none⟩ = w.cell? ⟨b, o, none⟩) : Sls sz enc w' B A xss := by
  obtain ⟨svs, hl, hs, hr⟩ := h
  refine ⟨svs, hl, hs.keep hk, fun i s xs h1 h2 => ?_⟩
  obtain ⟨a, b, c, d⟩ := hr i s xs h1 h2
  exact ⟨a, b, c, d.keep hk⟩
theorem Sls.below (h : Sls sz enc w B A xss) (hb : Below B w w') : Sls sz enc w' B A xss := h.keep fun b o hB => hb.cell (p := ⟨b, o, none⟩) hB
theorem Sls.more (h : Sls sz enc w B A xss) (hB : B ≤ B') : Sls sz enc w B' A xss := by
  obtain ⟨svs, hl, hs, hr⟩ := h
  refine ⟨svs, hl, hs.more hB, fun i s xs h1 h2 => ?_⟩
  obtain ⟨a, b, c, d⟩ := hr i s xs h1 h2
  exact ⟨a, b, c, d.more hB⟩
theorem Sls.on (h : Sls sz enc w w.heap.size A xss) (hb : Below w.heap.size w w') : Sls sz enc w' w'.heap.size A xss := (h.below hb).more hb.size
theorem Sls.nil : Sls sz enc w B A [] := ⟨[], rfl, Sl.nil, fun i s xs h1 _ => by simp at h1⟩
theorem Sls.at_ (h : Sls sz enc w B A xss) {i : Nat} (hi : i < xss.length) :
    ∃ b off A' c, A = some ⟨b, off, none⟩ ∧ b < B ∧ w.cell? ⟨b, off + i, none⟩ = some (.slice A' xss[i].length c) ∧ xss[i].length ≤ c ∧ c ≤ maxLen ∧ Sl sz enc w B A' xss[i] := by
  obtain ⟨svs, hl, hs, hr⟩ := h
  have hi' : i < svs.length := by omega
  obtain ⟨b, off, hA, hB, hc⟩ := hs.at_ hi'
  obtain ⟨e, h1, h2, h3⟩ := hr i svs[i] xss[i] (List.getElem?_eq_getElem hi') (List.getElem?_eq_getElem hi)
  refine ⟨b, off, svs[i].A, svs[i].c, hA, hB, ?_, h1, h2, h3⟩
  have := hc 0 _ rfl
  rw [Nat.mul_one, Nat.add_zero, e] at this
  exact this
/-- A beginning. -/
theorem Sls.cut (h : Sls sz enc w B A xss) (n : Nat) : Sls sz enc w B A (xss.take n) := by
  obtain ⟨svs, hl, hs, hr⟩ := h
  refine ⟨svs.take n, by simp [hl], hs.cut n, fun i s xs h1 h2 => hr i s xs ?_ ?_⟩
  · rw [List.getElem?_take] at h1; split at h1; · exact h1
    · cases h1
  · rw [List.getElem?_take] at h2; split at h2; · exact h2
    · cases h2
end

/-! ### Values -/
def vValid (v : Val) : Bool := if v.1 then v.2 == 0 else decide (-9999 ≤ v.2) && decide (v.2 ≤ 9999)
/-- The order of the reference: null first, then by number (of whatever values). -/
def vCmp (a b : Val) : Int := if a = b then 0 else if a.1 || (!b.1 && decide (a.2 < b.2)) then -1 else 1
def iCmp (a b : Int) : Int := if a < b then -1 else if b < a then 1 else 0
/-- The order of the program. -/
def pCmp (a b : Val) : Int := if a.1 && b.1 then 0 else if a.1 then -1 else if b.1 then 1 else iCmp a.2 b.2
theorem pCmp_eq (a b : Val) (ha : vValid a = true) (hb : vValid b = true) : pCmp a b = vCmp a b := by
  obtain ⟨na, a⟩ := a
  obtain ⟨nb, b⟩ := b
  unfold pCmp vCmp vValid iCmp at *
  cases na <;> cases nb <;> simp_all
  by_cases h1 : a < b
  · rw [if_pos h1, if_neg (by omega), if_pos h1]
  · rw [if_neg h1]
    by_cases h2 : b < a
    · rw [if_pos h2, if_neg (by omega), if_neg h1]
    · rw [if_neg h2, if_pos (by omega)]
theorem vCmp_range (a b : Val) : vCmp a b = -1 ∨ vCmp a b = 0 ∨ vCmp a b = 1 := by
  unfold vCmp; repeat' split
  all_goals simp
theorem pCmp_range (a b : Val) : pCmp a b = -1 ∨ pCmp a b = 0 ∨ pCmp a b = 1 := by
  unfold pCmp iCmp; repeat' split
  all_goals simp

def rowValid (r : Row1) : Bool := decide (1 ≤ r.length) && decide (r.length ≤ 6) && r.all vValid
/-- The reference's order of rows of whatever widths. -/
def rCmp : Row1 → Row1 → Int
  | a :: as, b :: bs => if vCmp a b ≠ 0 then vCmp a b else rCmp as bs
  | as, bs => (as.length : Int) - bs.length
/-- slices.CompareFunc by the program's order. -/
def rpCmp : Row1 → Row1 → Int
  | a :: as, b :: bs => if pCmp a b ≠ 0 then pCmp a b else rpCmp as bs
  | _ :: _, [] => 1
  | [], _ :: _ => -1
  | [], [] => 0
theorem rpCmp_eq : ∀ (a b : Row1), a.length = b.length → (∀ x ∈ a, vValid x = true) → (∀ x ∈ b, vValid x = true) → rpCmp a b = rCmp a b
  | [], [], _, _, _ => rfl
  | a :: as, b :: bs, h, ha, hb => by
    rw [rpCmp, rCmp, pCmp_eq a b (ha a (by simp)) (hb b (by simp)), rpCmp_eq as bs (by simpa using h) (fun x hx => ha x (by simp [hx])) (fun x hx => hb x (by simp [hx]))]
theorem rCmp_bound : ∀ (a b : Row1), -((b.length : Int) + 1) ≤ rCmp a b ∧ rCmp a b ≤ (a.length : Int) + 1
  | [], [] => by simp [rCmp]
  | [], b :: bs => by simp [rCmp]; omega
  | a :: as, [] => by simp [rCmp]; omega
  | a :: as, b :: bs => by
    have h1 := vCmp_range a b
    have h2 := rCmp_bound as bs
    rw [rCmp]
    split
    · simp only [List.length_cons]; omega
    · simp only [List.length_cons]; omega
/-- Where the first k places agree the order is that of the rest. -/
theorem rCmp_drop : ∀ (a b : Row1) (k : Nat), k ≤ a.length → k ≤ b.length → (∀ i x y, i < k → a[i]? = some x → b[i]? = some y → vCmp x y = 0) → rCmp a b = rCmp (a.drop k) (b.drop k)
  | a, b, 0, _, _, _ => by simp
  | [], b, k + 1, h, _, _ => by simp at h
  | a, [], k + 1, _, h, _ => by simp at h
  | a :: as, b :: bs, k + 1, h1, h2, h => by
    rw [List.drop_succ_cons, List.drop_succ_cons, rCmp, if_neg (by simpa using h 0 a b (by omega) rfl rfl)]
    exact rCmp_drop as bs k (by simpa using h1) (by simpa using h2) fun i x y hi hx hy => h (i + 1) x y (by omega) (by simpa using hx) (by simpa using hy)
theorem rpCmp_drop : ∀ (a b : Row1) (k : Nat), k ≤ a.length → k ≤ b.length → (∀ i x y, i < k → a[i]? = some x → b[i]? = some y → pCmp x y = 0) → rpCmp a b = rpCmp (a.drop k) (b.drop k)
  | a, b, 0, _, _, _ => by simp
  | [], b, k + 1, h, _, _ => by simp at h
  | a, [], k + 1, _, h, _ => by simp at h
  | a :: as, b :: bs, k + 1, h1, h2, h => by
    rw [List.drop_succ_cons, List.drop_succ_cons, rpCmp, if_neg (by simpa using h 0 a b (by omega) rfl rfl)]
    exact rpCmp_drop as bs k (by simpa using h1) (by simpa using h2) fun i x y hi hx hy => h (i + 1) x y (by omega) (by simpa using hx) (by simpa using hy)
theorem rCmp_at {a b : Row1} {k : Nat} {x y : Val} (hp : ∀ i x y, i < k → a[i]? = some x → b[i]? = some y → vCmp x y = 0) (hx : a[k]? = some x) (hy : b[k]? = some y) (hne : vCmp x y ≠ 0) : rCmp a b = vCmp x y := by
  have h1 := (List.getElem?_eq_some_iff.1 hx)
  have h2 := (List.getElem?_eq_some_iff.1 hy)
  obtain ⟨l1, e1⟩ := h1
  obtain ⟨l2, e2⟩ := h2
  rw [rCmp_drop a b k (by omega) (by omega) hp, List.drop_eq_getElem_cons l1, List.drop_eq_getElem_cons l2, rCmp, e1, e2, if_pos hne]
theorem rpCmp_at {a b : Row1} {k : Nat} {x y : Val} (hp : ∀ i x y, i < k → a[i]? = some x → b[i]? = some y → pCmp x y = 0) (hx : a[k]? = some x) (hy : b[k]? = some y) (hne : pCmp x y ≠ 0) : rpCmp a b = pCmp x y := by
  have h1 := (List.getElem?_eq_some_iff.1 hx)
  have h2 := (List.getElem?_eq_some_iff.1 hy)
  obtain ⟨l1, e1⟩ := h1
  obtain ⟨l2, e2⟩ := h2
  rw [rpCmp_drop a b k (by omega) (by omega) hp, List.drop_eq_getElem_cons l1, List.drop_eq_getElem_cons l2, rpCmp, e1, e2, if_pos hne]
theorem rCmp_end {a b : Row1} {k : Nat} (hp : ∀ i x y, i < k → a[i]? = some x → b[i]? = some y → vCmp x y = 0) (ha : k ≤ a.length) (hb : k ≤ b.length) (he : k = a.length ∨ k = b.length) : rCmp a b = (a.length : Int) - b.length := by
  rw [rCmp_drop a b k ha hb hp]
  rcases he with rfl | rfl
  · rw [List.drop_length, rCmp]
    · simp; omega
    · rintro _ _ _ _ h; simp at h
  · rw [List.drop_length, rCmp]
    · simp; omega
    · rintro _ _ _ _ _ h; simp at h
theorem vCmp_self (a : Val) : vCmp a a = 0 := by simp [vCmp]
theorem vCmp_zero {a b : Val} (h : vCmp a b = 0) : a = b := by
  unfold vCmp at h
  split at h
  · assumption
  · split at h <;> simp at h
/-- Places that agree, one more. -/
theorem agree_succ {p : Val → Val → Int} {a b : Row1} {k : Nat} (hp : ∀ i x y, i < k → a[i]? = some x → b[i]? = some y → p x y = 0) {x y : Val} (hx : a[k]? = some x) (hy : b[k]? = some y) (h : p x y = 0) :
    ∀ i x y, i < k + 1 → a[i]? = some x → b[i]? = some y → p x y = 0 := by
  intro i x' y' hi hx' hy'
  rcases Nat.lt_succ_iff_lt_or_eq.1 hi with hlt | rfl
  · exact hp i x' y' hlt hx' hy'
  · rw [hx] at hx'; rw [hy] at hy'
    cases hx'; cases hy'
    exact h
theorem agree_zero {p : Val → Val → Int} {a b : Row1} : ∀ i x y, i < 0 → a[i]? = some x → b[i]? = some y → p x y = 0 := fun i _ _ h => absurd h (by omega)

theorem all_take_succ {α : Type} {p : α → Bool} {xs : List α} {k : Nat} {x : α} (hp : (xs.take k).all p = true) (hx : xs[k]? = some x) (h : p x = true) : (xs.take (k + 1)).all p = true := by
  rw [List.take_add_one, hx]
  simp [List.all_append, hp, h]
theorem all_of_take {α : Type} {p : α → Bool} {xs : List α} {k : Nat} (hp : (xs.take k).all p = true) (hk : xs.length ≤ k) : xs.all p = true := by
  rwa [List.take_of_length_le hk] at hp
theorem not_all {α : Type} {p : α → Bool} {xs : List α} {k : Nat} {x : α} (hx : xs[k]? = some x) (h : p x = false) : xs.all p = false := by
  rw [List.all_eq_false]
  exact ⟨x, List.mem_of_getElem? hx, by simp [h]⟩

/-! ### Tables -/
/-- What the reference and the program call a valid table. -/
def TabOk (W : Int) (rows : List Row1) : Prop :=
  1 ≤ W ∧ W ≤ 6 ∧ rows.length ≤ 400 ∧ (∀ r ∈ rows, rowValid r = true ∧ (r.length : Int) = W) ∧ ∀ (i : Nat) (a b : Row1), rows[i]? = some a → rows[i + 1]? = some b → rCmp a b ≤ 0
/-- The first k rows are in order. -/
def TabUpto (W : Int) (rows : List Row1) (k : Nat) : Prop :=
  (∀ (i : Nat) (r : Row1), i < k → rows[i]? = some r → rowValid r = true ∧ (r.length : Int) = W) ∧ ∀ (i : Nat) (a b : Row1), i + 1 < k → rows[i]? = some a → rows[i + 1]? = some b → rCmp a b ≤ 0
theorem TabUpto.zero {W : Int} {rows : List Row1} : TabUpto W rows 0 := ⟨fun _ _ h => absurd h (by omega), fun _ _ _ h => absurd h (by omega)⟩
theorem TabUpto.first {W : Int} {rows : List Row1} {x : Row1} (hx : rows[0]? = some x) (hv : rowValid x = true) (hw : (x.length : Int) = W) : TabUpto W rows 1 := by
  refine ⟨fun i r hi hr => ?_, fun i a b hi => absurd hi (by omega)⟩
  obtain rfl : i = 0 := by omega
  rw [hx] at hr; cases hr
  exact ⟨hv, hw⟩
theorem TabUpto.succ {W : Int} {rows : List Row1} {k : Nat} {p x : Row1} (h : TabUpto W rows (k + 1)) (hp : rows[k]? = some p) (hx : rows[k + 1]? = some x) (hv : rowValid x = true) (hw : (x.length : Int) = W) (hc : rCmp p x ≤ 0) : TabUpto W rows (k + 2) := by
  refine ⟨fun i r hi hr => ?_, fun i a b hi ha hb => ?_⟩
  · rcases Nat.lt_succ_iff_lt_or_eq.1 hi with hlt | rfl
    · exact h.1 i r hlt hr
    · rw [hx] at hr; cases hr; exact ⟨hv, hw⟩
  · rcases Nat.lt_succ_iff_lt_or_eq.1 hi with hlt | he
    · exact h.2 i a b hlt ha hb
    · obtain rfl : i = k := by omega
      rw [hp] at ha; rw [hx] at hb; cases ha; cases hb
      exact hc
theorem TabUpto.all {W : Int} {rows : List Row1} {k : Nat} (h : TabUpto W rows k) (hk : rows.length ≤ k) (h1 : 1 ≤ W) (h2 : W ≤ 6) (h3 : rows.length ≤ 400) : TabOk W rows := by
  refine ⟨h1, h2, h3, fun r hr => ?_, fun i a b ha hb => h.2 i a b ?_ ha hb⟩
  · obtain ⟨i, hi, rfl⟩ := List.getElem_of_mem hr
    exact h.1 i _ (by omega) (List.getElem?_eq_getElem hi)
  · have := (List.getElem?_eq_some_iff.1 hb).1; omega
theorem TabOk.upto {W : Int} {rows : List Row1} (h : TabOk W rows) (k : Nat) : TabUpto W rows k := ⟨fun i r _ hr => h.2.2.2.1 r (List.mem_of_getElem? hr), fun i a b _ => h.2.2.2.2 i a b⟩
theorem TabOk.row {W : Int} {rows : List Row1} (h : TabOk W rows) {i : Nat} {r : Row1} (hr : rows[i]? = some r) : rowValid r = true ∧ (r.length : Int) = W := h.2.2.2.1 r (List.mem_of_getElem? hr)
theorem rowValid_vals {r : Row1} (h : rowValid r = true) : ∀ x ∈ r, vValid x = true := by
  unfold rowValid at h
  simp only [Bool.and_eq_true] at h
  exact List.all_eq_true.1 h.2
theorem rowValid_len {r : Row1} (h : rowValid r = true) : 1 ≤ r.length ∧ r.length ≤ 6 := by
  unfold rowValid at h
  simp only [Bool.and_eq_true, decide_eq_true_eq] at h
  exact h.1
theorem rp_eq {a b : Row1} (ha : rowValid a = true) (hb : rowValid b = true) (hl : a.length = b.length) : rpCmp a b = rCmp a b := rpCmp_eq a b hl (rowValid_vals ha) (rowValid_vals hb)
theorem rowValid_iff {r : Row1} : rowValid r = (decide ((1 : Int) ≤ (r.length : Int)) && decide ((r.length : Int) ≤ 6) && r.all vValid) := by
  unfold rowValid
  congr 1
  congr 1
  · exact decide_eq_decide.2 (by omega)
  · exact decide_eq_decide.2 (by omega)

/-- How often a row occurs (by the reference's order). -/
def cnt (rows : List Row1) (r : Row1) : Nat := (rows.filter fun x => rCmp x r == 0).length
theorem cnt_le (rows : List Row1) (r : Row1) : cnt rows r ≤ rows.length := List.length_filter_le _ _
theorem cnt_nil (r : Row1) : cnt [] r = 0 := rfl
theorem cnt_succ {rows : List Row1} {r x : Row1} {k : Nat} (hx : rows[k]? = some x) : cnt (rows.take (k + 1)) r = cnt (rows.take k) r + if rCmp x r = 0 then 1 else 0 := by
  unfold cnt
  rw [List.take_add_one, hx, List.filter_append, List.length_append]
  congr 1
  by_cases h : rCmp x r = 0 <;> simp [h]

/-- A table's value: its two cells. -/
def tabC (W : Int) (A : Option Addr) (n c : Nat) : List Value := [.int .i64 W, .slice A n c]

/-! ### Sizes -/
def szL {α : Type} : Int → List (List α) → Int
  | l, [] => l
  | l, r :: rs => if l - r.length < 0 then -1 else szL (l - r.length) rs
def szR {α : Type} (l : Int) (rows : List (List α)) : Int := if l - rows.length < 0 then -1 else szL (l - rows.length) rows
theorem szL_range {α : Type} : ∀ (rows : List (List α)) (l : Int), 0 ≤ l → szL l rows = -1 ∨ (0 ≤ szL l rows ∧ szL l rows ≤ l ∧ ∀ r ∈ rows, (r.length : Int) ≤ l)
  | [], l, h => .inr ⟨h, by simp [szL], by simp⟩
  | r :: rs, l, h => by
    rw [szL]
    split
    · exact .inl rfl
    · rcases szL_range rs (l - r.length) (by omega) with h1 | ⟨h1, h2, h3⟩
      · exact .inl h1
      · refine .inr ⟨h1, by omega, fun x hx => ?_⟩
        rcases List.mem_cons.1 hx with rfl | hx
        · omega
        · have := h3 x hx; omega
theorem szR_range {α : Type} (rows : List (List α)) (l : Int) (h : 0 ≤ l) : szR l rows = -1 ∨ (0 ≤ szR l rows ∧ szR l rows ≤ l ∧ (rows.length : Int) ≤ l ∧ ∀ r ∈ rows, (r.length : Int) ≤ l) := by
  unfold szR
  split
  · exact .inl rfl
  · rcases szL_range rows (l - rows.length) (by omega) with h1 | ⟨h1, h2, h3⟩
    · exact .inl h1
    · exact .inr ⟨h1, by omega, by omega, fun r hr => by have := h3 r hr; omega⟩
theorem szL_step {α : Type} {rows : List (List α)} {k : Nat} {r : List α} {l : Int} (hr : rows[k]? = some r) : szL l (rows.drop k) = if l - r.length < 0 then -1 else szL (l - r.length) (rows.drop (k + 1)) := by
  obtain ⟨hk, e⟩ := List.getElem?_eq_some_iff.1 hr
  rw [List.drop_eq_getElem_cons hk, e, szL]

/-! ### Rows of the call's own, a block each -/
def rowSV {α : Type} (b : Nat) (r : List α) : SV := ⟨some ⟨b, 0, none⟩, r.length, r.length⟩
def rowsC {α : Type} (bs : List Nat) (rows : List (List α)) : List Value := (List.zipWith rowSV bs rows).flatMap svC
theorem rowsC_length {α : Type} (bs : List Nat) (rows : List (List α)) (h : bs.length = rows.length) : (rowsC bs rows).length = rows.length := by
  unfold rowsC
  rw [flat_length 1 svC svC_length, List.length_zipWith, h, Nat.min_self, Nat.mul_one]
theorem rowsC_snoc {α : Type} (bs : List Nat) (rows : List (List α)) (h : bs.length = rows.length) (c : Nat) (r : List α) : rowsC (bs ++ [c]) (rows ++ [r]) = rowsC bs rows ++ [.slice (some ⟨c, 0, none⟩) r.length r.length] := by
  unfold rowsC
  rw [List.zipWith_append h, List.flatMap_append]
  rfl
/-- The outer block b holds the rows' slices (and 'more' behind them), each row lies in a block of its own. -/
structure OwnRs {α : Type} (enc : α → List Value) (tO tI : TypeId) (w : World) (B0 b : Nat) (bs : List Nat) (rows : List (List α)) (more : List Value) : Prop where
  len : bs.length = rows.length
  outer : Row w b tO (rowsC bs rows ++ more)
  inner : ∀ (i c : Nat) (r : List α), bs[i]? = some c → rows[i]? = some r → Row w c tI (r.flatMap enc)
  nodup : bs.Nodup
  low : ∀ c ∈ bs, B0 ≤ c ∧ c ≠ b
  lowO : B0 ≤ b
section
variable {α : Type} {enc : α → List Value} {tO tI : TypeId} {w w' : World} {B0 b : Nat} {bs : List Nat} {rows : List (List α)} {more : List Value}
theorem OwnRs.keep (h : OwnRs enc tO tI w B0 b bs rows more) (hk : ∀ c, B0 ≤ c → c < w.heap.size → w'.heap[c]? = w.heap[c]?) : OwnRs enc tO tI w' B0 b bs rows more :=
  ⟨h.len, h.outer.keep (hk b h.lowO h.outer.lt), fun i c r h1 h2 => (h.inner i c r h1 h2).keep (hk c (h.low c (List.mem_of_getElem? h1)).1 (h.inner i c r h1 h2).lt), h.nodup, h.low, h.lowO⟩
theorem OwnRs.on (h : OwnRs enc tO tI w B0 b bs rows more) (hb : Below w.heap.size w w') : OwnRs enc tO tI w' B0 b bs rows more := h.keep fun c _ hc => hb.block c hc
theorem OwnRs.lower (h : OwnRs enc tO tI w B0 b bs rows more) {B1 : Nat} (hB : B1 ≤ B0) : OwnRs enc tO tI w B1 b bs rows more :=
  ⟨h.len, h.outer, h.inner, h.nodup, fun c hc => ⟨Nat.le_trans hB (h.low c hc).1, (h.low c hc).2⟩, Nat.le_trans hB h.lowO⟩
theorem OwnRs.setFar (h : OwnRs enc tO tI w B0 b bs rows more) {p : Addr} (hp : p.block < B0) (u : Value) : OwnRs enc tO tI (w.setCell p u) B0 b bs rows more :=
  h.keep fun c hc _ => Below.heap_setCell w p u c (by omega)
theorem OwnRs.svs (h : OwnRs enc tO tI w B0 b bs rows more) {sz : Nat} (hsz : 0 < sz) (he : ∀ x, (enc x).length = sz) (hm : ∀ r ∈ rows, r.length ≤ maxLen) : Sls sz enc w w.heap.size (some ⟨b, 0, none⟩) rows := by
  refine ⟨List.zipWith rowSV bs rows, by rw [List.length_zipWith, h.len, Nat.min_self], ?_, fun i s xs h1 h2 => ?_⟩
  · exact Row.sl (t := tO) (more := more) svC_length h.outer
  · rw [List.getElem?_zipWith, h2] at h1
    cases hc : bs[i]? with
    | none => rw [hc] at h1; simp at h1
    | some c =>
      rw [hc] at h1
      simp only [Option.some.injEq] at h1
      subst h1
      exact ⟨rfl, Nat.le_refl _, hm xs (List.mem_of_getElem? h2), Row.sl' he (h.inner i c xs hc h2)⟩
end
end Go.Qo
