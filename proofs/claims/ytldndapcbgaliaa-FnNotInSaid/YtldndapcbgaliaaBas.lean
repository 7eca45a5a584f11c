/-
  General words for these walks: a slice that reads as a list; a region that draws its order and whose callees only make new memory; blocks of the call's own. No program in sight.
-/
import Derived.WalkKit
import Derived.WalkSpells
import Derived.WalkLawsBesides
import Derived.Deep.LoopGhost
import Derived.Deep.QuietTactic
import Derived.Deep.OwnRows
import Derived.Deep.RegionWith
import Derived.Deep.RegionHeld3
import Derived.BigQuiet
import Derived.Lib.Hide
namespace Go.Qo
open Go.RowKit

/-! ### Below -/
theorem bcell {W w1 : World} (hb : Below W.heap.size W w1) : (∀ b o, b < W.heap.size → w1.cell? ⟨b, o, none⟩ = W.cell? ⟨b, o, none⟩) ∧ (∀ b o, b < W.heap.size → w1.frozen? ⟨b, o, none⟩ = W.frozen? ⟨b, o, none⟩) :=
  ⟨fun b o h => hb.cell (p := ⟨b, o, none⟩) h, fun b o h => hb.frozen (p := ⟨b, o, none⟩) h⟩

theorem bch {w a b : World} (h : Below w.heap.size w a) (k : Below a.heap.size a b) : Below w.heap.size w b := h.trans (k.mono h.size)
theorem balloc {a w : World} (h : Below a.heap.size a w) (o : Obj) : Below a.heap.size a (w.alloc o) := Below.alloc h h.size o
theorem bdrewN {B : Nat} {a w : World} (h : Below B a w) (n : Nat) : Below B a (w.drewN n) := ⟨h.os, h.tape, h.output, h.size, h.block⟩
theorem ret_bool {a b : Bool} (h : a = b) : Ending.returned (.bool a) = .returned (.bool b) := by rw [h]
theorem ret_int {k : IntKind} {a b : Int} (h : a = b) : Ending.returned (.int k a) = .returned (.int k b) := by rw [h]

/-! ### Lists -/
theorem take_eq_succ {α : Type} {xs ys : List α} {k : Nat} {x : α} (hp : xs.take k = ys.take k) (hx : xs[k]? = some x) (hy : ys[k]? = some x) : xs.take (k + 1) = ys.take (k + 1) := by
  rw [List.take_add_one, List.take_add_one, hp, hx, hy]
theorem ne_of_at {α : Type} {xs ys : List α} {k : Nat} {x y : α} (hx : xs[k]? = some x) (hy : ys[k]? = some y) (h : x ≠ y) : xs ≠ ys := by
  rintro rfl; rw [hx] at hy; exact h (Option.some.inj hy)
theorem eq_of_take {α : Type} {xs ys : List α} {k : Nat} (hp : xs.take k = ys.take k) (hx : xs.length ≤ k) (hy : ys.length ≤ k) : xs = ys := by
  rwa [List.take_of_length_le hx, List.take_of_length_le hy] at hp

/-! ### A slice that reads as a list, its elements of sz cells -/
def Sl {α : Type} (sz : Nat) (enc : α → List Value) (w : World) (B : Nat) (A : Option Addr) (xs : List α) : Prop :=
  0 < xs.length → ∃ b off, A = some ⟨b, off, none⟩ ∧ b < B ∧ ∀ i x, xs[i]? = some x → ∀ j u, (enc x)[j]? = some u → w.cell? ⟨b, off + i * sz + j, none⟩ = some u

section
variable {α : Type} {sz : Nat} {enc : α → List Value} {w w' : World} {B B' : Nat} {A : Option Addr} {xs : List α}
theorem Sl.nil : Sl sz enc w B A [] := fun h => absurd h (by simp)
theorem Sl.keep (h : Sl sz enc w B A xs) (hk : ∀ b o, b < B → w'.cell? ⟨b, o, none⟩ = w.cell? ⟨b, o, none⟩) : Sl sz enc w' B A xs := fun h0 => by
  obtain ⟨b, off, hA, hB, hc⟩ := h h0
  exact ⟨b, off, hA, hB, fun i x hx j u hu => (hk b _ hB).trans (hc i x hx j u hu)⟩
theorem Sl.below (h : Sl sz enc w B A xs) (hb : Below B w w') : Sl sz enc w' B A xs := h.keep fun b o hB => hb.cell (p := ⟨b, o, none⟩) hB
theorem Sl.more (h : Sl sz enc w B A xs) (hB : B ≤ B') : Sl sz enc w B' A xs := fun h0 => by
  obtain ⟨b, off, hA, hlt, hc⟩ := h h0
  exact ⟨b, off, hA, by omega, hc⟩
/-- Into a later world, at that world's own size. -/
theorem Sl.on (h : Sl sz enc w w.heap.size A xs) (hb : Below w.heap.size w w') : Sl sz enc w' w'.heap.size A xs := (h.below hb).more hb.size
/-- A beginning. -/
theorem Sl.cut (h : Sl sz enc w B A xs) (n : Nat) : Sl sz enc w B A (xs.take n) := fun h0 => by
  have hl : (xs.take n).length ≤ xs.length := by rw [List.length_take]; omega
  obtain ⟨b, off, hA, hB, hc⟩ := h (by omega)
  refine ⟨b, off, hA, hB, fun i x hx j u hu => hc i x ?_ j u hu⟩
  rw [List.getElem?_take] at hx
  split at hx
  · exact hx
  · cases hx
theorem Sl.at_ (h : Sl sz enc w B A xs) {i : Nat} (hi : i < xs.length) :
    ∃ b off, A = some ⟨b, off, none⟩ ∧ b < B ∧ ∀ j u, (enc xs[i])[j]? = some u → w.cell? ⟨b, off + i * sz + j, none⟩ = some u := by
  obtain ⟨b, off, hA, hB, hc⟩ := h (by omega)
  exact ⟨b, off, hA, hB, hc i xs[i] (by simp)⟩
end

/-- One cell an element. -/
theorem Sl.at1 {α : Type} {f : α → Value} {w : World} {B : Nat} {A : Option Addr} {xs : List α} (h : Sl 1 (fun x => [f x]) w B A xs) {i : Nat} (hi : i < xs.length) :
    ∃ b off, A = some ⟨b, off, none⟩ ∧ b < B ∧ w.cell? ⟨b, off + i, none⟩ = some (f xs[i]) := by
  obtain ⟨b, off, hA, hB, hc⟩ := h.at_ hi
  exact ⟨b, off, hA, hB, by simpa using hc 0 _ rfl⟩
/-- Two cells an element. -/
theorem Sl.at2 {α : Type} {f g : α → Value} {w : World} {B : Nat} {A : Option Addr} {xs : List α} (h : Sl 2 (fun x => [f x, g x]) w B A xs) {i : Nat} (hi : i < xs.length) :
    ∃ b off, A = some ⟨b, off, none⟩ ∧ b < B ∧ w.cell? ⟨b, off + i * 2, none⟩ = some (f xs[i]) ∧ w.cell? ⟨b, off + i * 2 + 1, none⟩ = some (g xs[i]) := by
  obtain ⟨b, off, hA, hB, hc⟩ := h.at_ hi
  exact ⟨b, off, hA, hB, by simpa using hc 0 _ rfl, by simpa using hc 1 _ rfl⟩

/-! ### A region that draws its order, whose operations read below B and whose callees only make new memory -/
structure Aft (B : Nat) (w : World) where
  v : World
  h : Below B w v

instance (B : Nat) (w : World) : Nonempty (Aft B w) := ⟨⟨w, Below.refl B w⟩⟩

theorem Aft.cell {B : Nat} {w : World} (x : Aft B w) {b o : Nat} {u : Value} (hB : b < B) (hc : w.cell? ⟨b, o, none⟩ = some u) : x.v.cell? ⟨b, o, none⟩ = some u := (x.h.cell (p := ⟨b, o, none⟩) hB).trans hc

theorem wp_region_aft {P : Program} {id : Nat} {Q : Exit → Act → World → Prop} {a : Act} {w : World} {l : List Oper} (B : Nat) (hm : P.follows .mixedOrders = true) (hB : Region.lexB .any l.toArray = true)
    (h : wpQuiet P l.toArray (fun w' => ∃ x : Aft B w, w' = x.v) (fun a' => ∀ w', (∃ x : Aft B w, w' = x.v) → Q .normal a' w') l a) : (Code.region id l.toArray true).wp P Q a w :=
  wp_region_quiet (C := fun w' => ∃ x : Aft B w, w' = x.v) hm hB ⟨⟨_, (Below.refl B w).drew⟩, rfl⟩ (by simpa using h)

theorem Calls.aft {P : Program} {f : FuncId} {args : Array Value} {B : Nat} {w : World} {x : Aft B w} {v : Value} (hB : B ≤ w.heap.size)
    (h : Calls P f args x.v fun e w' => e = .returned v ∧ Below x.v.heap.size x.v w') : Calls P f args x.v fun e w'' => e = .returned v ∧ ∃ y : Aft B w, w'' = y.v :=
  h.mono fun _ w' ⟨he, hb⟩ => ⟨he, ⟨⟨w', x.h.trans (hb.mono (Nat.le_trans hB x.h.size))⟩, rfl⟩⟩

/-! ### make([]T, n), T of several cells -/
theorem run_make_rowN {P : Program} (t e : TypeId) (z : Value) (size bytes : Nat) (ht : P.underlying t = some (.slice e)) (hinfo : (P.info? e).map (fun i => (i.zero, i.size, i.bytes)) = some (some z, size, bytes))
    (kl kc : IntKind) (n : Nat) (hbytes : bytes * n ≤ 281474976710656) (h63 : n ≤ 9223372036854775807) (w : World) :
    (Instr.makeSlice t (.int kl (n : Int)) (.int kc (n : Int))).run P w = .ok (.slice (some ⟨w.heap.size, 0, none⟩) n n) (w.alloc (.cells (madeCells z.cells (n * size)) e)) := by
  obtain ⟨i, hi, hz, hs, hb⟩ := info_parts hinfo
  have hb : (i.bytes : Int) * (n : Int) ≤ 281474976710656 := by
    have h : ((i.bytes * n : Nat) : Int) ≤ 281474976710656 := by rw [hb]; omega
    rwa [Int.natCast_mul] at h
  have hr := run_make (P := P) w t e i z ht hi hz kl kc n n (by omega) (by omega) hb (by omega)
  simp only [Int.toNat_natCast, hs] at hr
  exact hr

/-! ### A block of the call's own, known whole -/
def Row (w : World) (b : Nat) (t : TypeId) (cs : List Value) : Prop := w.heap[b]? = some (.cells cs.toArray t (0, 0))

section
variable {w w' : World} {b : Nat} {t : TypeId} {cs : List Value}
theorem Row.lt (h : Row w b t cs) : b < w.heap.size := (Array.getElem?_eq_some_iff.1 h).1
theorem Row.cell (h : Row w b t cs) (i : Nat) : w.cell? ⟨b, i, none⟩ = cs[i]? := by
  unfold Row at h; simp [World.cell?, h]
theorem Row.frozen (h : Row w b t cs) (i : Nat) : w.frozen? ⟨b, i, none⟩ = false := by
  unfold Row at h; simp [World.frozen?, h]
theorem Row.keep (h : Row w b t cs) (e : w'.heap[b]? = w.heap[b]?) : Row w' b t cs := e.trans h
theorem Row.below {B : Nat} (h : Row w b t cs) (hb : Below B w w') (hB : b < B) : Row w' b t cs := h.keep (hb.block b hB)
theorem Row.on (h : Row w b t cs) (hb : Below w.heap.size w w') : Row w' b t cs := h.below hb h.lt
theorem Row.alloc (h : Row w b t cs) (o : Obj) : Row (w.alloc o) b t cs := h.keep (Below.heap_alloc w o b h.lt)
theorem Row.drew (h : Row w b t cs) : Row w.drew b t cs := h
theorem Row.set (h : Row w b t cs) (i : Nat) (u : Value) : Row (w.setCell ⟨b, i, none⟩ u) b t (cs.set i u) := by
  unfold Row at h ⊢
  simp [World.setCell, Array.getElem?_modify, h]
theorem Row.far (h : Row w b t cs) {p : Addr} (hp : b ≠ p.block) (u : Value) : Row (w.setCell p u) b t cs := h.keep (Below.heap_setCell w p u b hp)
theorem Row.new (w : World) (t : TypeId) (c : Array Value) : Row (w.alloc (.cells c t)) w.heap.size t c.toList :=
  heap_alloc_new w _
theorem Row.of (h : Row w b t cs) {ds : List Value} (e : cs = ds) : Row w b t ds := e ▸ h
end

theorem flat_get {α : Type} (sz : Nat) (enc : α → List Value) (he : ∀ x, (enc x).length = sz) : ∀ (xs : List α) (i : Nat) (x : α) (j : Nat) (u : Value), xs[i]? = some x → (enc x)[j]? = some u → (xs.flatMap enc)[i * sz + j]? = some u
  | [], i, x, j, u, h, _ => by simp at h
  | y :: ys, 0, x, j, u, h, hu => by
    simp only [List.getElem?_cons_zero, Option.some.injEq] at h
    subst h
    have hj : j < (enc y).length := (List.getElem?_eq_some_iff.1 hu).1
    rw [List.flatMap_cons, Nat.zero_mul, Nat.zero_add, List.getElem?_append_left hj, hu]
  | y :: ys, i + 1, x, j, u, h, hu => by
    simp only [List.getElem?_cons_succ] at h
    rw [List.flatMap_cons, List.getElem?_append_right (by rw [he, Nat.add_mul]; omega), he]
    have e : (i + 1) * sz + j - sz = i * sz + j := by rw [Nat.add_mul]; omega
    rw [e]
    exact flat_get sz enc he ys i x j u h hu

theorem flat_length {α : Type} (sz : Nat) (enc : α → List Value) (he : ∀ x, (enc x).length = sz) : ∀ xs : List α, (xs.flatMap enc).length = xs.length * sz
  | [] => by simp
  | y :: ys => by rw [List.flatMap_cons, List.length_append, he, flat_length sz enc he ys, List.length_cons, Nat.add_mul]; omega

/-- A row of elements reads as a slice. -/
theorem Row.sl {α : Type} {sz : Nat} {enc : α → List Value} (he : ∀ x, (enc x).length = sz) {w : World} {b : Nat} {t : TypeId} {xs : List α} {more : List Value} (h : Row w b t (xs.flatMap enc ++ more)) :
    Sl sz enc w w.heap.size (some ⟨b, 0, none⟩) xs := fun _ => ⟨b, 0, rfl, h.lt, fun i x hx j u hu => by
  rw [h.cell, Nat.zero_add]
  have := flat_get sz enc he xs i x j u hx hu
  rw [List.getElem?_append_left (List.getElem?_eq_some_iff.1 this).1]
  exact this⟩
theorem Row.sl' {α : Type} {sz : Nat} {enc : α → List Value} (he : ∀ x, (enc x).length = sz) {w : World} {b : Nat} {t : TypeId} {xs : List α} (h : Row w b t (xs.flatMap enc)) :
    Sl sz enc w w.heap.size (some ⟨b, 0, none⟩) xs := Row.sl (more := []) he (by simpa using h)

/-! ### Filling a row element by element -/
def zeros (z : List Value) (m : Nat) : List Value := (List.replicate m z).flatten
theorem zeros_succ (z : List Value) (m : Nat) : zeros z (m + 1) = z ++ zeros z m := by simp [zeros, List.replicate_succ]
theorem zeros_length (z : List Value) : ∀ m, (zeros z m).length = m * z.length
  | 0 => by simp [zeros]
  | m + 1 => by rw [zeros_succ, List.length_append, zeros_length z m, Nat.add_mul]; omega
theorem zeros_get (z : List Value) : ∀ (m i : Nat), i < m * z.length → (zeros z m)[i]? = z[i % z.length]?
  | 0, i, h => by simp at h
  | m + 1, i, h => by
    rw [zeros_succ]
    by_cases hi : i < z.length
    · rw [List.getElem?_append_left hi, Nat.mod_eq_of_lt hi]
    · rw [List.getElem?_append_right (by omega), zeros_get z m _ (by rw [Nat.add_mul] at h; omega), ← Nat.mod_eq_sub_mod (by omega)]
theorem made_zeros (z : List Value) (m : Nat) : (madeCells z.toArray (m * z.length)).toList = zeros z m := by
  apply List.ext_getElem?
  intro i
  by_cases hi : i < m * z.length
  · rw [zeros_get z m i hi]
    have hz : i % z.length < z.length := Nat.mod_lt _ (by rcases Nat.eq_zero_or_pos z.length with h | h; · rw [h] at hi; omega
                                                          · exact h)
    simp [madeCells, hi, hz]
  · rw [List.getElem?_eq_none (by simp [madeCells]; omega), List.getElem?_eq_none (by rw [zeros_length]; omega)]

def over (cs : List Value) (p : Nat) : List Value → List Value
  | [] => cs
  | u :: us => over (cs.set p u) (p + 1) us
theorem over_eq : ∀ (us cs : List Value) (p : Nat), p + us.length ≤ cs.length → over cs p us = cs.take p ++ us ++ cs.drop (p + us.length)
  | [], cs, p, _ => by simp [over]
  | u :: us, cs, p, h => by
    simp only [List.length_cons] at h
    rw [over, over_eq us (cs.set p u) (p + 1) (by simp; omega)]
    have e1 : (cs.set p u).take (p + 1) = cs.take p ++ [u] := by
      rw [List.take_set, List.take_add_one, List.set_append_right _ _ (by simp; omega)]
      have hc : cs[p]? = some (cs[p]'(by omega)) := List.getElem?_eq_getElem (by omega)
      have hm : min p cs.length = p := by omega
      simp [hc, hm]
    have e2 : (cs.set p u).drop (p + 1 + us.length) = cs.drop (p + (us.length + 1)) := by
      rw [List.drop_set_of_lt (by omega), show p + 1 + us.length = p + (us.length + 1) by omega]
    rw [e1, e2]
    simp

/-- What the row holds when k of the elements have been laid. -/
def filled {α : Type} (enc : α → List Value) (z : List Value) (xs : List α) (k : Nat) : List Value := (xs.take k).flatMap enc ++ zeros z (xs.length - k)
theorem filled_zero {α : Type} (enc : α → List Value) (z : List Value) (xs : List α) : filled enc z xs 0 = zeros z xs.length := by simp [filled]
theorem filled_all {α : Type} (enc : α → List Value) (z : List Value) (xs : List α) {k : Nat} (hk : xs.length ≤ k) : filled enc z xs k = xs.flatMap enc := by
  simp [filled, List.take_of_length_le hk, show xs.length - k = 0 by omega, zeros]
theorem filled_length {α : Type} (sz : Nat) (enc : α → List Value) (he : ∀ x, (enc x).length = sz) (z : List Value) (hz : z.length = sz) (xs : List α) {k : Nat} (hk : k ≤ xs.length) : (filled enc z xs k).length = xs.length * sz := by
  rw [filled, List.length_append, flat_length sz enc he, zeros_length, hz, List.length_take, Nat.min_eq_left hk, ← Nat.add_mul, show k + (xs.length - k) = xs.length by omega]
theorem filled_next {α : Type} (sz : Nat) (enc : α → List Value) (he : ∀ x, (enc x).length = sz) (z : List Value) (hz : z.length = sz) (xs : List α) {k : Nat} {x : α} (hx : xs[k]? = some x) :
    over (filled enc z xs k) (k * sz) (enc x) = filled enc z xs (k + 1) := by
  have hk : k < xs.length := (List.getElem?_eq_some_iff.1 hx).1
  have hl : ((xs.take k).flatMap enc).length = k * sz := by rw [flat_length sz enc he, List.length_take, Nat.min_eq_left (by omega)]
  rw [over_eq _ _ _ (by rw [filled_length sz enc he z hz xs (by omega), he]; have := Nat.mul_le_mul_right sz (show k + 1 ≤ xs.length by omega); rw [Nat.add_mul] at this; omega)]
  unfold filled
  rw [List.take_append_of_le_length (by omega), List.take_of_length_le (by omega), he, List.drop_append, hl,
    List.drop_eq_nil_of_le (by omega), show k * sz + sz - k * sz = sz by omega, show xs.length - k = (xs.length - (k + 1)) + 1 by omega, zeros_succ, List.drop_append_of_le_length (by omega),
    List.drop_eq_nil_of_le (by omega), List.take_add_one, hx]
  simp

theorem Row.first (w : World) (t : TypeId) (c : Array Value) (o : Obj) : Row ((w.alloc (.cells c t)).alloc o) w.heap.size t c.toList := (Row.new w t c).alloc o
theorem Row.second (w : World) (o : Obj) (t : TypeId) (c : Array Value) : Row ((w.alloc o).alloc (.cells c t)) (w.heap.size + 1) t c.toList := by
  have := Row.new (w.alloc o) t c
  rwa [World.size_alloc] at this
theorem bbox1 {w w1 : World} {o : Obj} (hb : Below (w.alloc o).heap.size (w.alloc o) w1) : Below w.heap.size w w1 := bch (balloc (Below.refl _ _) _) hb
theorem bbox2 {w w1 : World} {o o' : Obj} (hb : Below ((w.alloc o).alloc o').heap.size ((w.alloc o).alloc o') w1) : Below w.heap.size w w1 := bch (balloc (balloc (Below.refl _ _) _) _) hb

theorem Row.third (w : World) (o o' : Obj) (t : TypeId) (c : Array Value) : Row (((w.alloc o).alloc o').alloc (.cells c t)) (w.heap.size + 1 + 1) t c.toList := by
  have := Row.new ((w.alloc o).alloc o') t c
  rwa [World.size_alloc, World.size_alloc] at this
theorem bbox3 {w w1 : World} {o o' o'' : Obj} (hb : Below (((w.alloc o).alloc o').alloc o'').heap.size (((w.alloc o).alloc o').alloc o'') w1) : Below w.heap.size w w1 := bch (balloc (balloc (balloc (Below.refl _ _) _) _) _) hb

end Go.Qo
