/-
  Memory that changes: 'Only S': the blocks S alone may have changed; slices whose blocks are known by their kind and lie from a number on; slices of the call's own that grow by append. No program in sight.
-/
import Derived.Test.YtldndapcbgaliaaValD
import Derived.Laws.AppendOwnNone
namespace Go.Qo
open Go.RowKit
set_option linter.unusedVariables false
set_option linter.unusedSimpArgs false

/-- Of the blocks that were there those of S alone may have changed. -/
structure Only (S : Nat → Prop) (w w' : World) : Prop where
  os : w'.os = w.os
  tape : w'.tape = w.tape
  output : w'.output = w.output
  size : w.heap.size ≤ w'.heap.size
  block : ∀ k, k < w.heap.size → ¬ S k → w'.heap[k]? = w.heap[k]?
/-- One block alone may have changed. -/
abbrev But (b : Nat) : World → World → Prop := Only (fun k => k = b)
section
variable {S T : Nat → Prop} {w w' a b : World}
theorem Only.refl (w : World) : Only S w w := ⟨rfl, rfl, rfl, Nat.le_refl _, fun _ _ _ => rfl⟩
theorem Only.trans (h : Only S a b) (k : Only S b w) : Only S a w :=
  ⟨k.os.trans h.os, k.tape.trans h.tape, k.output.trans h.output, Nat.le_trans h.size k.size, fun i hi hS => (k.block i (by have := h.size; omega) hS).trans (h.block i hi hS)⟩
theorem Only.mono (h : Only S w w') (hS : ∀ k, k < w.heap.size → S k → T k) : Only T w w' := ⟨h.os, h.tape, h.output, h.size, fun i hi hT => h.block i hi fun hs => hT (hS i hi hs)⟩
theorem only_below (h : Below w.heap.size w w') : Only S w w' := ⟨h.os, h.tape, h.output, h.size, fun i hi _ => h.block i hi⟩
/-- A step that makes new memory alone. -/
theorem Only.below (h : Only S a b) (k : Below b.heap.size b w) : Only S a w := h.trans (only_below k)
theorem Only.alloc (h : Only S a b) (o : Obj) : Only S a (b.alloc o) := h.below (balloc (Below.refl _ _) o)
theorem Only.drew (h : Only S a b) : Only S a b.drew := ⟨h.os, h.tape, h.output, h.size, h.block⟩
/-- A step that changes blocks that were not there at the start, or those of S. -/
theorem Only.step (h : Only S a b) (k : Only T b w) (hT : ∀ i, T i → S i ∨ a.heap.size ≤ i) : Only S a w :=
  ⟨k.os.trans h.os, k.tape.trans h.tape, k.output.trans h.output, Nat.le_trans h.size k.size,
    fun i hi hS => (k.block i (by have := h.size; omega) fun ht => (hT i ht).elim hS fun h1 => by omega).trans (h.block i hi hS)⟩
theorem Only.grown (h : Only S a b) {row : Option Nat} (hg : b.grownBy w row) (hr : ∀ k, row = some k → S k ∨ a.heap.size ≤ k) : Only S a w :=
  ⟨hg.os.trans h.os, hg.tape.trans h.tape, hg.output.trans h.output, Nat.le_trans h.size hg.size,
    fun i hi hS => (hg.block i (by have := h.size; omega) fun e => (hr i e.symm).elim hS fun h1 => by omega).trans (h.block i hi hS)⟩
theorem Only.set (h : Only S a b) {p : Addr} (hp : S p.block ∨ a.heap.size ≤ p.block) (u : Value) : Only S a (b.setCell p u) :=
  ⟨h.os, h.tape, h.output, by simpa [World.setCell] using h.size,
    fun i hi hS => by rw [Below.heap_setCell _ _ _ _ (fun e => by subst e; exact hp.elim hS fun h1 => by omega)]; exact h.block i hi hS⟩
/-- Where all that may have changed is new, nothing old has. -/
theorem Only.old (h : Only S a b) (hS : ∀ k, k < a.heap.size → ¬ S k) : Below a.heap.size a b := ⟨h.os, h.tape, h.output, h.size, fun k hk => h.block k hk (hS k hk)⟩
theorem Row.only {r : Nat} {t : TypeId} {cs : List Value} (h : Row w r t cs) (k : Only S w w') (hS : ¬ S r) : Row w' r t cs := h.keep (k.block r h.lt hS)
theorem Only.from_ {B : Nat} (h : Below B a b) (hB : B = a.heap.size) (k : Only S b w) (hS : ∀ i, S i → a.heap.size ≤ i) : Below B a w := by
  subst hB
  exact ((Only.refl (S := fun _ => False) a).below h |>.step k fun i hi => .inr (hS i hi)).old fun _ _ h => h
end

/-- The kind of a block. -/
def TyAt (w : World) (b : Nat) (t : TypeId) : Prop := ∃ cs r, w.heap[b]? = some (.cells cs t r)
theorem TyAt.ne {w : World} {b c : Nat} {t u : TypeId} (h : TyAt w b t) (k : TyAt w c u) (htu : t ≠ u) : b ≠ c := by
  rintro rfl
  obtain ⟨_, _, h⟩ := h
  obtain ⟨_, _, k⟩ := k
  rw [h] at k
  injection k with k
  injection k with _ k
  exact htu k
theorem Row.ty {w : World} {b : Nat} {t : TypeId} {cs : List Value} (h : Row w b t cs) : TyAt w b t := ⟨_, _, h⟩

/-- A slice that reads as a list, its block of kind t and from number lo on. -/
def SlT {α : Type} (t : TypeId) (sz : Nat) (enc : α → List Value) (lo : Nat) (w : World) (A : Option Addr) (xs : List α) : Prop :=
  0 < xs.length → ∃ b off, A = some ⟨b, off, none⟩ ∧ lo ≤ b ∧ b < w.heap.size ∧ TyAt w b t ∧ ∀ i x, xs[i]? = some x → ∀ j u, (enc x)[j]? = some u → w.cell? ⟨b, off + i * sz + j, none⟩ = some u
section
variable {α : Type} {t : TypeId} {sz : Nat} {enc : α → List Value} {lo lo' : Nat} {w w' : World} {A : Option Addr} {xs : List α} {S : Nat → Prop}
theorem SlT.nil : SlT t sz enc lo w A [] := fun h => absurd h (by simp)
theorem SlT.sl (h : SlT t sz enc lo w A xs) : Sl sz enc w w.heap.size A xs := fun h0 => by
  obtain ⟨b, off, hA, _, hB, _, hc⟩ := h h0
  exact ⟨b, off, hA, hB, hc⟩
theorem SlT.low (h : SlT t sz enc lo w A xs) (hl : lo' ≤ lo) : SlT t sz enc lo' w A xs := fun h0 => by
  obtain ⟨b, off, hA, h1, r⟩ := h h0
  exact ⟨b, off, hA, by omega, r⟩
theorem SlT.keep (h : SlT t sz enc lo w A xs) (hs : w.heap.size ≤ w'.heap.size) (hk : ∀ b, lo ≤ b → b < w.heap.size → TyAt w b t → w'.heap[b]? = w.heap[b]?) : SlT t sz enc lo w' A xs := fun h0 => by
  obtain ⟨b, off, hA, h1, h2, ⟨cs, r, h3⟩, hc⟩ := h h0
  have e := hk b h1 h2 ⟨cs, r, h3⟩
  exact ⟨b, off, hA, h1, by omega, ⟨cs, r, e.trans h3⟩, fun i x hx j u hu => (World.cell?_of_block (w := w) (a := ⟨b, _, none⟩) e).trans (hc i x hx j u hu)⟩
theorem SlT.on (h : SlT t sz enc lo w A xs) (hb : Below w.heap.size w w') : SlT t sz enc lo w' A xs := h.keep hb.size fun b _ hl _ => hb.block b hl
theorem SlT.only (h : SlT t sz enc lo w A xs) (k : Only S w w') (hS : ∀ b, S b → b < lo ∨ ∃ u, u ≠ t ∧ TyAt w b u) : SlT t sz enc lo w' A xs :=
  h.keep k.size fun b h1 h2 h3 => k.block b h2 fun hs => by
    rcases hS b hs with h4 | ⟨u, h4, h5⟩
    · omega
    · exact (TyAt.ne h5 h3 h4) rfl
theorem SlT.grown (h : SlT t sz enc lo w A xs) {row : Option Nat} (hg : w.grownBy w' row) (hr : ∀ b, row = some b → b < lo ∨ ∃ u, u ≠ t ∧ TyAt w b u) : SlT t sz enc lo w' A xs :=
  h.keep hg.size fun b h1 h2 h3 => hg.block b h2 fun e => by
    rcases hr b e.symm with h4 | ⟨u, h4, h5⟩
    · omega
    · exact (TyAt.ne h5 h3 h4) rfl
theorem SlT.cut (h : SlT t sz enc lo w A xs) (n : Nat) : SlT t sz enc lo w A (xs.take n) := fun h0 => by
  have hl : (xs.take n).length ≤ xs.length := by rw [List.length_take]; omega
  obtain ⟨b, off, hA, h1, h2, h3, hc⟩ := h (by omega)
  refine ⟨b, off, hA, h1, h2, h3, fun i x hx j u hu => hc i x ?_ j u hu⟩
  rw [List.getElem?_take] at hx
  split at hx
  · exact hx
  · cases hx
end
theorem Row.slT {α : Type} {sz : Nat} {enc : α → List Value} (he : ∀ x, (enc x).length = sz) {w : World} {lo b : Nat} {t : TypeId} {xs : List α} {more : List Value} (h : Row w b t (xs.flatMap enc ++ more)) (hlo : lo ≤ b) :
    SlT t sz enc lo w (some ⟨b, 0, none⟩) xs := fun h0 => by
  obtain ⟨b', off, hA, hB, hc⟩ := (Row.sl he h) h0
  cases hA
  exact ⟨_, _, rfl, hlo, hB, h.ty, hc⟩
theorem Row.slT' {α : Type} {sz : Nat} {enc : α → List Value} (he : ∀ x, (enc x).length = sz) {w : World} {lo b : Nat} {t : TypeId} {xs : List α} (h : Row w b t (xs.flatMap enc)) (hlo : lo ≤ b) :
    SlT t sz enc lo w (some ⟨b, 0, none⟩) xs := Row.slT (more := []) he (by simpa using h) hlo

/-- The rest of a list from k on. -/
theorem Sl.tail {α : Type} {sz : Nat} {enc : α → List Value} {w : World} {B b off : Nat} {xs : List α} (h : Sl sz enc w B (some ⟨b, off, none⟩) xs) (k : Nat) : Sl sz enc w B (some ⟨b, off + k * sz, none⟩) (xs.drop k) := fun h0 => by
  rw [List.length_drop] at h0
  obtain ⟨b', off', hA, hB, hc⟩ := h (by omega)
  cases hA
  refine ⟨_, _, rfl, hB, fun i x hx j u hu => ?_⟩
  rw [List.getElem?_drop] at hx
  have := hc _ x hx j u hu
  rw [Nat.add_mul] at this
  rw [← this]
  congr 2
  omega

/-- What xs[k:] reads as, whatever the cut's address is called. -/
theorem Sl.from_ {α : Type} {sz : Nat} {enc : α → List Value} {w : World} {B k : Nat} {A A' : Option Addr} {xs : List α} (h : Sl sz enc w B A xs) (hA : ∀ b off, A = some ⟨b, off, none⟩ → k < xs.length → A' = some ⟨b, off + k * sz, none⟩) : Sl sz enc w B A' (xs.drop k) := fun h0 => by
  have hk : k < xs.length := by rw [List.length_drop] at h0; omega
  obtain ⟨b, off, hb, _⟩ := h (by omega)
  rw [hA b off hb hk]
  subst hb
  exact h.tail k (by rw [List.length_drop]; omega)

/-- A slice of slices: the inner ones' blocks are of another kind. -/
def RowsT {α : Type} (t : TypeId) (sz : Nat) (enc : α → List Value) (lo : Nat) (w : World) (svs : List SV) (xss : List (List α)) : Prop :=
  svs.length = xss.length ∧ ∀ (i : Nat) (s : SV) (xs : List α), svs[i]? = some s → xss[i]? = some xs → s.n = xs.length ∧ xs.length ≤ s.c ∧ s.c ≤ maxLen ∧ SlT t sz enc lo w s.A xs
section
variable {α : Type} {t : TypeId} {sz : Nat} {enc : α → List Value} {lo lo' : Nat} {w w' : World} {svs : List SV} {xss : List (List α)} {S : Nat → Prop}
theorem RowsT.nil : RowsT t sz enc lo w [] [] := ⟨rfl, fun i s xs h _ => by simp at h⟩
theorem RowsT.map (h : RowsT t sz enc lo w svs xss) (hf : ∀ (A : Option Addr) (xs : List α), SlT t sz enc lo w A xs → SlT t sz enc lo' w' A xs) : RowsT t sz enc lo' w' svs xss :=
  ⟨h.1, fun i s xs h1 h2 => by obtain ⟨a, b, c, d⟩ := h.2 i s xs h1 h2; exact ⟨a, b, c, hf _ _ d⟩⟩
theorem RowsT.low (h : RowsT t sz enc lo w svs xss) (hl : lo' ≤ lo) : RowsT t sz enc lo' w svs xss := h.map fun _ _ d => d.low hl
theorem RowsT.on (h : RowsT t sz enc lo w svs xss) (hb : Below w.heap.size w w') : RowsT t sz enc lo w' svs xss := h.map fun _ _ d => d.on hb
theorem RowsT.only (h : RowsT t sz enc lo w svs xss) (k : Only S w w') (hS : ∀ b, S b → b < lo ∨ ∃ u, u ≠ t ∧ TyAt w b u) : RowsT t sz enc lo w' svs xss := h.map fun _ _ d => d.only k hS
theorem RowsT.grown (h : RowsT t sz enc lo w svs xss) {row : Option Nat} (hg : w.grownBy w' row) (hr : ∀ b, row = some b → b < lo ∨ ∃ u, u ≠ t ∧ TyAt w b u) : RowsT t sz enc lo w' svs xss := h.map fun _ _ d => d.grown hg hr
theorem RowsT.snoc (h : RowsT t sz enc lo w svs xss) {s : SV} {xs : List α} (h1 : s.n = xs.length) (h2 : xs.length ≤ s.c) (h3 : s.c ≤ maxLen) (h4 : SlT t sz enc lo w s.A xs) : RowsT t sz enc lo w (svs ++ [s]) (xss ++ [xs]) := by
  refine ⟨by simp [h.1], fun i s' xs' ha hb => ?_⟩
  rw [List.getElem?_append] at ha hb
  rw [← h.1] at hb
  split at ha
  · rename_i hi; rw [if_pos hi] at hb; exact h.2 i s' xs' ha hb
  · rename_i hi
    rw [if_neg hi] at hb
    cases hj : i - svs.length with
    | zero => rw [hj] at ha hb; simp only [List.getElem?_cons_zero, Option.some.injEq] at ha hb; subst ha; subst hb; exact ⟨h1, h2, h3, h4⟩
    | succ j => rw [hj] at ha; simp at ha
theorem RowsT.append (h : RowsT t sz enc lo w svs xss) {svs' : List SV} {xss' : List (List α)} (h' : RowsT t sz enc lo w svs' xss') : RowsT t sz enc lo w (svs ++ svs') (xss ++ xss') := by
  refine ⟨by simp [h.1, h'.1], fun i s' xs' ha hb => ?_⟩
  rw [List.getElem?_append] at ha hb
  rw [← h.1] at hb
  split at ha
  · rename_i hi; rw [if_pos hi] at hb; exact h.2 i s' xs' ha hb
  · rename_i hi; rw [if_neg hi] at hb; exact h'.2 _ s' xs' ha hb
theorem RowsT.take (h : RowsT t sz enc lo w svs xss) (n : Nat) : RowsT t sz enc lo w (svs.take n) (xss.take n) := by
  refine ⟨by simp [h.1], fun i s xs h1 h2 => h.2 i s xs ?_ ?_⟩
  · rw [List.getElem?_take] at h1; split at h1; · exact h1
    · cases h1
  · rw [List.getElem?_take] at h2; split at h2; · exact h2
    · cases h2
theorem RowsT.drop (h : RowsT t sz enc lo w svs xss) (n : Nat) : RowsT t sz enc lo w (svs.drop n) (xss.drop n) := by
  refine ⟨by simp [h.1], fun i s xs h1 h2 => h.2 (n + i) s xs ?_ ?_⟩
  · rwa [List.getElem?_drop] at h1
  · rwa [List.getElem?_drop] at h2
theorem RowsT.set (h : RowsT t sz enc lo w svs xss) {k : Nat} {s : SV} {xs : List α} (h1 : s.n = xs.length) (h2 : xs.length ≤ s.c) (h3 : s.c ≤ maxLen) (h4 : SlT t sz enc lo w s.A xs) : RowsT t sz enc lo w (svs.set k s) (xss.set k xs) := by
  refine ⟨by simp [h.1], fun i s' xs' ha hb => ?_⟩
  rw [List.getElem?_set] at ha hb
  rw [← h.1] at hb
  split at ha
  · rename_i hi
    rw [if_pos hi] at hb
    split at ha
    · rename_i hl; rw [if_pos hl] at hb; cases ha; cases hb; exact ⟨h1, h2, h3, h4⟩
    · cases ha
  · rename_i hi; rw [if_neg hi] at hb; exact h.2 i s' xs' ha hb
end
theorem sls_of {α : Type} {t tO : TypeId} {sz : Nat} {enc : α → List Value} {lo : Nat} {w : World} {A : Option Addr} {svs : List SV} {xss : List (List α)} (h : SlT tO 1 svC lo w A svs) (h' : RowsT t sz enc lo w svs xss) : Sls sz enc w w.heap.size A xss :=
  ⟨svs, h'.1, h.sl, fun i s xs h1 h2 => by obtain ⟨a, b, c, d⟩ := h'.2 i s xs h1 h2; exact ⟨a, b, c, d.sl⟩⟩

theorem sls_of' {α : Type} {t : TypeId} {sz : Nat} {enc : α → List Value} {lo : Nat} {w : World} {A : Option Addr} {svs : List SV} {xss : List (List α)} (h : Sl 1 svC w w.heap.size A svs) (h' : RowsT t sz enc lo w svs xss) : Sls sz enc w w.heap.size A xss :=
  ⟨svs, h'.1, h, fun i s xs h1 h2 => by obtain ⟨a, b, c, d⟩ := h'.2 i s xs h1 h2; exact ⟨a, b, c, d.sl⟩⟩

/-! ### Slices of the call's own that grow -/
/-- The slice value v is the call's own (its block from lo on) and holds xs; there may be room behind them. -/
def Ow {α : Type} (lo : Nat) (e : TypeId) (sz : Nat) (enc : α → List Value) (w : World) (v : Value) (xs : List α) : Prop := w.ownsRow lo e sz v xs.length (xs.flatMap enc)
section
variable {α : Type} {lo lo' : Nat} {e : TypeId} {sz : Nat} {enc : α → List Value} {w w' : World} {v : Value} {xs : List α} {S : Nat → Prop}
theorem Ow.nil : Ow lo e sz enc w (.slice none 0 0) ([] : List α) := World.ownsRow_nil w lo e sz
theorem Ow.shape (he : ∀ x, (enc x).length = sz) (h : Ow lo e sz enc w v xs) : ∃ A c, v = .slice A xs.length c ∧ xs.length ≤ c ∧ c ≤ maxLen ∧ SlT e sz enc lo w A xs := by
  rcases h.2 with ⟨rfl, h0⟩ | ⟨g, cap, cur, rfl, hg, hh, hn, hm, hc, ht⟩
  · exact ⟨none, 0, by rw [h0], by omega, by unfold maxLen; omega, fun h => absurd h (by omega)⟩
  · refine ⟨_, _, rfl, hn, hm, fun h0 => ⟨g, 0, rfl, hg, (Array.getElem?_eq_some_iff.1 hh).1, ⟨_, _, hh⟩, fun i x hx j u hu => ?_⟩⟩
    have h1 := flat_get sz enc he xs i x j u hx hu
    rw [← ht, List.getElem?_take] at h1
    split at h1
    · simp [World.cell?, hh]; simpa using h1
    · cases h1
theorem Ow.low (h : Ow lo e sz enc w v xs) (hl : lo' ≤ lo) : Ow lo' e sz enc w v xs := by
  refine ⟨h.1, ?_⟩
  rcases h.2 with h2 | ⟨g, cap, cur, hv, hg, r⟩
  · exact .inl h2
  · exact .inr ⟨g, cap, cur, hv, by omega, r⟩
theorem Ow.ty (h : Ow lo e sz enc w v xs) : ∀ b, v.ownBlock = some b → lo ≤ b ∧ b < w.heap.size ∧ TyAt w b e := by
  intro b hb
  rcases h.2 with ⟨rfl, _⟩ | ⟨g, cap, cur, rfl, hg, hh, _⟩
  · cases hb
  · cases hb; exact ⟨hg, (Array.getElem?_eq_some_iff.1 hh).1, ⟨_, _, hh⟩⟩
theorem Ow.keep (h : Ow lo e sz enc w v xs) (hk : ∀ b, lo ≤ b → b < w.heap.size → TyAt w b e → w'.heap[b]? = w.heap[b]?) : Ow lo e sz enc w' v xs := by
  refine ⟨h.1, ?_⟩
  rcases h.2 with h2 | ⟨g, cap, cur, hv, hg, hh, r⟩
  · exact .inl h2
  · exact .inr ⟨g, cap, cur, hv, hg, (hk g hg (Array.getElem?_eq_some_iff.1 hh).1 ⟨_, _, hh⟩).trans hh, r⟩
theorem Ow.on (h : Ow lo e sz enc w v xs) (hb : Below w.heap.size w w') : Ow lo e sz enc w' v xs := h.keep fun b _ hl _ => hb.block b hl
theorem Ow.only (h : Ow lo e sz enc w v xs) (k : Only S w w') (hS : ∀ b, S b → b < lo ∨ ∃ u, u ≠ e ∧ TyAt w b u) : Ow lo e sz enc w' v xs :=
  h.keep fun b h1 h2 h3 => k.block b h2 fun hs => by
    rcases hS b hs with h4 | ⟨u, h4, h5⟩
    · omega
    · exact (TyAt.ne h5 h3 h4) rfl
/-- A slice written out: its block is new. -/
theorem Ow.lit {cs : Array Value} (hc : cs.toList = xs.flatMap enc) (hsz : cs.size = xs.length * sz) (hl : lo ≤ w.heap.size) (hm : xs.length ≤ maxLen) : Ow lo e sz enc (w.alloc (.cells cs e)) (.slice (some ⟨w.heap.size, 0, none⟩) xs.length xs.length) xs :=
  ⟨by rw [← hc, Array.length_toList, hsz], .inr ⟨w.heap.size, _, cs, rfl, hl, heap_alloc_new w _, Nat.le_refl _, hm, hsz, by rw [List.take_of_length_le (by rw [Array.length_toList, hsz]; omega), hc]⟩⟩
theorem Ow.nil_of {n c : Nat} (h : Ow lo e sz enc w (.slice none n c) xs) : xs = [] ∧ n = 0 ∧ c = 0 := by
  rcases h.2 with ⟨h1, h2⟩ | ⟨g, cap, cur, hv, _⟩
  · cases h1; exact ⟨List.eq_nil_of_length_eq_zero h2, rfl, rfl⟩
  · cases hv
end

theorem Ow.head {α : Type} {lo : Nat} {e : TypeId} {sz : Nat} {enc : α → List Value} {w : World} {A : Option Addr} {n c : Nat} {xs : List α} (he : ∀ x, (enc x).length = sz) (h : Ow lo e sz enc w (.slice A n c) xs) (h0 : 0 < xs.length) :
    ∃ g, A = some ⟨g, 0, none⟩ ∧ n = xs.length ∧ lo ≤ g ∧ g < w.heap.size ∧ TyAt w g e ∧ (∀ j, w.frozen? ⟨g, j, none⟩ = false) ∧ ∀ j u, (xs.flatMap enc)[j]? = some u → w.cell? ⟨g, j, none⟩ = some u := by
  have h' := h
  rcases h.2 with ⟨h1, h2⟩ | ⟨g, cap, cur, hv, hg, hh, hn, hm, hc, ht⟩
  · omega
  · cases hv
    refine ⟨g, rfl, rfl, hg, (Array.getElem?_eq_some_iff.1 hh).1, ⟨_, _, hh⟩, fun j => h.frozenAt j, fun j u hu => ?_⟩
    rw [World.ownsRow.cellAt h' j (by rw [← flat_length sz enc he]; exact (List.getElem?_eq_some_iff.1 hu).1), hu]
theorem Ow.put {α : Type} {lo : Nat} {e : TypeId} {sz : Nat} {enc : α → List Value} {w : World} {g n c : Nat} {xs : List α} (h : Ow lo e sz enc w (.slice (some ⟨g, 0, none⟩) n c) xs) (j : Nat) (u : Value) :
    w.setCell ⟨g, j, none⟩ u |>.ownsRow lo e sz (.slice (some ⟨g, 0, none⟩) n c) xs.length ((xs.flatMap enc).set j u) := by
  rcases h.2 with ⟨h1, h2⟩ | ⟨g, cap, cur, hv, _⟩
  · cases h1
  · cases hv
    exact (World.ownsRow.stored h j u).1
theorem flat_setV : ∀ (xs : List Val) (j : Nat) (y : Val), j < xs.length → ((xs.flatMap valC).set (j * 2) (.bool y.1)).set (j * 2 + 1) (.int .i64 y.2) = (xs.set j y).flatMap valC
  | [], j, y, h => absurd h (by simp)
  | x :: xs, 0, y, h => by simp [valC]
  | x :: xs, j + 1, y, h => by
    have ih := flat_setV xs j y (by simpa using h)
    rw [show (j + 1) * 2 = j * 2 + 2 by omega]
    simpa [valC] using ih
theorem flat_setS : ∀ (xs : List SV) (j : Nat) (y : SV), j < xs.length → (xs.flatMap svC).set j (.slice y.A y.n y.c) = (xs.set j y).flatMap svC
  | [], j, y, h => absurd h (by simp)
  | x :: xs, 0, y, h => by simp [svC]
  | x :: xs, j + 1, y, h => by
    have ih := flat_setS xs j y (by simpa using h)
    simpa [svC] using ih

/-- A nil slice, whatever its capacity says, adds nothing. -/
theorem run_append_nothing {P : Program} {w : World} (base : Nat) (t ty e : TypeId) (i : TypeInfo) (size : Nat) (ht : P.underlying t = some (.slice e)) (hi : P.info? e = some i)
    (v : Value) (n c : Nat) (xs : List Value) (hown : w.ownsRow base e size v n xs) :
    (Builtin.append_ #[t, t] ty #[v, .slice none 0 c]).run P w = .ok v w := by
  rcases hown.2 with ⟨rfl, rfl⟩ | ⟨g, cap, cur, rfl, _, _, hnc, _⟩
  · simp [Builtin.append_, run_underlying ht, sizeOf, typeInfo, hi, Builtin.lenOf, Builtin.firstCells]
  · simp [Builtin.append_, run_underlying ht, sizeOf, typeInfo, hi, Builtin.lenOf, Builtin.firstCells, hnc, storeCells]

/-- append onto a slice of the call's own. What is appended reads as ys (or is nil). -/
theorem wpList_app {P : Program} {w : World} {ops : Array Oper} {rest : List Oper} {o : Oper} {a : Act} {Q : Exit → Act → World → Prop} (hgd : o.guard = none) (s x : Operand) (t : TypeId)
    (ho : o.op = .call { callee := .builtin .append, args := #[s, x], argTypes := #[t, t] })
    {α : Type} (lo : Nat) (e : TypeId) (z : Value) (sz bytes : Nat) (enc : α → List Value) (ht : P.underlying t = some (.slice e)) (hi : (P.info? e).map (fun i => (i.zero, i.size, i.bytes)) = some (some z, sz, bytes))
    (hzs : z.cells.size = sz) (hsz : 0 < sz) (hby : bytes ≤ 64) (he : ∀ x, (enc x).length = sz) (h1 : ∀ x, ∀ u ∈ enc x, u.oneCell' = true)
    (v : Value) (xs : List α) (hs : a.eval s = v) (hown : Ow lo e sz enc w v xs)
    (A : Option Addr) (m c : Nat) (ys : List α) (hx : a.eval x = .slice A m c) (hm : m = ys.length) (hy : Sl sz enc w w.heap.size A ys)
    (hlen : xs.length + ys.length ≤ 1099511627776) (hlo : lo ≤ w.heap.size)
    (h : ∀ v' w', Ow lo e sz enc w' v' (xs ++ ys) → w.grownBy w' v.ownBlock → wpList P ops Q rest (a.put o.dst v') w') : wpList P ops Q (o :: rest) a w := by
  subst hm
  obtain ⟨i, hi, hz, hsi, hb⟩ := info_parts hi
  cases A with
  | none =>
    have h0 : ys = [] := by
      cases ys with
      | nil => rfl
      | cons y ys => obtain ⟨_, _, hA, _⟩ := hy (by simp); cases hA
    subst h0
    refine wpList_plain hgd fun K hK => ?_
    have hrun := run_append_nothing (P := P) (w := w) lo t o.type e i sz ht hi v _ c _ hown
    unfold Oper.wp
    simp [execOp, ho, resolve, invoke, builtin, hs, hx, hrun, Result.andThen]
    exact hK _ _ (h v w (by simpa using hown) (World.grownBy.refl w _))
  | some ad =>
    refine wpList_append_own w hgd s x t ho lo e i z sz bytes ht hi hz hsi hb hzs hsz v _ _ hs hown ad ys.length c (ys.flatMap enc) hx (flat_length sz enc he ys) ?_ ?_ ?_ ?_ hlo ?_
    · intro j u hu
      have hj : j < ys.length * sz := by rw [← flat_length sz enc he ys]; exact (List.getElem?_eq_some_iff.1 hu).1
      have h0 : 0 < ys.length := Nat.pos_of_ne_zero fun h => by rw [h] at hj; omega
      obtain ⟨b, off, hA, _, hc⟩ := hy h0
      cases hA
      have hdm : j / sz * sz + j % sz = j := by rw [Nat.mul_comm]; exact Nat.div_add_mod j sz
      have hi2 : j / sz < ys.length := (Nat.div_lt_iff_lt_mul hsz).2 hj
      have hxi := List.getElem?_eq_getElem hi2
      have hjm : j % sz < (enc ys[j / sz]).length := by rw [he]; exact Nat.mod_lt _ hsz
      have hu' := flat_get sz enc he ys (j / sz) _ (j % sz) _ hxi (List.getElem?_eq_getElem hjm)
      rw [hdm, hu] at hu'
      cases hu'
      have := hc (j / sz) _ hxi (j % sz) _ (List.getElem?_eq_getElem hjm)
      rw [Nat.add_assoc, hdm] at this
      rwa [Addr.add_lit]
    · intro u hu
      obtain ⟨y, _, hu⟩ := List.mem_flatMap.1 hu
      exact h1 y u hu
    · unfold maxLen; omega
    · exact Nat.le_trans (Nat.mul_le_mul hlen hby) (by omega)
    · intro v' w' h2 h3 _
      exact h v' w' (by unfold Ow; rw [List.length_append, List.flatMap_append]; exact h2) h3
theorem valC_one (x : Val) : ∀ u ∈ valC x, u.oneCell' = true := by intro u hu; simp [valC] at hu; rcases hu with rfl | rfl <;> rfl
theorem svC_one (x : SV) : ∀ u ∈ svC x, u.oneCell' = true := by intro u hu; simp [svC] at hu; subst hu; rfl
def intC (n : Int) : List Value := [.int .i64 n]
theorem intC_length (n : Int) : (intC n).length = 1 := rfl
theorem intC_one (x : Int) : ∀ u ∈ intC x, u.oneCell' = true := by intro u hu; simp [intC] at hu; subst hu; rfl
def byteC (n : Int) : List Value := [.int .u8 n]
theorem byteC_length (n : Int) : (byteC n).length = 1 := rfl
end Go.Qo
