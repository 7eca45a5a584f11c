/-
  A list of pointers to nodes that are still to be worked off. No program in sight.
-/
import Derived.Test.YtcbfbgngkdiijaaHlD
namespace Go.Qo
open Go.RowKit
set_option linter.unusedVariables false
set_option linter.unusedSimpArgs false

def ptC (p : Nat × Nat) : List Value := [.pointer (some ⟨p.1, p.2, none⟩)]
theorem ptC_length (p : Nat × Nat) : (ptC p).length = 1 := rfl
theorem ptC_one (p : Nat × Nat) : ∀ u ∈ ptC p, u.oneCell' = true := by intro u hu; simp [ptC] at hu; subst hu; rfl

/-- What is said of a node that lies at an address. -/
structure Nodes (β : Type) where
  hd : (Nat → Prop) → World → Nat → Nat → β → Prop
  keep : ∀ {S : Nat → Prop} {w w' : World} {b o : Nat} {y : β}, hd S w b o y → b < w.heap.size → w.heap.size ≤ w'.heap.size → (∀ k, S k ∨ k = b → k < w.heap.size → w'.heap[k]? = w.heap[k]?) → hd S w' b o y
  mono : ∀ {S T : Nat → Prop} {w : World} {b o : Nat} {y : β}, hd S w b o y → (∀ k, k < w.heap.size → S k → T k) → hd T w b o y
/-- Of S0 or new; beside the result's box and the list's own block. -/
def Bsd (S0 : Nat → Prop) (r : Nat) (v : Value) : Nat → Prop := fun k => (S0 k ∨ r ≤ k) ∧ k ≠ r ∧ v.ownBlock ≠ some k
section
variable {β : Type} {S0 : Nat → Prop} {N : Nodes β} {te tp : TypeId} {r : Nat} {v v' : Value} {w w' z z' : World} {ps : List (Nat × Nat)} {xs : List β}
/-- Nodes of the call's own that are still to be worked off. -/
def Pend (S0 : Nat → Prop) (N : Nodes β) (te : TypeId) (r : Nat) (v : Value) (w : World) (ps : List (Nat × Nat)) (xs : List β) : Prop :=
  ps.length = xs.length ∧ ∀ (i : Nat) (p : Nat × Nat) (y : β), ps[i]? = some p → xs[i]? = some y → (r < p.1 ∧ ∃ cs, Row w p.1 te cs) ∧ N.hd (Bsd S0 r v) w p.1 p.2 y
theorem Pend.nil : Pend S0 N te r v w [] [] := ⟨rfl, fun i p y h _ => by simp at h⟩
theorem Pend.on (h : Pend S0 N te r v w ps xs) (hb : Below w.heap.size w w') : Pend S0 N te r v w' ps xs :=
  ⟨h.1, fun i p y hp hy => by
    obtain ⟨⟨h1, cs, h2⟩, h3⟩ := h.2 i p y hp hy
    exact ⟨⟨h1, cs, h2.on hb⟩, N.keep h3 h2.lt hb.size fun k _ hl => hb.block k hl⟩⟩
theorem Pend.pop {p : Nat × Nat} {y : β} (h : Pend S0 N te r v w (ps ++ [p]) (xs ++ [y])) (hv : v'.ownBlock = v.ownBlock) :
    Pend S0 N te r v' w ps xs ∧ (r < p.1 ∧ ∃ cs, Row w p.1 te cs) ∧ N.hd (Bsd S0 r v') w p.1 p.2 y := by
  have hl : ps.length = xs.length := by have := h.1; simpa using this
  have e : Bsd S0 r v' = Bsd S0 r v := by unfold Bsd; rw [hv]
  rw [e]
  refine ⟨⟨hl, fun i q u hq hu => ?_⟩, ?_⟩
  · have hi : i < ps.length := (List.getElem?_eq_some_iff.1 hq).1
    rw [e]
    exact h.2 i q u (by rw [List.getElem?_append_left hi]; exact hq) (by rw [List.getElem?_append_left (by omega)]; exact hu)
  · exact h.2 ps.length p y (by simp) (by rw [hl]; simp)
theorem hd_grown {b o : Nat} {y : β} {cs : List Value} (h : N.hd (Bsd S0 r v) w b o y) (hr : Row w b te cs) (htp : ∀ c, v.ownBlock = some c → TyAt w c tp) (hne : te ≠ tp) (hgr : w.grownBy w' v.ownBlock) (hob : v'.ownBlock = v.ownBlock ∨ v'.ownBlock = some w.heap.size) :
    Row w' b te cs ∧ N.hd (Bsd S0 r v') w' b o y := by
  have hb : v.ownBlock ≠ some b := fun e => (TyAt.ne hr.ty (htp b e) hne) rfl
  refine ⟨hr.keep (hgr.block b hr.lt fun e => hb e.symm), ?_⟩
  have h1 : N.hd (fun k => Bsd S0 r v k ∧ k < w.heap.size) w b o y := N.mono h fun k hl hk => ⟨hk, hl⟩
  refine N.mono (N.keep h1 hr.lt hgr.size fun k hk hl => hgr.block k hl fun e => ?_) fun k _ hk => ?_
  · rcases hk with hk | hk
    · exact hk.1.2.2 e.symm
    · rw [hk] at e; exact hb e.symm
  · refine ⟨hk.1.1, hk.1.2.1, ?_⟩
    rcases hob with e | e
    · rw [e]; exact hk.1.2.2
    · rw [e]; intro e'; have := Option.some.inj e'; omega
theorem Pend.snoc {q : Nat × Nat} {u : β} {cs : List Value} (h : Pend S0 N te r v w ps xs) (hq : N.hd (Bsd S0 r v) w q.1 q.2 u) (hr : Row w q.1 te cs) (hlo : r < q.1) (htp : ∀ c, v.ownBlock = some c → TyAt w c tp) (hne : te ≠ tp) (hgr : w.grownBy w' v.ownBlock)
    (hob : v'.ownBlock = v.ownBlock ∨ v'.ownBlock = some w.heap.size) : Pend S0 N te r v' w' (ps ++ [q]) (xs ++ [u]) := by
  refine ⟨by simp [h.1], fun i p y hp hy => ?_⟩
  by_cases hi : i < ps.length
  · rw [List.getElem?_append_left hi] at hp
    rw [List.getElem?_append_left (by have := h.1; omega)] at hy
    obtain ⟨⟨h1, c2, h2⟩, h3⟩ := h.2 i p y hp hy
    have := hd_grown h3 h2 htp hne hgr hob
    exact ⟨⟨h1, c2, this.1⟩, this.2⟩
  · rw [List.getElem?_append_right (by omega)] at hp
    rw [List.getElem?_append_right (by have := h.1; omega)] at hy
    have h0 : i - ps.length = 0 := by
      have := (List.getElem?_eq_some_iff.1 hp).1
      simp at this
      omega
    rw [h0] at hp
    rw [← h.1, h0] at hy
    simp at hp hy
    subst hp hy
    have := hd_grown hq hr htp hne hgr hob
    exact ⟨⟨hlo, cs, this.1⟩, this.2⟩
theorem Pend.turn (h : Pend S0 N te r v z ps xs) (hr : ∀ b cs, Row z b te cs → ∃ cs', Row z' b te cs') (hh : ∀ b o y, b < z.heap.size → N.hd (Bsd S0 r v) z b o y → N.hd (Bsd S0 r v) z' b o y) : Pend S0 N te r v z' ps xs :=
  ⟨h.1, fun i p y hp hy => by
    obtain ⟨⟨h1, cs, h2⟩, h3⟩ := h.2 i p y hp hy
    exact ⟨⟨h1, hr _ _ h2⟩, hh _ _ _ h2.lt h3⟩⟩
end

/-! ### The nodes of expressions -/
def HdE (S : Nat → Prop) (w : World) (b o : Nat) (y : Ex) : Prop := ∃ f, FeAt w b o f ∧ ExT S w f y
theorem FeAt.keepB {w w' : World} {b o : Nat} {f : FE} (h : FeAt w b o f) (hk : w'.heap[b]? = w.heap[b]?) : FeAt w' b o f := by
  obtain ⟨h0, h1, h2, h3, h4⟩ := h
  have hc : ∀ j, w'.cell? ⟨b, j, none⟩ = w.cell? ⟨b, j, none⟩ := fun j => World.cell?_of_block (a := ⟨b, j, none⟩) hk
  exact ⟨(hc _).trans h0, (hc _).trans h1, (hc _).trans h2, (hc _).trans h3, (hc _).trans h4⟩
theorem FpAt.keepB {w w' : World} {b o : Nat} {f : FP} (h : FpAt w b o f) (hk : w'.heap[b]? = w.heap[b]?) : FpAt w' b o f := by
  obtain ⟨h0, h1, h2, h3, h4⟩ := h
  have hc : ∀ j, w'.cell? ⟨b, j, none⟩ = w.cell? ⟨b, j, none⟩ := fun j => World.cell?_of_block (a := ⟨b, j, none⟩) hk
  exact ⟨(hc _).trans h0, (hc _).trans h1, (hc _).trans h2, (hc _).trans h3, (hc _).trans h4⟩
def nodE : Nodes Ex where
  hd := HdE
  keep := fun h hb hs hk => by
    obtain ⟨f, h1, h2⟩ := h
    exact ⟨f, h1.keepB (hk _ (.inr rfl) hb), h2.keep hs fun k hS hl => hk k (.inl hS) hl⟩
  mono := fun h hm => by
    obtain ⟨f, h1, h2⟩ := h
    exact ⟨f, h1, h2.mono hm⟩
def HdP (S : Nat → Prop) (w : World) (b o : Nat) (y : Pl) : Prop := ∃ f, FpAt w b o f ∧ PlT S w f y
def nodP : Nodes Pl where
  hd := HdP
  keep := fun h hb hs hk => by
    obtain ⟨f, h1, h2⟩ := h
    exact ⟨f, h1.keepB (hk _ (.inr rfl) hb), h2.keep hs fun k hS hl => hk k (.inl hS) hl⟩
  mono := fun h hm => by
    obtain ⟨f, h1, h2⟩ := h
    exact ⟨f, h1, h2.mono hm⟩
theorem feAt_sl {w : World} {b o : Nat} {f : FE} (h : FeAt w b o f) (hb : b < w.heap.size) : SlS (fun _ => True) 5 feC w (some ⟨b, o, none⟩) [f] := fun _ => ⟨b, o, rfl, trivial, hb, fun i x hx j u hu => by
  cases i with
  | succ i => simp at hx
  | zero =>
    simp at hx
    subst hx
    obtain ⟨h0, h1, h2, h3, h4⟩ := h
    have hj : j = 0 ∨ j = 1 ∨ j = 2 ∨ j = 3 ∨ j = 4 := by have := (List.getElem?_eq_some_iff.1 hu).1; rw [feC_length] at this; omega
    rcases hj with rfl | rfl | rfl | rfl | rfl <;> simp [feC] at hu <;> subst hu <;> simpa using by assumption⟩
theorem feAt_of_sl {w : World} {b o : Nat} {f : FE} (h : SlS (fun _ => True) 5 feC w (some ⟨b, o, none⟩) [f]) : FeAt w b o f := by
  obtain ⟨b', o', hA, _, _, hc⟩ := h (by simp)
  cases hA
  have h1 := hc 0 f rfl
  exact ⟨by simpa using h1 0 _ rfl, by simpa using h1 1 _ rfl, by simpa using h1 2 _ rfl, by simpa using h1 3 _ rfl, by simpa using h1 4 _ rfl⟩
theorem fpAt_sl {w : World} {b o : Nat} {f : FP} (h : FpAt w b o f) (hb : b < w.heap.size) : SlS (fun _ => True) 5 fpC w (some ⟨b, o, none⟩) [f] := fun _ => ⟨b, o, rfl, trivial, hb, fun i x hx j u hu => by
  cases i with
  | succ i => simp at hx
  | zero =>
    simp at hx
    subst hx
    obtain ⟨h0, h1, h2, h3, h4⟩ := h
    have hj : j = 0 ∨ j = 1 ∨ j = 2 ∨ j = 3 ∨ j = 4 := by have := (List.getElem?_eq_some_iff.1 hu).1; rw [fpC_length] at this; omega
    rcases hj with rfl | rfl | rfl | rfl | rfl <;> simp [fpC] at hu <;> subst hu <;> simpa using by assumption⟩
theorem fpAt_of_sl {w : World} {b o : Nat} {f : FP} (h : SlS (fun _ => True) 5 fpC w (some ⟨b, o, none⟩) [f]) : FpAt w b o f := by
  obtain ⟨b', o', hA, _, _, hc⟩ := h (by simp)
  cases hA
  have h1 := hc 0 f rfl
  exact ⟨by simpa using h1 0 _ rfl, by simpa using h1 1 _ rfl, by simpa using h1 2 _ rfl, by simpa using h1 3 _ rfl, by simpa using h1 4 _ rfl⟩
/-- A node is held through a turn. -/
theorem hdE_turn {S : Nat → Prop} {z z' : World} {f f' : FE} (HT : Turns (fun _ => True) feC z z' f f') (H : Turns S feC z z' f f') (K : ∀ x, ExT S z f x → ExT S z f' x) {b o : Nat} {y : Ex} (hb : b < z.heap.size) (h : HdE S z b o y) : HdE S z' b o y := by
  obtain ⟨g, h1, h2⟩ := h
  obtain ⟨fs', hl, hs, ht⟩ := HT _ _ (feAt_sl h1 hb)
  obtain ⟨g', rfl⟩ : ∃ g', fs' = [g'] := by
    match fs', hl with
    | [g'], _ => exact ⟨g', rfl⟩
  refine ⟨g', feAt_of_sl hs, ?_⟩
  rcases ht 0 g g' rfl rfl with e | ⟨e1, e2⟩
  · rw [e]; exact (exT_turn H K y g h2).1
  · rw [e2]; exact (exT_turn H K y g h2).2 e1
theorem hdP_turn {S : Nat → Prop} {z z' : World} {f f' : FP} (HT : Turns (fun _ => True) fpC z z' f f') (HE : ∀ A es, ExsT S z A es → ExsT S z' A es) (HI : ∀ A cs, SlS S 1 intC z A cs → SlS S 1 intC z' A cs) (H : Turns S fpC z z' f f') (K : ∀ x, PlT S z f x → PlT S z f' x) {b o : Nat} {y : Pl} (hb : b < z.heap.size) (h : HdP S z b o y) : HdP S z' b o y := by
  obtain ⟨g, h1, h2⟩ := h
  obtain ⟨fs', hl, hs, ht⟩ := HT _ _ (fpAt_sl h1 hb)
  obtain ⟨g', rfl⟩ : ∃ g', fs' = [g'] := by
    match fs', hl with
    | [g'], _ => exact ⟨g', rfl⟩
  refine ⟨g', fpAt_of_sl hs, ?_⟩
  rcases ht 0 g g' rfl rfl with e | ⟨e1, e2⟩
  · rw [e]; exact (plT_turn HE HI H K y g h2).1
  · rw [e2]; exact (plT_turn HE HI H K y g h2).2 e1

/-! ### The state of a copier: its result's box, its 'out', its todo list -/
theorem own_same (A : Option Addr) (n m c d : Nat) : (Value.slice A n c).ownBlock = (Value.slice A m d).ownBlock := by cases A <;> rfl
theorem Ow.pop {α : Type} {lo : Nat} {e : TypeId} {sz : Nat} {enc : α → List Value} (he : ∀ x, (enc x).length = sz) {w : World} {A : Option Addr} {n c : Nat} {xs : List α} {x : α} (h : Ow lo e sz enc w (.slice A (n + 1) c) (xs ++ [x])) (hn : n = xs.length) : Ow lo e sz enc w (.slice A n c) xs := by
  subst hn
  refine ⟨flat_length sz enc he xs, ?_⟩
  have h' := h.2
  rw [List.length_append, List.length_singleton] at h'
  rcases h' with ⟨h1, h2⟩ | ⟨g, cap, cur, hv, hg, hh, hn, hm, hc, ht⟩
  · simp at h2
  · obtain ⟨rfl, -, rfl⟩ : A = some ⟨g, 0, none⟩ ∧ xs.length + 1 = xs.length + 1 ∧ c = cap := by simpa using hv
    refine .inr ⟨g, c, cur, rfl, hg, hh, by omega, hm, hc, ?_⟩
    have h3 := congrArg (List.take (xs.length * sz)) ht
    rw [List.take_take, List.flatMap_append, Nat.min_eq_left (by rw [Nat.add_mul]; omega)] at h3
    rw [h3, List.take_append_of_le_length (by rw [flat_length sz enc he xs]; omega), List.take_of_length_le (by rw [flat_length sz enc he xs]; omega)]
structure Tdi {β : Type} (S0 : Nat → Prop) (N : Nodes β) (te tp : TypeId) (zs : List Value) (x : β) (w wr : World) (v : Value) (ps : List (Nat × Nat)) (xs : List β) : Prop where
  own : Ow (w.heap.size + 2) tp 1 ptC wr v ps
  pend : Pend S0 N te w.heap.size v wr ps xs
  outR : ∃ cs, Row wr (w.heap.size + 1) te cs
  out : N.hd (Bsd S0 w.heap.size v) wr (w.heap.size + 1) 0 x
  res : Row wr w.heap.size te zs
  below : Below w.heap.size w wr
section
variable {β : Type} {S0 : Nat → Prop} {N : Nodes β} {te tp : TypeId} {zs : List Value} {x : β} {w wr z z' w' : World} {v v' : Value} {ps : List (Nat × Nat)} {xs : List β}
theorem Tdi.on (h : Tdi S0 N te tp zs x w wr v ps xs) (hb : Below wr.heap.size wr z) : Tdi S0 N te tp zs x w z v ps xs := by
  obtain ⟨cs, hr⟩ := h.outR
  exact ⟨h.own.on hb, h.pend.on hb, ⟨cs, hr.on hb⟩, N.keep h.out hr.lt hb.size fun k _ hl => hb.block k hl, h.res.on hb, bch h.below hb⟩
theorem Tdi.pop {A : Option Addr} {n c : Nat} {p : Nat × Nat} {y : β} (h : Tdi S0 N te tp zs x w wr (.slice A (n + 1) c) (ps ++ [p]) (xs ++ [y])) (hn : n = ps.length) :
    Tdi S0 N te tp zs x w wr (.slice A n c) ps xs ∧ (w.heap.size + 1 ≤ p.1 ∧ ∃ cs, Row wr p.1 te cs) ∧ N.hd (Bsd S0 w.heap.size (.slice A n c)) wr p.1 p.2 y := by
  obtain ⟨h1, h2, h3⟩ := h.pend.pop (own_same A n (n + 1) c c)
  refine ⟨⟨h.own.pop ptC_length hn, h1, h.outR, ?_, h.res, h.below⟩, h2, h3⟩
  have := h.out
  unfold Bsd at this ⊢
  rw [own_same A n (n + 1) c c]
  exact this
theorem Tdi.grown {q : Nat × Nat} {u : β} {cs : List Value} (hne : te ≠ tp) (h : Tdi S0 N te tp zs x w wr v ps xs) (hq : N.hd (Bsd S0 w.heap.size v) wr q.1 q.2 u) (hr : Row wr q.1 te cs) (hlo : w.heap.size + 1 ≤ q.1) (how : Ow (w.heap.size + 2) tp 1 ptC w' v' (ps ++ [q])) (hgr : wr.grownBy w' v.ownBlock)
    (hob : v'.ownBlock = v.ownBlock ∨ v'.ownBlock = some wr.heap.size) : Tdi S0 N te tp zs x w w' v' (ps ++ [q]) (xs ++ [u]) := by
  have htp := fun c hc => (h.own.ty c hc).2.2
  obtain ⟨co, hro⟩ := h.outR
  have ho := hd_grown h.out hro htp hne hgr hob
  refine ⟨how, h.pend.snoc hq hr hlo htp hne hgr hob, ⟨co, ho.1⟩, ho.2, h.res.keep (hgr.block _ h.res.lt fun e => (TyAt.ne h.res.ty (htp _ e.symm) hne) rfl), ?_⟩
  exact ⟨hgr.os.trans h.below.os, hgr.tape.trans h.below.tape, hgr.output.trans h.below.output, Nat.le_trans h.below.size hgr.size, fun k hk => (hgr.block k (by have := h.below.size; omega) fun e => by have := (h.own.ty k e.symm).1; omega).trans (h.below.block k hk)⟩
theorem Tdi.turn {p : Nat} {t : TypeId} (hne : t ≠ tp) (h : Tdi S0 N te tp zs x w z v ps xs) (hp : w.heap.size + 1 ≤ p) (hty : TyAt z p t) (ho : Only (fun k => k = p) z z') (hr : ∀ b cs, Row z b te cs → ∃ cs', Row z' b te cs') (hh : ∀ b o y, b < z.heap.size → N.hd (Bsd S0 w.heap.size v) z b o y → N.hd (Bsd S0 w.heap.size v) z' b o y) : Tdi S0 N te tp zs x w z' v ps xs := by
  obtain ⟨co, hro⟩ := h.outR
  refine ⟨h.own.only ho fun b hb => .inr ⟨t, hne, by subst hb; exact hty⟩, h.pend.turn hr hh, hr _ _ hro, hh _ _ _ hro.lt h.out, h.res.only ho (show ¬ w.heap.size = p by omega), Only.from_ h.below rfl ho fun i (hi : i = p) => by omega⟩
/-- The last of the list. -/
theorem Tdi.last (h : Tdi S0 N te tp zs x w wr v ps xs) (h0 : 0 < ps.length) : ∃ (qs : List (Nat × Nat)) (p : Nat × Nat) (ys : List β) (y : β), ps = qs ++ [p] ∧ xs = ys ++ [y] ∧ qs.length = ys.length := by
  have hl := h.pend.1
  have e1 := List.dropLast_concat_getLast (show ps ≠ [] by rintro rfl; simp at h0)
  have e2 := List.dropLast_concat_getLast (show xs ≠ [] by rintro rfl; rw [hl] at h0; simp at h0)
  exact ⟨ps.dropLast, _, xs.dropLast, _, e1.symm, e2.symm, by rw [List.length_dropLast, List.length_dropLast, hl]⟩
end
theorem butCell_set {z : World} {p q : Nat} {u : Value} : ButCell z (z.setCell ⟨p, q, none⟩ u) p q := by
  refine ⟨by simp [World.setCell], fun b o _ hn => World.cell?_setCell_other _ _ _ _ fun e => hn ?_⟩
  cases e
  exact ⟨rfl, rfl⟩
/-- Rows of one kind stay rows under a store. -/
theorem rows_set {te : TypeId} {z : World} (p q : Nat) (u : Value) (b : Nat) (cs : List Value) (h : Row z b te cs) : ∃ cs', Row (z.setCell ⟨p, q, none⟩ u) b te cs' := by
  by_cases hb : b = p
  · subst hb
    exact ⟨_, h.set q u⟩
  · exact ⟨cs, h.far (p := ⟨p, q, none⟩) hb u⟩
/-- The kids' slice of a node is turned to one that reads alike. -/
theorem Tdi.turnE {S0 : Nat → Prop} {te tp : TypeId} {zs : List Value} {x : Ex} {w z : World} {v : Value} {ps : List (Nat × Nat)} {xs : List Ex} {p o : Nat} {cs : List Value} {f : FE} {y : Ex} {s : SV} (hne : te ≠ tp) (h : Tdi S0 nodE te tp zs x w z v ps xs) (hp : w.heap.size + 1 ≤ p) (hr : Row z p te cs)
    (hf : FeAt z p o f) (hy : ExT (Bsd S0 w.heap.size v) z f y) (hs1 : s.n = f.sv.n) (hs2 : s.n ≤ s.c) (hs3 : s.c ≤ maxLen) (hs : ∀ fs : List FE, fs.length = f.sv.n → SlS (Bsd S0 w.heap.size v) 5 feC z f.sv.A fs → SlS (Bsd S0 w.heap.size v) 5 feC z s.A fs) :
    Tdi S0 nodE te tp zs x w (z.setCell ⟨p, o + 4, none⟩ (.slice s.A s.n s.c)) v ps xs ∧ FeAt (z.setCell ⟨p, o + 4, none⟩ (.slice s.A s.n s.c)) p o ⟨f.kind, f.col, f.val, s⟩ ∧ ExT (Bsd S0 w.heap.size v) (z.setCell ⟨p, o + 4, none⟩ (.slice s.A s.n s.c)) ⟨f.kind, f.col, f.val, s⟩ y := by
  have hbc := butCell_set (z := z) (p := p) (q := o + 4) (u := .slice s.A s.n s.c)
  have hn : (z.setCell ⟨p, o + 4, none⟩ (.slice s.A s.n s.c)).cell? ⟨p, o + 4, none⟩ = some (.slice s.A s.n s.c) := World.cell?_setCell_same _ _ _ hf.2.2.2.2
  have hT : ∀ S : Nat → Prop, Turns S feC z (z.setCell ⟨p, o + 4, none⟩ (.slice s.A s.n s.c)) f ⟨f.kind, f.col, f.val, s⟩ := fun S => turnsE hbc hf hn
  have K : ∀ u, ExT (Bsd S0 w.heap.size v) z f u → ExT (Bsd S0 w.heap.size v) z ⟨f.kind, f.col, f.val, s⟩ u := by
    intro u hu
    obtain ⟨h1, h2, h3⟩ := hu.self
    obtain ⟨h4, h5, h6, fs, h7, h8, h9⟩ := hu.flat
    have hb := hu.bnd.len
    obtain ⟨k', c', v', ks⟩ := u
    simp only [Ex.kind, Ex.col, Ex.val, Ex.kids] at *
    obtain ⟨sA, sn, sc⟩ := s
    rw [h1, h2, h3]
    exact ExT.make ⟨fs, h7, hs fs (by omega) h8, h9⟩ (hs1.trans h4) hs2 hs3 hb
  refine ⟨h.turn hne hp hr.ty (Only.set (S := fun k => k = p) (p := ⟨p, o + 4, none⟩) (Only.refl z) (.inl rfl) _) (fun b cs hb => rows_set p (o + 4) _ b cs hb) fun b o' u hb hu => hdE_turn (hT _) (hT _) K hb hu, ?_, (exT_turn (hT _) K y f hy).2 rfl⟩
  obtain ⟨f0, f1, f2, f3, f4⟩ := hf
  have hk : ∀ j u, j ≠ o + 4 → z.cell? ⟨p, j, none⟩ = some u → (z.setCell ⟨p, o + 4, none⟩ (.slice s.A s.n s.c)).cell? ⟨p, j, none⟩ = some u := fun j u hj hu => (hbc.2 p j hr.lt (by omega)).trans hu
  exact ⟨hk _ _ (by omega) f0, hk _ _ (by omega) f1, hk _ _ (by omega) f2, hk _ _ (by omega) f3, hn⟩
theorem feAt_fun {w : World} {b o : Nat} {f g : FE} (h : FeAt w b o f) (k : FeAt w b o g) : f = g := by
  obtain ⟨h0, h1, h2, h3, h4⟩ := h
  obtain ⟨k0, k1, k2, k3, k4⟩ := k
  rw [h0] at k0
  rw [h1] at k1
  rw [h2] at k2
  rw [h3] at k3
  rw [h4] at k4
  refine feC_inj ?_
  unfold feC
  rw [Option.some.inj k0, Option.some.inj k1, Option.some.inj k2, Option.some.inj k3, Option.some.inj k4]
theorem fpAt_fun {w : World} {b o : Nat} {f g : FP} (h : FpAt w b o f) (k : FpAt w b o g) : f = g := by
  obtain ⟨h0, h1, h2, h3, h4⟩ := h
  obtain ⟨k0, k1, k2, k3, k4⟩ := k
  rw [h0] at k0
  rw [h1] at k1
  rw [h2] at k2
  rw [h3] at k3
  rw [h4] at k4
  refine fpC_inj ?_
  unfold fpC
  rw [Option.some.inj k0, Option.some.inj k1, Option.some.inj k2, Option.some.inj k3, Option.some.inj k4]
/-- A kid's address has been appended to the list. -/
theorem Tdi.kidE {S0 : Nat → Prop} {te tp : TypeId} {zs : List Value} {x : Ex} {w U w' : World} {v v' : Value} {ps : List (Nat × Nat)} {ys : List Ex} {pb po kb nk c' j : Nat} {y : Ex} {f : FE} {cs cs3 : List Value} (hne : te ≠ tp)
    (h : Tdi S0 nodE te tp zs x w U v ps (ys ++ y.kids.take j)) (hf : FeAt U pb po f) (hfs : f.sv = ⟨some ⟨kb, 0, none⟩, nk, c'⟩) (hy : ExT (Bsd S0 w.heap.size v) U f y) (hr : Row U pb te cs) (hkl : w.heap.size + 1 ≤ kb) (hr3 : Row U kb te cs3) (hj : j < y.kids.length)
    (how : Ow (w.heap.size + 2) tp 1 ptC w' v' (ps ++ [(kb, j * 5)])) (hgr : U.grownBy w' v.ownBlock) (hob : v'.ownBlock = v.ownBlock ∨ v'.ownBlock = some U.heap.size) :
    Tdi S0 nodE te tp zs x w w' v' (ps ++ [(kb, j * 5)]) (ys ++ y.kids.take (j + 1)) ∧ FeAt w' pb po f ∧ ExT (Bsd S0 w.heap.size v') w' f y ∧ (∃ cs, Row w' pb te cs) ∧ ∃ cs, Row w' kb te cs := by
  have htp := fun c hc => (h.own.ty c hc).2.2
  obtain ⟨h4, h5, h6, fs, h7, h8, h9⟩ := hy.flat
  rw [hfs] at h8
  have hjf : j < fs.length := by omega
  have hq : nodE.hd (Bsd S0 w.heap.size v) U kb (j * 5) y.kids[j] := by
    obtain ⟨b, o, hA, _, hfe⟩ := feAt_of h8.sl hjf
    cases hA
    exact ⟨fs[j], by simpa using hfe, h9 j _ _ (List.getElem?_eq_getElem hjf) (List.getElem?_eq_getElem hj)⟩
  obtain ⟨k1, g, k2, k3⟩ := hd_grown (N := nodE) (b := pb) (o := po) (y := y) ⟨f, hf, hy⟩ hr htp hne hgr hob
  have e := feAt_fun (hf.keepB (hgr.block pb hr.lt fun e => (TyAt.ne hr.ty (htp pb e.symm) hne) rfl)) k2
  subst e
  refine ⟨?_, k2, k3, ⟨_, k1⟩, ⟨_, (hd_grown hq hr3 htp hne hgr hob).1⟩⟩
  rw [List.take_succ_eq_append_getElem hj, ← List.append_assoc]
  exact h.grown hne hq hr3 hkl how hgr hob
end Go.Qo
