/-
  Trees stay held while one slice in memory is turned to another that reads alike. No program in sight.
-/
import Derived.Test.YtcbfbgngkdiijaaExT
import Derived.Test.YtcbfbgngkdiijaaNds
namespace Go.Qo
open Go.RowKit
set_option linter.unusedVariables false
set_option linter.unusedSimpArgs false

theorem ExIn.open_ {w : World} {B : Nat} {f : FE} {e : Ex} (h : ExIn w B f e) : f.kind = e.kind ∧ f.col = e.col ∧ f.val = e.val ∧ f.sv.n = e.kids.length ∧ f.sv.n ≤ f.sv.c ∧ f.sv.c ≤ maxLen ∧
    ∃ fs : List FE, fs.length = e.kids.length ∧ Sl 5 feC w B f.sv.A fs ∧ ∀ (i : Nat) (g : FE) (x : Ex), fs[i]? = some g → e.kids[i]? = some x → ExIn w B g x := by
  obtain ⟨n, h⟩ := h
  cases n with
  | zero => exact h.elim
  | succ n =>
    obtain ⟨h1, h2, h3, h4, h5, h6, fs, h7, h8, h9⟩ := h
    exact ⟨h1, h2, h3, h4, h5, h6, fs, h7, h8, fun i g x hg hx => ⟨n, h9 i g x hg hx⟩⟩
theorem Sl.slS {α : Type} {sz : Nat} {enc : α → List Value} {w : World} {B : Nat} {A : Option Addr} {xs : List α} (h : Sl sz enc w B A xs) (hB : B ≤ w.heap.size) : SlS (fun k => k < B) sz enc w A xs := fun h0 => by
  obtain ⟨b, off, hA, hb, hc⟩ := h h0
  exact ⟨b, off, hA, hb, by omega, hc⟩
/-- A tree of few nodes, held below B. -/
theorem exT_of_in {w : World} {B : Nat} (hB : B ≤ w.heap.size) : ∀ (x : Ex) (f : FE), ExIn w B f x → exN x ≤ 1048576 → ExT (fun k => k < B) w f x := by
  intro x
  induction x using Ex.ind with
  | h x ih =>
    intro f h hn
    obtain ⟨h1, h2, h3, h4, h5, h6, fs, h7, h8, h9⟩ := h.open_
    rw [exN_eq] at hn
    have hl := exsN_len x.kids
    obtain ⟨k, c, v, ⟨A, n, cp⟩⟩ := f
    obtain ⟨k', c', v', ks⟩ := x
    simp only [Ex.kind, Ex.col, Ex.val, Ex.kids] at *
    subst h1 h2 h3
    refine ExT.make ⟨fs, h7, h8.slS hB, fun i g y hg hy => ih y (List.mem_of_getElem? hy) g (h9 i g y hg hy) ?_⟩ h4 h5 h6 (by omega)
    have := exsN_mem (List.mem_of_getElem? hy)
    omega
theorem exsT_of_in {w : World} {B : Nat} (hB : B ≤ w.heap.size) {A : Option Addr} {es : List Ex} (h : ExsIn w B A es) (hn : exsN es ≤ 1048576) : ExsT (fun k => k < B) w A es := by
  obtain ⟨fs, h1, h2, h3⟩ := h
  refine ⟨fs, h1, h2.slS hB, fun i g y hg hy => exT_of_in hB y g (h3 i g y hg hy) ?_⟩
  have := exsN_mem (List.mem_of_getElem? hy)
  omega

/-- A list of elements in one world is, in the next, the same but that f has become f'. -/
def Turns {α : Type} (S : Nat → Prop) (enc : α → List Value) (z z' : World) (f f' : α) : Prop :=
  ∀ (A : Option Addr) (fs : List α), SlS S 5 enc z A fs → ∃ fs', fs'.length = fs.length ∧ SlS S 5 enc z' A fs' ∧ ∀ (i : Nat) (g g' : α), fs[i]? = some g → fs'[i]? = some g' → g' = g ∨ (g = f ∧ g' = f')

theorem exT_turn {S : Nat → Prop} {z z' : World} {f f' : FE} (H : Turns S feC z z' f f') (K : ∀ x, ExT S z f x → ExT S z f' x) : ∀ (x : Ex) (g : FE), ExT S z g x → ExT S z' g x ∧ (g = f → ExT S z' f' x) := by
  intro x
  induction x using Ex.ind with
  | h x ih =>
    have key : ∀ g, ExT S z g x → ExT S z' g x := by
      intro g hg
      obtain ⟨h1, h2, h3⟩ := hg.self
      obtain ⟨h4, h5, h6, fs, h7, h8, h9⟩ := hg.flat
      have hb := hg.bnd.len
      obtain ⟨fs', hl, hs, ht⟩ := H _ _ h8
      obtain ⟨k, c, v, ⟨A, n, cp⟩⟩ := g
      obtain ⟨k', c', v', ks⟩ := x
      simp only [Ex.kind, Ex.col, Ex.val, Ex.kids] at *
      subst h1 h2 h3
      refine ExT.make ⟨fs', hl.trans h7, hs, fun i u y hu hy => ?_⟩ h4 h5 h6 hb
      have hi : i < fs.length := by have := (List.getElem?_eq_some_iff.1 hu).1; omega
      have hm := List.mem_of_getElem? hy
      have h10 := h9 i _ y (List.getElem?_eq_getElem hi) hy
      rcases ht i _ u (List.getElem?_eq_getElem hi) hu with e | ⟨e1, e2⟩
      · rw [e]; exact (ih y hm _ h10).1
      · rw [e2]; exact (ih y hm _ h10).2 e1
    exact fun g hg => ⟨key g hg, fun e => key f' (K x (e ▸ hg))⟩
theorem exsT_turn {S : Nat → Prop} {z z' : World} {f f' : FE} (H : Turns S feC z z' f f') (K : ∀ x, ExT S z f x → ExT S z f' x) {A : Option Addr} {es : List Ex} (h : ExsT S z A es) : ExsT S z' A es := by
  obtain ⟨fs, h1, h2, h3⟩ := h
  obtain ⟨fs', hl, hs, ht⟩ := H _ _ h2
  refine ⟨fs', hl.trans h1, hs, fun i u y hu hy => ?_⟩
  have hi : i < fs.length := by have := (List.getElem?_eq_some_iff.1 hu).1; omega
  have h10 := h3 i _ y (List.getElem?_eq_getElem hi) hy
  rcases ht i _ u (List.getElem?_eq_getElem hi) hu with e | ⟨e1, e2⟩
  · rw [e]; exact (exT_turn H K y _ h10).1
  · rw [e2]; exact (exT_turn H K y _ h10).2 e1
theorem plT_turn {S : Nat → Prop} {z z' : World} {f f' : FP} (HE : ∀ A es, ExsT S z A es → ExsT S z' A es) (HI : ∀ A cs, SlS S 1 intC z A cs → SlS S 1 intC z' A cs) (H : Turns S fpC z z' f f') (K : ∀ x, PlT S z f x → PlT S z f' x) :
    ∀ (x : Pl) (g : FP), PlT S z g x → PlT S z' g x ∧ (g = f → PlT S z' f' x) := by
  intro x
  induction x using Pl.ind with
  | h x ih =>
    have key : ∀ g, PlT S z g x → PlT S z' g x := by
      intro g hg
      obtain ⟨h1, h2, h3, h4, h5, h6, h7, fs, h8, h9, h10⟩ := hg.flat
      have hb := hg.bnd.all.1
      obtain ⟨fs', hl, hs, ht⟩ := H _ _ h9
      obtain ⟨k, t, es, cs, ks⟩ := g
      obtain ⟨k', t', xs, cols, ps⟩ := x
      simp only [Pl.kind, Pl.table, Pl.exprs, Pl.cols, Pl.kids] at *
      subst h1 h2
      refine PlT.make h3 h4 h5 (HE _ _ h6) (HI _ _ h7) ⟨fs', hl.trans h8, hs, fun i u y hu hy => ?_⟩ hb.1 hb.2.1 hb.2.2
      have hi : i < fs.length := by have := (List.getElem?_eq_some_iff.1 hu).1; omega
      have hm := List.mem_of_getElem? hy
      have h11 := h10 i _ y (List.getElem?_eq_getElem hi) hy
      rcases ht i _ u (List.getElem?_eq_getElem hi) hu with e | ⟨e1, e2⟩
      · rw [e]; exact (ih y hm _ h11).1
      · rw [e2]; exact (ih y hm _ h11).2 e1
    exact fun g hg => ⟨key g hg, fun e => key f' (K x (e ▸ hg))⟩

theorem feC_inj {f g : FE} (h : feC f = feC g) : f = g := by
  obtain ⟨k, c, ⟨v1, v2⟩, ⟨A, n, cp⟩⟩ := f
  obtain ⟨k', c', ⟨v1', v2'⟩, ⟨A', n', cp'⟩⟩ := g
  simp [feC] at h
  obtain ⟨rfl, rfl, rfl, rfl, rfl, rfl, rfl⟩ := h
  rfl
/-- One list of cells reads as one list of elements. -/
theorem sl_one {α : Type} {sz : Nat} {enc : α → List Value} {z : World} {B : Nat} {A : Option Addr} (hi : ∀ x y, enc x = enc y → x = y) (hl : ∀ x, (enc x).length = sz) {fs gs : List α} (hlen : fs.length = gs.length) (h : Sl sz enc z B A fs) (k : Sl sz enc z B A gs) : fs = gs := by
  refine List.ext_getElem? fun i => ?_
  by_cases hb : i < fs.length
  · obtain ⟨b, o, hA, _, hc⟩ := h.at_ hb
    obtain ⟨b', o', hA', _, hc'⟩ := k.at_ (by omega : i < gs.length)
    rw [hA] at hA'
    cases hA'
    have : enc fs[i] = enc gs[i] := by
      refine List.ext_getElem? fun j => ?_
      by_cases hj : j < sz
      · have e1 := List.getElem?_eq_getElem (show j < (enc fs[i]).length by rw [hl]; exact hj)
        have e2 := List.getElem?_eq_getElem (show j < (enc gs[i]).length by rw [hl]; exact hj)
        have h1 := hc j _ e1
        have h2 := hc' j _ e2
        rw [h1] at h2
        rw [e1, e2, h2]
      · rw [List.getElem?_eq_none (by rw [hl]; omega), List.getElem?_eq_none (by rw [hl]; omega)]
    rw [List.getElem?_eq_getElem hb, List.getElem?_eq_getElem (by omega : i < gs.length), hi _ _ this]
  · rw [List.getElem?_eq_none (by omega), List.getElem?_eq_none (by omega)]
/-- Cells hold one tree. -/
theorem exIn_fun {z : World} {B : Nat} : ∀ (x y : Ex) (f : FE), ExIn z B f x → ExIn z B f y → x = y := by
  intro x
  induction x using Ex.ind with
  | h x ih =>
    intro y f hx hy
    obtain ⟨h1, h2, h3, h4, _, _, fs, h7, h8, h9⟩ := hx.open_
    obtain ⟨k1, k2, k3, k4, _, _, gs, k7, k8, k9⟩ := hy.open_
    have e := sl_one (fun _ _ => feC_inj) feC_length (by omega) h8 k8
    subst e
    have hk : x.kids = y.kids := by
      refine List.ext_getElem? fun i => ?_
      by_cases hi : i < fs.length
      · have ex := List.getElem?_eq_getElem (show i < x.kids.length by omega)
        have ey := List.getElem?_eq_getElem (show i < y.kids.length by omega)
        have ef := List.getElem?_eq_getElem hi
        rw [ex, ey, ih _ (List.mem_of_getElem? ex) _ _ (h9 i _ _ ef ex) (k9 i _ _ ef ey)]
      · rw [List.getElem?_eq_none (by omega), List.getElem?_eq_none (by omega)]
    obtain ⟨a, b, c, d⟩ := x
    obtain ⟨a', b', c', d'⟩ := y
    simp only [Ex.kind, Ex.col, Ex.val, Ex.kids] at *
    rw [← h1, ← h2, ← h3, ← k1, ← k2, ← k3, hk]

/-! ### One cell is turned, in which a slice lies -/
/-- z' is z but for the cell number q of block p. -/
def ButCell (z z' : World) (p q : Nat) : Prop := z.heap.size ≤ z'.heap.size ∧ ∀ b o, b < z.heap.size → ¬ (b = p ∧ o = q) → z'.cell? ⟨b, o, none⟩ = z.cell? ⟨b, o, none⟩
section
variable {S : Nat → Prop} {z z' : World} {p q : Nat}
theorem slI_but (h : ButCell z z' p q) {A0 : Option Addr} {n0 c0 : Nat} (hq : z.cell? ⟨p, q, none⟩ = some (.slice A0 n0 c0)) {A : Option Addr} {cs : List Int} (k : SlS S 1 intC z A cs) : SlS S 1 intC z' A cs := fun h0 => by
  obtain ⟨b, off, hA, hSb, hB, hc⟩ := k h0
  refine ⟨b, off, hA, hSb, Nat.lt_of_lt_of_le hB h.1, fun i x hx j u hu => ?_⟩
  have hz := hc i x hx j u hu
  rw [h.2 _ _ hB fun e => ?_]
  · exact hz
  · rw [e.1, e.2, hq] at hz
    cases j with
    | zero => simp [intC] at hu; subst hu; cases hz
    | succ j => simp [intC] at hu
theorem slE_but (h : ButCell z z' p q) (hq2 : 2 ≤ q) {A0 : Option Addr} {n0 c0 : Nat} (hq : z.cell? ⟨p, q, none⟩ = some (.slice A0 n0 c0)) (hb : ∀ t, z.cell? ⟨p, q - 2, none⟩ ≠ some (.bool t)) {A : Option Addr} {fs : List FE} (k : SlS S 5 feC z A fs) : SlS S 5 feC z' A fs := fun h0 => by
  obtain ⟨b, off, hA, hSb, hB, hc⟩ := k h0
  refine ⟨b, off, hA, hSb, Nat.lt_of_lt_of_le hB h.1, fun i x hx j u hu => ?_⟩
  have hz := hc i x hx j u hu
  rw [h.2 _ _ hB fun e => ?_]
  · exact hz
  · have e1 := e.1
    have e2 := e.2
    subst e1
    rw [e2, hq] at hz
    have h4 : j = 0 ∨ j = 1 ∨ j = 2 ∨ j = 3 ∨ j = 4 := by have := (List.getElem?_eq_some_iff.1 hu).1; rw [feC_length] at this; omega
    rcases h4 with rfl | rfl | rfl | rfl | rfl <;> simp [feC] at hu <;> subst hu
    · cases hz
    · cases hz
    · cases hz
    · cases hz
    · have h2 := hc i x hx 2 _ rfl
      rw [show off + i * 5 + 2 = q - 2 by omega] at h2
      exact hb _ h2
theorem slP_but (h : ButCell z z' p q) (hq2 : 2 ≤ q) {A0 : Option Addr} {n0 c0 : Nat} (hq : z.cell? ⟨p, q, none⟩ = some (.slice A0 n0 c0)) {t : Bool} (hb : z.cell? ⟨p, q - 2, none⟩ = some (.bool t)) {A : Option Addr} {fs : List FP} (k : SlS S 5 fpC z A fs) : SlS S 5 fpC z' A fs := fun h0 => by
  obtain ⟨b, off, hA, hSb, hB, hc⟩ := k h0
  refine ⟨b, off, hA, hSb, Nat.lt_of_lt_of_le hB h.1, fun i x hx j u hu => ?_⟩
  have hz := hc i x hx j u hu
  rw [h.2 _ _ hB fun e => ?_]
  · exact hz
  · have e1 := e.1
    have e2 := e.2
    subst e1
    rw [e2, hq] at hz
    have h4 : j = 0 ∨ j = 1 ∨ j = 2 ∨ j = 3 ∨ j = 4 := by have := (List.getElem?_eq_some_iff.1 hu).1; rw [fpC_length] at this; omega
    rcases h4 with rfl | rfl | rfl | rfl | rfl <;> simp [fpC] at hu <;> subst hu
    · cases hz
    · cases hz
    · have h2 := hc i x hx 0 _ rfl
      rw [show off + i * 5 + 0 = q - 2 by omega, hb] at h2
      cases h2
    · have h2 := hc i x hx 1 _ rfl
      rw [show off + i * 5 + 1 = q - 2 by omega, hb] at h2
      cases h2
    · have h2 := hc i x hx 2 _ rfl
      rw [show off + i * 5 + 2 = q - 2 by omega, hb] at h2
      cases h2
/-- The kids' slice of an expression is turned. -/
theorem turnsE {o : Nat} (h : ButCell z z' p (o + 4)) {f : FE} (hf : FeAt z p o f) {s : SV} (hn : z'.cell? ⟨p, o + 4, none⟩ = some (.slice s.A s.n s.c)) : Turns S feC z z' f ⟨f.kind, f.col, f.val, s⟩ := by
  intro A fs k
  by_cases h0 : 0 < fs.length
  · obtain ⟨b, off, hA, hSb, hB, hc⟩ := k h0
    refine ⟨fs.mapIdx fun i g => if b = p ∧ off + i * 5 = o then ⟨f.kind, f.col, f.val, s⟩ else g, by simp, fun _ => ⟨b, off, hA, hSb, Nat.lt_of_lt_of_le hB h.1, fun i x hx j u hu => ?_⟩, fun i g g' hg hg' => ?_⟩
    · rw [List.getElem?_mapIdx] at hx
      obtain ⟨g, hg, hx2⟩ := Option.map_eq_some_iff.1 hx
      clear hx
      obtain ⟨f0, f1, f2, f3, f4⟩ := hf
      by_cases hat : b = p ∧ off + i * 5 = o
      · rw [if_pos hat] at hx2
        obtain ⟨rfl, rfl⟩ := hat
        subst hx2
        have h4 : j = 0 ∨ j = 1 ∨ j = 2 ∨ j = 3 ∨ j = 4 := by have := (List.getElem?_eq_some_iff.1 hu).1; rw [feC_length] at this; omega
        rcases h4 with rfl | rfl | rfl | rfl | rfl <;> simp [feC] at hu <;> subst hu
        · exact (h.2 _ _ hB (by omega)).trans f0
        · exact (h.2 _ _ hB (by omega)).trans f1
        · exact (h.2 _ _ hB (by omega)).trans f2
        · exact (h.2 _ _ hB (by omega)).trans f3
        · exact hn
      · rw [if_neg hat] at hx2
        subst hx2
        have hz := hc i g hg j u hu
        rw [h.2 _ _ hB fun e => ?_]
        · exact hz
        · have e1 := e.1
          have e2 := e.2
          subst e1
          rw [e2, f4] at hz
          have h4 : j = 0 ∨ j = 1 ∨ j = 2 ∨ j = 3 ∨ j = 4 := by have := (List.getElem?_eq_some_iff.1 hu).1; rw [feC_length] at this; omega
          rcases h4 with rfl | rfl | rfl | rfl | rfl <;> simp [feC] at hu <;> subst hu
          · cases hz
          · cases hz
          · cases hz
          · cases hz
          · exact hat ⟨rfl, by omega⟩
    · rw [List.getElem?_mapIdx, hg] at hg'
      simp only [Option.map_some, Option.some.injEq] at hg'
      by_cases hat : b = p ∧ off + i * 5 = o
      · rw [if_pos hat] at hg'
        refine .inr ⟨feC_inj ?_, hg'.symm⟩
        obtain ⟨rfl, rfl⟩ := hat
        obtain ⟨f0, f1, f2, f3, f4⟩ := hf
        have g0 := hc i g hg 0 _ rfl
        have g1 := hc i g hg 1 _ rfl
        have g2 := hc i g hg 2 _ rfl
        have g3 := hc i g hg 3 _ rfl
        have g4 := hc i g hg 4 _ rfl
        rw [Nat.add_zero, f0] at g0
        rw [f1] at g1
        rw [f2] at g2
        rw [f3] at g3
        rw [f4] at g4
        unfold feC
        rw [Option.some.inj g0, Option.some.inj g1, Option.some.inj g2, Option.some.inj g3, Option.some.inj g4]
      · rw [if_neg hat] at hg'
        exact .inl hg'.symm
  · have : fs = [] := List.eq_nil_of_length_eq_zero (by omega)
    subst this
    exact ⟨[], rfl, SlS.nil, fun i g g' hg => by simp at hg⟩
theorem fpC_inj {f g : FP} (h : fpC f = fpC g) : f = g := by
  obtain ⟨k, t, ⟨A, n, c⟩, ⟨A1, n1, c1⟩, ⟨A2, n2, c2⟩⟩ := f
  obtain ⟨k', t', ⟨A', n', c'⟩, ⟨A1', n1', c1'⟩, ⟨A2', n2', c2'⟩⟩ := g
  simp [fpC] at h
  obtain ⟨rfl, rfl, ⟨rfl, rfl, rfl⟩, ⟨rfl, rfl, rfl⟩, rfl, rfl, rfl⟩ := h
  rfl
/-- A slice of a plan is turned: number d + 2, d at most 2. -/
theorem turnsP {o d : Nat} (h : ButCell z z' p (o + (d + 2))) (hd : d ≤ 2) {f f' : FP} (hf : FpAt z p o f) (hs : ∀ j, j ≠ d + 2 → (fpC f')[j]? = (fpC f)[j]?) (hn : z'.cell? ⟨p, o + (d + 2), none⟩ = (fpC f')[d + 2]?) : Turns S fpC z z' f f' := by
  have hcell : ∀ j u, (fpC f)[j]? = some u → z.cell? ⟨p, o + j, none⟩ = some u := by
    intro j u hu
    obtain ⟨f0, f1, f2, f3, f4⟩ := hf
    have h4 : j = 0 ∨ j = 1 ∨ j = 2 ∨ j = 3 ∨ j = 4 := by have := (List.getElem?_eq_some_iff.1 hu).1; rw [fpC_length] at this; omega
    rcases h4 with rfl | rfl | rfl | rfl | rfl <;> simp [fpC] at hu <;> subst hu
    · exact f0
    · exact f1
    · exact f2
    · exact f3
    · exact f4
  intro A fs k
  by_cases h0 : 0 < fs.length
  · obtain ⟨b, off, hA, hSb, hB, hc⟩ := k h0
    refine ⟨fs.mapIdx fun i g => if b = p ∧ off + i * 5 = o then f' else g, by simp, fun _ => ⟨b, off, hA, hSb, Nat.lt_of_lt_of_le hB h.1, fun i x hx j u hu => ?_⟩, fun i g g' hg hg' => ?_⟩
    · rw [List.getElem?_mapIdx] at hx
      obtain ⟨g, hg, hx2⟩ := Option.map_eq_some_iff.1 hx
      clear hx
      by_cases hat : b = p ∧ off + i * 5 = o
      · rw [if_pos hat] at hx2
        obtain ⟨rfl, rfl⟩ := hat
        subst hx2
        by_cases hj : j = d + 2
        · subst hj
          rw [hn]
          exact hu
        · rw [hs j hj] at hu
          exact (h.2 _ _ hB (by omega)).trans (hcell j u hu)
      · rw [if_neg hat] at hx2
        subst hx2
        have hz := hc i g hg j u hu
        rw [h.2 _ _ hB fun e => ?_]
        · exact hz
        · have e1 := e.1
          have e2 := e.2
          subst e1
          obtain ⟨f0, f1, f2, f3, f4⟩ := hf
          have g0 := hc i g hg 0 _ rfl
          have g1 := hc i g hg 1 _ rfl
          have g2 := hc i g hg 2 _ rfl
          have hd3 : d = 0 ∨ d = 1 ∨ d = 2 := by omega
          have h4 : j = 0 ∨ j = 1 ∨ j = 2 ∨ j = 3 ∨ j = 4 := by have := (List.getElem?_eq_some_iff.1 hu).1; rw [fpC_length] at this; omega
          rw [e2] at hz
          rcases hd3 with rfl | rfl | rfl <;> rcases h4 with rfl | rfl | rfl | rfl | rfl <;> simp [fpC] at hu <;> subst hu
          · rw [f2] at hz; cases hz
          · rw [f2] at hz; cases hz
          · exact hat ⟨rfl, by omega⟩
          · rw [show off + i * 5 + 2 = o + 1 by omega, f1] at g2; cases g2
          · rw [show off + i * 5 + 2 = o by omega, f0] at g2; cases g2
          · rw [f3] at hz; cases hz
          · rw [f3] at hz; cases hz
          · rw [show off + i * 5 + 1 = o + 2 by omega, f2] at g1; cases g1
          · exact hat ⟨rfl, by omega⟩
          · rw [show off + i * 5 + 2 = o + 1 by omega, f1] at g2; cases g2
          · rw [f4] at hz; cases hz
          · rw [f4] at hz; cases hz
          · rw [show off + i * 5 + 0 = o + 2 by omega, f2] at g0; cases g0
          · rw [show off + i * 5 + 1 = o + 2 by omega, f2] at g1; cases g1
          · exact hat ⟨rfl, by omega⟩
    · rw [List.getElem?_mapIdx, hg] at hg'
      simp only [Option.map_some, Option.some.injEq] at hg'
      by_cases hat : b = p ∧ off + i * 5 = o
      · rw [if_pos hat] at hg'
        refine .inr ⟨fpC_inj (List.ext_getElem? fun j => ?_), hg'.symm⟩
        obtain ⟨rfl, rfl⟩ := hat
        by_cases hj : j < 5
        · have e1 := List.getElem?_eq_getElem (show j < (fpC g).length from hj)
          have e2 := List.getElem?_eq_getElem (show j < (fpC f).length from hj)
          have h1 := hc i g hg j _ e1
          rw [hcell j _ e2] at h1
          rw [e1, e2, h1]
        · rw [List.getElem?_eq_none (by rw [fpC_length]; omega), List.getElem?_eq_none (by rw [fpC_length]; omega)]
      · rw [if_neg hat] at hg'
        exact .inl hg'.symm
  · have : fs = [] := List.eq_nil_of_length_eq_zero (by omega)
    subst this
    exact ⟨[], rfl, SlS.nil, fun i g g' hg => by simp at hg⟩
end
end Go.Qo
