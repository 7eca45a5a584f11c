import Derived.Test.YtmhlpjfijpomkaaGreatDoorZqGa
import Derived.Test.YtmhlpjfijpomkaaGreatDoorZqPln
import Derived.Test.YtmhlpjfijpomkaaGreatDoorProg
import Derived.Test.YtmhlpjfijpomkaaGreatDoorZqRd
import Derived.Test.YtmhlpjfijpomkaaGreatDoorZqRgG
/-
  Trees whose blocks are known: held in blocks of a kind 'S'. (For what the generators make.) No program in sight.
-/
namespace Go.Qo
open Go.RowKit
set_option linter.unusedVariables false
set_option linter.unusedSimpArgs false

/-- A slice that reads as a list, its block one of S. -/
def SlS {α : Type} (S : Nat → Prop) (sz : Nat) (enc : α → List Value) (w : World) (A : Option Addr) (xs : List α) : Prop :=
  0 < xs.length → ∃ b off, A = some ⟨b, off, none⟩ ∧ S b ∧ b < w.heap.size ∧ ∀ i x, xs[i]? = some x → ∀ j u, (enc x)[j]? = some u → w.cell? ⟨b, off + i * sz + j, none⟩ = some u
section
variable {α : Type} {S T : Nat → Prop} {sz : Nat} {enc : α → List Value} {w w' : World} {A : Option Addr} {xs : List α}
theorem SlS.nil : SlS S sz enc w A [] := fun h => absurd h (by simp)
theorem SlS.sl (h : SlS S sz enc w A xs) : Sl sz enc w w.heap.size A xs := fun h0 => by
  obtain ⟨b, off, hA, _, hB, hc⟩ := h h0
  exact ⟨b, off, hA, hB, hc⟩
theorem SlS.mono (h : SlS S sz enc w A xs) (hST : ∀ b, b < w.heap.size → S b → T b) : SlS T sz enc w A xs := fun h0 => by
  obtain ⟨b, off, hA, hS, hB, hc⟩ := h h0
  exact ⟨b, off, hA, hST b hB hS, hB, hc⟩
theorem SlS.keep (h : SlS S sz enc w A xs) (hs : w.heap.size ≤ w'.heap.size) (hk : ∀ b, S b → b < w.heap.size → w'.heap[b]? = w.heap[b]?) : SlS S sz enc w' A xs := fun h0 => by
  obtain ⟨b, off, hA, hS, hB, hc⟩ := h h0
  exact ⟨b, off, hA, hS, by omega, fun i x hx j u hu => (World.cell?_of_block (w := w) (a := ⟨b, _, none⟩) (hk b hS hB)).trans (hc i x hx j u hu)⟩
theorem SlS.of_ow {lo : Nat} {e : TypeId} {n c : Nat} (he : ∀ x, (enc x).length = sz) (h : Ow lo e sz enc w (.slice A n c) xs) : SlS (fun b => lo ≤ b) sz enc w A xs := fun h0 => by
  obtain ⟨A', c', hv, _, _, hs⟩ := h.shape he
  cases hv
  obtain ⟨b, off, hA, h1, h2, _, h4⟩ := hs h0
  exact ⟨b, off, hA, h1, h2, h4⟩
end
/-- One bound for all of a list. -/
theorem uni {α β : Type} (R : Nat → α → β → Prop) (hm : ∀ n m a b, n ≤ m → R n a b → R m a b) : ∀ (fs : List α) (es : List β), (∀ (i : Nat) (g : α) (x : β), fs[i]? = some g → es[i]? = some x → ∃ n, R n g x) → ∃ n, ∀ (i : Nat) (g : α) (x : β), fs[i]? = some g → es[i]? = some x → R n g x
  | [], _, _ => ⟨0, fun i g x h _ => by simp at h⟩
  | _ :: _, [], _ => ⟨0, fun i g x _ h => by simp at h⟩
  | f :: fs, e :: es, h => by
    obtain ⟨n, hn⟩ := uni R hm fs es fun i g x hg hx => h (i + 1) g x (by simpa using hg) (by simpa using hx)
    obtain ⟨m, hm'⟩ := h 0 f e rfl rfl
    refine ⟨n + m, fun i g x hg hx => ?_⟩
    cases i with
    | zero =>
      simp at hg hx
      subst hg hx
      exact hm _ _ _ _ (by omega) hm'
    | succ i => exact hm _ _ _ _ (by omega) (hn i g x (by simpa using hg) (by simpa using hx))

def ExS (S : Nat → Prop) (w : World) : Nat → FE → Ex → Prop
  | 0, _, _ => False
  | n + 1, f, e => f.kind = e.kind ∧ f.col = e.col ∧ f.val = e.val ∧ f.sv.n = e.kids.length ∧ f.sv.n ≤ f.sv.c ∧ f.sv.c ≤ maxLen ∧ e.kids.length ≤ 1048576 ∧
      ∃ fs : List FE, fs.length = e.kids.length ∧ SlS S 5 feC w f.sv.A fs ∧ ∀ (i : Nat) (g : FE) (x : Ex), fs[i]? = some g → e.kids[i]? = some x → ExS S w n g x
section
variable {S T : Nat → Prop} {w w' : World}
theorem ExS.more : ∀ (n m : Nat) (f : FE) (e : Ex), n ≤ m → ExS S w n f e → ExS S w m f e
  | 0, _, _, _, _, h => h.elim
  | n + 1, 0, _, _, hm, _ => absurd hm (by omega)
  | n + 1, m + 1, f, e, hm, ⟨h1, h2, h3, h4, h5, h6, hb, fs, h7, h8, h9⟩ => ⟨h1, h2, h3, h4, h5, h6, hb, fs, h7, h8, fun i g x hg hx => ExS.more n m g x (by omega) (h9 i g x hg hx)⟩
theorem ExS.map (hf : ∀ A (fs : List FE), SlS S 5 feC w A fs → SlS T 5 feC w' A fs) : ∀ (n : Nat) (f : FE) (e : Ex), ExS S w n f e → ExS T w' n f e
  | 0, _, _, h => h.elim
  | n + 1, f, e, ⟨h1, h2, h3, h4, h5, h6, hb, fs, h7, h8, h9⟩ => ⟨h1, h2, h3, h4, h5, h6, hb, fs, h7, hf _ _ h8, fun i g x hg hx => ExS.map hf n g x (h9 i g x hg hx)⟩
theorem ExS.at_ : ∀ (n : Nat) (f : FE) (e : Ex), ExS S w n f e → ExAt w w.heap.size n f e
  | 0, _, _, h => h.elim
  | n + 1, f, e, ⟨h1, h2, h3, h4, h5, h6, hb, fs, h7, h8, h9⟩ => ⟨h1, h2, h3, h4, h5, h6, fs, h7, h8.sl, fun i g x hg hx => ExS.at_ n g x (h9 i g x hg hx)⟩
/-- Held in blocks of S, however deep. -/
def ExT (S : Nat → Prop) (w : World) (f : FE) (e : Ex) : Prop := ∃ n, ExS S w n f e
theorem ExT.in_ {f : FE} {e : Ex} (h : ExT S w f e) : ExIn w w.heap.size f e := h.imp fun _ h => h.at_
theorem ExT.mono {f : FE} {e : Ex} (h : ExT S w f e) (hST : ∀ b, b < w.heap.size → S b → T b) : ExT T w f e := h.imp fun _ h => ExS.map (fun _ _ h => h.mono hST) _ _ _ h
theorem ExT.keep {f : FE} {e : Ex} (h : ExT S w f e) (hs : w.heap.size ≤ w'.heap.size) (hk : ∀ b, S b → b < w.heap.size → w'.heap[b]? = w.heap[b]?) : ExT S w' f e := h.imp fun _ h => ExS.map (fun _ _ h => h.keep hs hk) _ _ _ h
/-- A list. -/
def ExsT (S : Nat → Prop) (w : World) (A : Option Addr) (es : List Ex) : Prop :=
  ∃ fs : List FE, fs.length = es.length ∧ SlS S 5 feC w A fs ∧ ∀ (i : Nat) (g : FE) (x : Ex), fs[i]? = some g → es[i]? = some x → ExT S w g x
theorem ExsT.in_ {A : Option Addr} {es : List Ex} (h : ExsT S w A es) : ExsIn w w.heap.size A es := by
  obtain ⟨fs, h1, h2, h3⟩ := h
  exact ⟨fs, h1, h2.sl, fun i g x hg hx => (h3 i g x hg hx).in_⟩
theorem ExsT.mono {A : Option Addr} {es : List Ex} (h : ExsT S w A es) (hST : ∀ b, b < w.heap.size → S b → T b) : ExsT T w A es := by
  obtain ⟨fs, h1, h2, h3⟩ := h
  exact ⟨fs, h1, h2.mono hST, fun i g x hg hx => (h3 i g x hg hx).mono hST⟩
theorem ExsT.keep {A : Option Addr} {es : List Ex} (h : ExsT S w A es) (hs : w.heap.size ≤ w'.heap.size) (hk : ∀ b, S b → b < w.heap.size → w'.heap[b]? = w.heap[b]?) : ExsT S w' A es := by
  obtain ⟨fs, h1, h2, h3⟩ := h
  exact ⟨fs, h1, h2.keep hs hk, fun i g x hg hx => (h3 i g x hg hx).keep hs hk⟩
theorem ExsT.nil {A : Option Addr} : ExsT S w A [] := ⟨[], rfl, SlS.nil, fun i g x h _ => by simp at h⟩
/-- An expression from its kids. -/
theorem ExT.make {k c : Int} {v : Val} {A : Option Addr} {n cap : Nat} {es : List Ex} (h : ExsT S w A es) (hn : n = es.length) (h1 : n ≤ cap) (h2 : cap ≤ maxLen) (h3 : es.length ≤ 1048576 := by first | decide | simp | omega) : ExT S w ⟨k, c, v, ⟨A, n, cap⟩⟩ (.mk k c v es) := by
  obtain ⟨fs, e1, e2, e3⟩ := h
  obtain ⟨m, hm⟩ := uni (ExS S w) (fun n m f e => ExS.more n m f e) fs es fun i g x hg hx => e3 i g x hg hx
  exact ⟨m + 1, rfl, rfl, rfl, hn, h1, h2, h3, fs, e1, e2, hm⟩
theorem ExT.leaf {k c : Int} {v : Val} : ExT S w ⟨k, c, v, ⟨none, 0, 0⟩⟩ (.mk k c v []) := ExT.make ExsT.nil rfl (Nat.le_refl _) (by decide)
/-- Other flat cells, the same kids. -/
theorem ExT.flat {f : FE} {e : Ex} (h : ExT S w f e) : f.sv.n = e.kids.length ∧ f.sv.n ≤ f.sv.c ∧ f.sv.c ≤ maxLen ∧ ExsT S w f.sv.A e.kids := by
  obtain ⟨n, h⟩ := h
  cases n with
  | zero => exact h.elim
  | succ n =>
    obtain ⟨h1, h2, h3, h4, h5, h6, hb, fs, h7, h8, h9⟩ := h
    exact ⟨h4, h5, h6, fs, h7, h8, fun i g x hg hx => ⟨n, h9 i g x hg hx⟩⟩
end

def PlS (S : Nat → Prop) (w : World) : Nat → FP → Pl → Prop
  | 0, _, _ => False
  | n + 1, f, p => f.kind = p.kind ∧ f.table = p.table ∧ SVok f.es p.exprs.length ∧ SVok f.cs p.cols.length ∧ SVok f.ks p.kids.length ∧ ExsT S w f.es.A p.exprs ∧ SlS S 1 intC w f.cs.A p.cols ∧ (p.exprs.length ≤ 1048576 ∧ p.cols.length ≤ 1048576 ∧ p.kids.length ≤ 1048576) ∧
      ∃ fs : List FP, fs.length = p.kids.length ∧ SlS S 5 fpC w f.ks.A fs ∧ ∀ (i : Nat) (g : FP) (x : Pl), fs[i]? = some g → p.kids[i]? = some x → PlS S w n g x
section
variable {S T : Nat → Prop} {w w' : World}
theorem PlS.more : ∀ (n m : Nat) (f : FP) (p : Pl), n ≤ m → PlS S w n f p → PlS S w m f p
  | 0, _, _, _, _, h => h.elim
  | n + 1, 0, _, _, hm, _ => absurd hm (by omega)
  | n + 1, m + 1, f, p, hm, ⟨h1, h2, h3, h4, h5, h6, h7, hb, fs, h8, h9, h10⟩ => ⟨h1, h2, h3, h4, h5, h6, h7, hb, fs, h8, h9, fun i g x hg hx => PlS.more n m g x (by omega) (h10 i g x hg hx)⟩
theorem PlS.map (hs : ∀ A (es : List Ex), ExsT S w A es → ExsT T w' A es) (hi : ∀ A (cs : List Int), SlS S 1 intC w A cs → SlS T 1 intC w' A cs) (hf : ∀ A (fs : List FP), SlS S 5 fpC w A fs → SlS T 5 fpC w' A fs) : ∀ (n : Nat) (f : FP) (p : Pl), PlS S w n f p → PlS T w' n f p
  | 0, _, _, h => h.elim
  | n + 1, f, p, ⟨h1, h2, h3, h4, h5, h6, h7, hb, fs, h8, h9, h10⟩ => ⟨h1, h2, h3, h4, h5, hs _ _ h6, hi _ _ h7, hb, fs, h8, hf _ _ h9, fun i g x hg hx => PlS.map hs hi hf n g x (h10 i g x hg hx)⟩
theorem PlS.at_ : ∀ (n : Nat) (f : FP) (p : Pl), PlS S w n f p → PlAt w w.heap.size n f p
  | 0, _, _, h => h.elim
  | n + 1, f, p, ⟨h1, h2, h3, h4, h5, h6, h7, hb, fs, h8, h9, h10⟩ => ⟨h1, h2, h3, h4, h5, h6.in_, h7.sl, fs, h8, h9.sl, fun i g x hg hx => PlS.at_ n g x (h10 i g x hg hx)⟩
def PlT (S : Nat → Prop) (w : World) (f : FP) (p : Pl) : Prop := ∃ n, PlS S w n f p
theorem PlT.in_ {f : FP} {p : Pl} (h : PlT S w f p) : PlIn w w.heap.size f p := h.imp fun _ h => h.at_
theorem PlT.mono {f : FP} {p : Pl} (h : PlT S w f p) (hST : ∀ b, b < w.heap.size → S b → T b) : PlT T w f p := h.imp fun _ h => PlS.map (fun _ _ h => h.mono hST) (fun _ _ h => h.mono hST) (fun _ _ h => h.mono hST) _ _ _ h
theorem PlT.keep {f : FP} {p : Pl} (h : PlT S w f p) (hs : w.heap.size ≤ w'.heap.size) (hk : ∀ b, S b → b < w.heap.size → w'.heap[b]? = w.heap[b]?) : PlT S w' f p := h.imp fun _ h => PlS.map (fun _ _ h => h.keep hs hk) (fun _ _ h => h.keep hs hk) (fun _ _ h => h.keep hs hk) _ _ _ h
def PlsT (S : Nat → Prop) (w : World) (A : Option Addr) (ps : List Pl) : Prop :=
  ∃ fs : List FP, fs.length = ps.length ∧ SlS S 5 fpC w A fs ∧ ∀ (i : Nat) (g : FP) (x : Pl), fs[i]? = some g → ps[i]? = some x → PlT S w g x
theorem PlsT.nil {A : Option Addr} : PlsT S w A [] := ⟨[], rfl, SlS.nil, fun i g x h _ => by simp at h⟩
theorem PlT.make {k t : Int} {es cs ks : SV} {xs : List Ex} {cols : List Int} {ps : List Pl} (h1 : SVok es xs.length) (h2 : SVok cs cols.length) (h3 : SVok ks ps.length) (h4 : ExsT S w es.A xs) (h5 : SlS S 1 intC w cs.A cols) (h6 : PlsT S w ks.A ps) (h7 : xs.length ≤ 1048576 := by first | decide | simp | omega) (h8 : cols.length ≤ 1048576 := by first | decide | simp | omega) (h9 : ps.length ≤ 1048576 := by first | decide | simp | omega) :
    PlT S w ⟨k, t, es, cs, ks⟩ (.mk k t xs cols ps) := by
  obtain ⟨fs, e1, e2, e3⟩ := h6
  obtain ⟨m, hm⟩ := uni (PlS S w) (fun n m f e => PlS.more n m f e) fs ps fun i g x hg hx => e3 i g x hg hx
  exact ⟨m + 1, rfl, rfl, h1, h2, h3, h4, h5, ⟨h7, h8, h9⟩, fs, e1, e2, hm⟩
theorem PlT.flat {f : FP} {p : Pl} (h : PlT S w f p) : f.kind = p.kind ∧ f.table = p.table ∧ SVok f.es p.exprs.length ∧ SVok f.cs p.cols.length ∧ SVok f.ks p.kids.length ∧ ExsT S w f.es.A p.exprs ∧ SlS S 1 intC w f.cs.A p.cols ∧ PlsT S w f.ks.A p.kids := by
  obtain ⟨n, h⟩ := h
  cases n with
  | zero => exact h.elim
  | succ n =>
    obtain ⟨h1, h2, h3, h4, h5, h6, h7, hb, fs, h8, h9, h10⟩ := h
    exact ⟨h1, h2, h3, h4, h5, h6, h7, fs, h8, h9, fun i g x hg hx => ⟨n, h10 i g x hg hx⟩⟩
theorem SVok.nil : SVok ⟨none, 0, 0⟩ 0 := ⟨rfl, Nat.le_refl _, by decide⟩
theorem SVok.lit {A : Option Addr} {n : Nat} (h : n ≤ maxLen) : SVok ⟨A, n, n⟩ n := ⟨rfl, Nat.le_refl _, h⟩
end
theorem feC_one (f : FE) : ∀ u ∈ feC f, u.oneCell' = true := by intro u hu; simp [feC] at hu; rcases hu with rfl | rfl | rfl | rfl | rfl <;> rfl
theorem fpC_one (f : FP) : ∀ u ∈ fpC f, u.oneCell' = true := by intro u hu; simp [fpC] at hu; rcases hu with rfl | rfl | rfl | rfl | rfl <;> rfl

/-- Trees all of whose lists are short. -/
inductive ExB : Ex → Prop where
  | mk {e : Ex} (h : e.kids.length ≤ 1048576) (hk : ∀ x, x ∈ e.kids → ExB x) : ExB e
theorem ExB.len {e : Ex} (h : ExB e) : e.kids.length ≤ 1048576 := by cases h with | mk h _ => exact h
theorem ExB.kid {e x : Ex} (h : ExB e) (hx : x ∈ e.kids) : ExB x := by cases h with | mk _ hk => exact hk x hx
inductive PlB : Pl → Prop where
  | mk {p : Pl} (h1 : p.exprs.length ≤ 1048576) (h2 : p.cols.length ≤ 1048576) (h3 : p.kids.length ≤ 1048576) (he : ∀ x, x ∈ p.exprs → ExB x) (hk : ∀ x, x ∈ p.kids → PlB x) : PlB p
theorem PlB.all {p : Pl} (h : PlB p) : (p.exprs.length ≤ 1048576 ∧ p.cols.length ≤ 1048576 ∧ p.kids.length ≤ 1048576) ∧ (∀ x ∈ p.exprs, ExB x) ∧ ∀ x ∈ p.kids, PlB x := by cases h with | mk h1 h2 h3 he hk => exact ⟨⟨h1, h2, h3⟩, he, hk⟩
end Go.Qo

/-
  Trees of expressions of the call's own: every list of kids lies in a block of its own, no block serves twice. No program in sight.
-/
namespace Go.Qo
open Go.RowKit
set_option linter.unusedVariables false
set_option linter.unusedSimpArgs false

mutual
def ExW (ty : TypeId) (w : World) : (Nat → Prop) → FE → Ex → Prop
  | S, f, .mk k c v ks => f.kind = k ∧ f.col = c ∧ f.val = v ∧ f.sv.n = ks.length ∧ ks.length ≤ 1048576 ∧ ∃ fs : List FE, fs.length = ks.length ∧ Ow 0 ty 5 feC w (.slice f.sv.A f.sv.n f.sv.c) fs ∧
      (∀ b, (Value.slice f.sv.A f.sv.n f.sv.c).ownBlock = some b → S b) ∧ KidsW ty w (fun b => S b ∧ (Value.slice f.sv.A f.sv.n f.sv.c).ownBlock ≠ some b) fs ks
def KidsW (ty : TypeId) (w : World) : (Nat → Prop) → List FE → List Ex → Prop
  | _, fs, [] => fs = []
  | S, fs, x :: xs => ∃ (f : FE) (fs' : List FE) (T : Nat → Prop), fs = f :: fs' ∧ (∀ b, T b → S b) ∧ ExW ty w T f x ∧ KidsW ty w (fun b => S b ∧ ¬ T b) fs' xs
end
section
variable {ty : TypeId} {w w' : World}
theorem exW_iff {S : Nat → Prop} {f : FE} {e : Ex} : ExW ty w S f e ↔ f.kind = e.kind ∧ f.col = e.col ∧ f.val = e.val ∧ f.sv.n = e.kids.length ∧ e.kids.length ≤ 1048576 ∧ ∃ fs : List FE, fs.length = e.kids.length ∧ Ow 0 ty 5 feC w (.slice f.sv.A f.sv.n f.sv.c) fs ∧
      (∀ b, (Value.slice f.sv.A f.sv.n f.sv.c).ownBlock = some b → S b) ∧ KidsW ty w (fun b => S b ∧ (Value.slice f.sv.A f.sv.n f.sv.c).ownBlock ≠ some b) fs e.kids := by
  obtain ⟨k, c, v, ks⟩ := e
  rw [ExW]
  rfl
theorem KidsW.len {S : Nat → Prop} : ∀ {fs : List FE} {es : List Ex}, KidsW ty w S fs es → fs.length = es.length := by
  intro fs es
  induction es generalizing fs S with
  | nil => intro h; rw [KidsW] at h; rw [h]; rfl
  | cons x xs ih =>
    intro h
    rw [KidsW] at h
    obtain ⟨f, fs', T, rfl, _, _, h4⟩ := h
    simp [ih h4]
/-- Carried over to another world and another set. -/
theorem KidsW.carry {es : List Ex} (ih : ∀ x ∈ es, ∀ (S T : Nat → Prop) (f : FE), (∀ b, b < w.heap.size → S b → T b) → (∀ b, S b → b < w.heap.size → w'.heap[b]? = w.heap[b]?) → ExW ty w S f x → ExW ty w' T f x) :
    ∀ (S T : Nat → Prop) (fs : List FE), (∀ b, b < w.heap.size → S b → T b) → (∀ b, S b → b < w.heap.size → w'.heap[b]? = w.heap[b]?) → KidsW ty w S fs es → KidsW ty w' T fs es := by
  induction es with
  | nil => intro S T fs _ _ h; rw [KidsW] at h ⊢; exact h
  | cons x xs ihl =>
    intro S T fs hST hk h
    rw [KidsW] at h ⊢
    obtain ⟨f, fs', U, rfl, h2, h3, h4⟩ := h
    refine ⟨f, fs', fun b => U b ∧ b < w.heap.size, rfl, fun b hb => hST b hb.2 (h2 b hb.1), ih x (List.mem_cons_self ..) U _ f (fun b hb hU => ⟨hU, hb⟩) (fun b hb hl => hk b (h2 b hb) hl) h3, ?_⟩
    exact ihl (fun y hy => ih y (List.mem_cons_of_mem _ hy)) _ _ fs' (fun b hb hS => ⟨hST b hb hS.1, fun hU => hS.2 hU.1⟩) (fun b hb hl => hk b hb.1 hl) h4
theorem ExW.carry : ∀ (e : Ex) (S T : Nat → Prop) (f : FE), (∀ b, b < w.heap.size → S b → T b) → (∀ b, S b → b < w.heap.size → w'.heap[b]? = w.heap[b]?) → ExW ty w S f e → ExW ty w' T f e := Ex.ind fun e ih S T f hST hk h => by
  rw [exW_iff] at h ⊢
  obtain ⟨h1, h2, h3, h4, h5, fs, h6, h7, h8, h9⟩ := h
  refine ⟨h1, h2, h3, h4, h5, fs, h6, h7.keepOwn fun b hb => hk b (h8 b hb) (h7.ty b hb).2.1, fun b hb => hST b (h7.ty b hb).2.1 (h8 b hb), ?_⟩
  exact KidsW.carry ih _ _ fs (fun b hb hS => ⟨hST b hb hS.1, hS.2⟩) (fun b hb hl => hk b hb.1 hl) h9
theorem ExW.mono {S T : Nat → Prop} {f : FE} {e : Ex} (h : ExW ty w S f e) (hST : ∀ b, b < w.heap.size → S b → T b) : ExW ty w T f e := ExW.carry e S T f hST (fun _ _ _ => rfl) h
theorem ExW.keep {S : Nat → Prop} {f : FE} {e : Ex} (h : ExW ty w S f e) (hs : w.heap.size ≤ w'.heap.size) (hk : ∀ b, S b → b < w.heap.size → w'.heap[b]? = w.heap[b]?) : ExW ty w' S f e := ExW.carry e S S f (fun _ _ h => h) hk h
theorem KidsW.mono {S T : Nat → Prop} {fs : List FE} {es : List Ex} (h : KidsW ty w S fs es) (hST : ∀ b, b < w.heap.size → S b → T b) : KidsW ty w T fs es :=
  KidsW.carry (fun x _ S T f hST hk h => ExW.carry x S T f hST hk h) S T fs hST (fun _ _ _ => rfl) h
theorem KidsW.keep {S : Nat → Prop} {fs : List FE} {es : List Ex} (h : KidsW ty w S fs es) (hs : w.heap.size ≤ w'.heap.size) (hk : ∀ b, S b → b < w.heap.size → w'.heap[b]? = w.heap[b]?) : KidsW ty w' S fs es :=
  KidsW.carry (fun x _ S T f hST hk h => ExW.carry x S T f hST hk h) S S fs (fun _ _ h => h) hk h
theorem KidsW.snoc {es : List Ex} : ∀ {S T U : Nat → Prop} {fs : List FE} {f : FE} {x : Ex}, KidsW ty w S fs es → ExW ty w T f x → (∀ b, S b → U b) → (∀ b, T b → U b ∧ ¬ S b) → KidsW ty w U (fs ++ [f]) (es ++ [x]) := by
  induction es with
  | nil =>
    intro S T U fs f x h hx hS hT
    rw [KidsW] at h
    subst h
    rw [List.nil_append, List.nil_append, KidsW]
    exact ⟨f, [], T, rfl, fun b hb => (hT b hb).1, hx, by rw [KidsW]⟩
  | cons y ys ih =>
    intro S T U fs f x h hx hS hT
    rw [KidsW] at h
    obtain ⟨g, fs', V, rfl, h2, h3, h4⟩ := h
    rw [List.cons_append, List.cons_append, KidsW]
    exact ⟨g, fs' ++ [f], V, rfl, fun b hb => hS b (h2 b hb), h3, ih h4 hx (fun b hb => ⟨hS b hb.1, hb.2⟩) fun b hb => ⟨⟨(hT b hb).1, fun hV => (hT b hb).2 (h2 b hV)⟩, fun hn => (hT b hb).2 hn.1⟩⟩
theorem KidsW.get {es : List Ex} : ∀ {S : Nat → Prop} {fs : List FE}, KidsW ty w S fs es → ∀ (i : Nat) (g : FE) (x : Ex), fs[i]? = some g → es[i]? = some x → ExW ty w S g x := by
  induction es with
  | nil => intro S fs h i g x hg hx; simp at hx
  | cons y ys ih =>
    intro S fs h i g x hg hx
    rw [KidsW] at h
    obtain ⟨f, fs', T, rfl, h2, h3, h4⟩ := h
    cases i with
    | zero =>
      simp at hg hx
      subst hg hx
      exact h3.mono fun b _ hb => h2 b hb
    | succ i => exact (ih h4 i g x (by simpa using hg) (by simpa using hx)).mono fun b _ hb => hb.1
/-- A slice of the call's own, its block one of S. -/
theorem slS_ow {α : Type} {sz : Nat} {enc : α → List Value} (he : ∀ x, (enc x).length = sz) {S : Nat → Prop} {lo : Nat} {A : Option Addr} {n c : Nat} {xs : List α} (h : Ow lo ty sz enc w (.slice A n c) xs) (hS : ∀ b, (Value.slice A n c).ownBlock = some b → S b) : SlS S sz enc w A xs := fun h0 => by
  obtain ⟨b, off, hA, h1, h2, h3⟩ := SlS.of_ow he h h0
  exact ⟨b, off, hA, hS b (by rw [hA]; rfl), h2, h3⟩
theorem ExW.ext : ∀ (e : Ex) (S : Nat → Prop) (f : FE), ExW ty w S f e → ExT S w f e := Ex.ind fun e ih S f h => by
  rw [exW_iff] at h
  obtain ⟨h1, h2, h3, h4, h5, fs, h6, h7, h8, h9⟩ := h
  obtain ⟨k, c, v, ⟨A, n, cp⟩⟩ := f
  obtain ⟨k', c', v', ks⟩ := e
  obtain ⟨A', c1, hv, hc1, hc2, _⟩ := h7.shape feC_length
  cases hv
  change k = k' at h1
  change c = c' at h2
  change v = v' at h3
  change fs.length = ks.length at h6
  change ks.length ≤ 1048576 at h5
  subst h1 h2 h3
  refine ExT.make ⟨fs, h6, slS_ow feC_length h7 h8, fun i g x hg hx => ?_⟩ h6 hc1 hc2 h5
  exact (ih x (List.mem_of_getElem? hx) _ g (h9.get i g x hg hx)).mono fun b _ hb => hb.1
theorem ExW.in_ {S : Nat → Prop} {f : FE} {e : Ex} (h : ExW ty w S f e) : ExIn w w.heap.size f e := (ExW.ext e S f h).in_
theorem ExW.leaf {S : Nat → Prop} {k c : Int} {v : Val} : ExW ty w S ⟨k, c, v, ⟨none, 0, 0⟩⟩ (.mk k c v []) := by
  rw [ExW]
  exact ⟨rfl, rfl, rfl, rfl, by simp, [], rfl, Ow.nil, (fun b hb => by cases hb), by rw [KidsW]⟩
/-- The kids of an expression while they grow: a slice of the call's own, its elements trees beside it. -/
def KdsW (ty : TypeId) (lo z : Nat) (w : World) (v : Value) (es : List Ex) : Prop :=
  ∃ fs : List FE, fs.length = es.length ∧ Ow lo ty 5 feC w v fs ∧ KidsW ty w (fun b => lo ≤ b ∧ b < z ∧ v.ownBlock ≠ some b) fs es
theorem KdsW.nil {lo z : Nat} : KdsW ty lo z w (.slice none 0 0) [] := ⟨[], rfl, Ow.nil, by rw [KidsW]⟩
theorem KdsW.only {lo z : Nat} {v : Value} {es : List Ex} {S : Nat → Prop} (h : KdsW ty lo z w v es) (k : Only S w w') (hS : ∀ i, S i → i < lo) : KdsW ty lo z w' v es := by
  obtain ⟨fs, h1, h2, h3⟩ := h
  exact ⟨fs, h1, h2.only k fun i hi => .inl (hS i hi), h3.keep k.size fun c hc hl => k.block c hl fun hs => by have := hS c hs; omega⟩
theorem KdsW.shape {lo z : Nat} {v : Value} {es : List Ex} (h : KdsW ty lo z w v es) : ∃ A c, v = .slice A es.length c ∧ es.length ≤ c ∧ c ≤ maxLen := by
  obtain ⟨fs, h1, h2, h3⟩ := h
  obtain ⟨A, c, hv, h4, h5, _⟩ := h2.shape feC_length
  exact ⟨A, c, by rw [hv, h1], by omega, h5⟩
/-- An expression from its kids. -/
theorem ExW.make {lo z : Nat} {S : Nat → Prop} {k c : Int} {v : Val} {A : Option Addr} {n cap : Nat} {es : List Ex} (h : KdsW ty lo z w (.slice A n cap) es) (hS : ∀ b, lo ≤ b → S b) (h3 : es.length ≤ 1048576) : ExW ty w S ⟨k, c, v, ⟨A, n, cap⟩⟩ (.mk k c v es) := by
  obtain ⟨fs, h1, h2, h4⟩ := h
  obtain ⟨A', c', hv, _⟩ := h2.shape feC_length
  cases hv
  rw [ExW]
  exact ⟨rfl, rfl, rfl, h1, h3, fs, h1, h2.low (Nat.zero_le _), fun b hb => hS b (h2.ty b hb).1, h4.mono fun b _ hb => ⟨hS b hb.1, hb.2.2⟩⟩
/-- One kid more: appended in a world in which it is held beside. -/
theorem KdsW.snoc {lo z : Nat} {v v' : Value} {es : List Ex} {f : FE} {x : Ex} {fs : List FE} (hl : fs.length = es.length) (h3 : KidsW ty w (fun b => lo ≤ b ∧ b < z ∧ v.ownBlock ≠ some b) fs es) (hz : z ≤ w.heap.size)
    (hx : ExW ty w (fun k => lo ≤ k ∧ z ≤ k ∧ v.ownBlock ≠ some k) f x) (how : Ow lo ty 5 feC w' v' (fs ++ [f])) (hgr : w.grownBy w' v.ownBlock) (hob : v'.ownBlock = v.ownBlock ∨ v'.ownBlock = some w.heap.size) : KdsW ty lo w.heap.size w' v' (es ++ [x]) := by
  refine ⟨fs ++ [f], by simp [hl], how, ?_⟩
  have k1 : KidsW ty w (fun b => lo ≤ b ∧ b < z ∧ v.ownBlock ≠ some b) (fs) es := h3
  have key : ∀ b, b < w.heap.size → v.ownBlock ≠ some b → v'.ownBlock ≠ some b := fun b hb hn => by
    rcases hob with e | e
    · rw [e]; exact hn
    · rw [e]; intro e'; have := Option.some.inj e'; omega
  have x1 : ExW ty w (fun k => lo ≤ k ∧ z ≤ k ∧ v.ownBlock ≠ some k ∧ k < w.heap.size) f x := hx.mono fun b hb h => ⟨h.1, h.2.1, h.2.2, hb⟩
  have k2 := k1.keep (w' := w') hgr.size fun b hb hl => hgr.block b hl fun e => hb.2.2 e.symm
  have x2 := x1.keep (w' := w') hgr.size fun b hb hl => hgr.block b hl fun e => hb.2.2.1 e.symm
  exact KidsW.snoc k2 x2 (fun b hb => ⟨hb.1, by omega, key b (by omega) hb.2.2⟩) fun b hb => ⟨⟨hb.1, hb.2.2.2, key b hb.2.2.2 hb.2.2.1⟩, fun hn => by omega⟩
end
end Go.Qo

/-
  Contracts of the functions that mark a result's memory and look whether the marks are still held: rows of values, numbers.
-/
namespace Go.Proofs.YtmhlpjfijpomkaaGreatDoor
open Go.RowKit Go.Qo
set_option linter.unusedVariables false
set_option linter.unusedSimpArgs false

theorem set_mid {α : Type} (xs ys : List α) (y : α) (i : Nat) (hl : xs.length = i) (hi : i < ys.length) : (xs ++ ys.drop i).set i y = (xs ++ [y]) ++ ys.drop (i + 1) := by
  rw [List.set_append_right _ _ (by omega), hl, Nat.sub_self, List.drop_eq_getElem_cons hi, List.set_cons_zero, List.append_assoc, List.singleton_append]

/-- The block of a slice value, if it has one. -/
def OwnB (v : Value) : Nat → Prop := fun i => v.ownBlock = some i

def markI (k : Int) (n : Nat) : List Int := (List.range n).map fun (i : Nat) => k + i
theorem markI_length (k : Int) (n : Nat) : (markI k n).length = n := by simp [markI]
theorem markI_succ (k : Int) (n : Nat) : markI k (n + 1) = markI k n ++ [k + n] := by simp [markI, List.range_succ]
theorem flat_setI : ∀ (xs : List Int) (j : Nat) (y : Int), (xs.flatMap intC).set j (.int .i64 y) = (xs.set j y).flatMap intC
  | [], j, y => by simp
  | x :: xs, 0, y => by simp [intC]
  | x :: xs, j + 1, y => by
    have ih := flat_setI xs j y
    simpa [intC] using ih

set_option maxHeartbeats 1000000 in
theorem markIntS_ok (lo : Nat) (A : Option Addr) (c : Nat) (xs : List Int) (k : Int) (w : World) (hk0 : 0 ≤ k) (hk : k ≤ 1099511627776) (hn : xs.length ≤ 1048576) (h : Ow lo 3 1 intC w (.slice A xs.length c) xs) :
    Calls Tryz.prog 11 #[.slice A xs.length c, .int .i64 k] w fun e w' => e = .returned (.int .i64 (k + xs.length)) ∧ Ow lo 3 1 intC w' (.slice A xs.length c) (markI k xs.length) ∧ Only (OwnB (.slice A xs.length c)) w w' ∧ w'.heap.size = w.heap.size := by
  have HO := Lib.hid h
  clear h
  go_enter Tryz.func11, Tryz.ntmps11
  go_wp2
  go_loopg [1, 5] (xs.length) (fun g kv iv wr => ∃ (i : Nat) (kk : Int), i ≤ xs.length ∧ g = xs.length - i ∧ kk = k + i ∧ kv = .int .i64 kk ∧ iv = .int .i64 i ∧ wr.ownsRow lo 3 1 (.slice A xs.length c) xs.length ((markI k i ++ xs.drop i).flatMap intC) ∧ Only (OwnB (.slice A xs.length c)) w wr ∧ wr.heap.size = w.heap.size)
  case atStart => exact ⟨0, k, by omega, by omega, by omega, rfl, rfl, by have := HO.out; unfold Ow at this; simpa [markI] using this, Only.refl _, rfl⟩
  case round =>
    obtain ⟨i, kk, hi, rfl, hkk, rfl, rfl, how, hon, hsz⟩ := hrel
    have hkk0 : 0 ≤ kk := by omega
    have hkk1 : kk ≤ 1099513724928 := by omega
    have HK := Lib.hid hkk
    have HW := Lib.hid (And.intro how (And.intro hon hsz))
    clear hkk hsz hon
    by_cases hlt : i < xs.length
    · have hll : (markI k i ++ xs.drop i).length = xs.length := by rw [List.length_append, markI_length, List.length_drop]; omega
      have how' : Ow lo 3 1 intC wr (.slice A (markI k i ++ xs.drop i).length c) (markI k i ++ xs.drop i) := by unfold Ow; rw [hll]; exact how
      obtain ⟨g, rfl, _, hg, hgl, _, hf, hcs⟩ := how'.head intC_length (by omega)
      have hfl := flat_length 1 intC intC_length (markI k i ++ xs.drop i)
      obtain ⟨y1, hy1⟩ : ∃ y, ((markI k i ++ xs.drop i).flatMap intC)[i]? = some y := ⟨_, List.getElem?_eq_getElem (by omega)⟩
      have c0 := hcs _ _ hy1
      have f0 := hf i
      clear hcs hf hy1 hfl how how' hll
      go_wp2
      go_roundg (xs.length - (i + 1))
      case measure => omega
      case rel =>
        refine ⟨i + 1, kk + 1, by omega, rfl, by have := HK.out; omega, rfl, by go_num, ?_, ?_, ?_⟩
        · have h1 := (World.ownsRow.stored HW.out.1 i (.int .i64 kk)).1
          rw [flat_setI, set_mid _ _ _ i (markI_length k i) hlt] at h1
          rw [markI_succ, ← HK.out]
          exact h1
        · exact HW.out.2.1.set (p := ⟨g, i, none⟩) (.inl rfl) _
        · simpa [World.setCell] using HW.out.2.2
    · have hie : i = xs.length := by omega
      have HIE := Lib.hid hie
      go_wp2
      go_ret
      refine ⟨ret_int (by rw [HK.out, HIE.out]), ?_, HW.out.2.1, HW.out.2.2⟩
      have h1 := HW.out.1
      rw [HIE.out, List.drop_length, List.append_nil] at h1
      unfold Ow
      rw [markI_length]
      exact h1

end Go.Proofs.YtmhlpjfijpomkaaGreatDoor

/-
  Contracts: lists of numbers compared, marks of numbers still held; marks of tables.
-/
namespace Go.Proofs.YtmhlpjfijpomkaaGreatDoor
open Go.RowKit Go.Qo
set_option linter.unusedVariables false
set_option linter.unusedSimpArgs false

theorem Ints.at_ {w : World} {B : Nat} {A : Option Addr} {xs : List Int} (h : Sl 1 intC w B A xs) {i : Nat} (hi : i < xs.length) : ∃ b off, A = some ⟨b, off, none⟩ ∧ b < B ∧ w.cell? ⟨b, off + i, none⟩ = some (.int .i64 xs[i]) := Sl.at1 (f := Value.int .i64) h hi

set_option maxHeartbeats 1000000 in
theorem eqIntS_ok (A A' : Option Addr) (c c' : Nat) (xs ys : List Int) (w : World) (hn : xs.length ≤ maxLen) (hn' : ys.length ≤ maxLen) (h : Sl 1 intC w w.heap.size A xs) (h' : Sl 1 intC w w.heap.size A' ys) :
    Calls Tryz.prog 10 #[.slice A xs.length c, .slice A' ys.length c'] w fun e w' => e = .returned (.bool (decide (xs = ys))) ∧ Below w.heap.size w w' := by
  unfold maxLen at hn hn'
  by_cases hl : xs.length = ys.length
  · have hl' := Lib.hid hl
    have hne : ((xs.length : Int) != (ys.length : Int)) = false := by simp [hl]
    clear hl
    go_enter Tryz.func10, Tryz.ntmps10
    go_wp2
    go_loopg [5] (xs.length) (fun g i wr => ∃ k : Nat, k ≤ xs.length ∧ g = xs.length - k ∧ i = .int .i64 k ∧ Below w.heap.size w wr ∧ xs.take k = ys.take k)
    case atStart => exact ⟨0, by omega, by omega, rfl, Below.refl _ _, rfl⟩
    case round =>
      obtain ⟨k, hk, rfl, rfl, hb, hp⟩ := hrel
      have Hp := Lib.hid hp
      clear hp
      by_cases hlt : k < xs.length
      · have hlt' : k < ys.length := by have := hl'.out; omega
        obtain ⟨b, off, rfl, hB, c1⟩ := Ints.at_ (h.below hb) hlt
        obtain ⟨b', off', rfl, hB', c1'⟩ := Ints.at_ (h'.below hb) hlt'
        have hx := Lib.hid (List.getElem?_eq_getElem hlt)
        have hy := Lib.hid (List.getElem?_eq_getElem hlt')
        generalize xs[k] = x at *
        generalize ys[k] = y at *
        by_cases hxy : x = y
        · subst hxy
          go_wp2
          go_quiet (fail)
          go_wp2
          go_roundg (xs.length - (k + 1))
          case measure => omega
          case rel => exact ⟨k + 1, by omega, rfl, by go_num, bdrewN hb _, take_eq_succ Hp.out hx.out hy.out⟩
        · have hxn : (x != y) = true := by simp [hxy]
          have HXY := Lib.hid hxy
          clear hxy
          go_wp2
          go_quiet (fail)
          go_wp2
          go_ret
          exact ⟨ret_bool (decide_eq_false (ne_of_at hx.out hy.out HXY.out)).symm, bdrewN hb _⟩
      · go_wp2
        go_ret
        exact ⟨ret_bool (decide_eq_true (eq_of_take Hp.out (by omega) (by have := hl'.out; omega))).symm, hb⟩
  · go_enter Tryz.func10, Tryz.ntmps10
    go_wp2
    go_ret
    exact ⟨ret_bool (decide_eq_false fun he => hl (by rw [he])).symm, Below.refl _ _⟩

set_option maxHeartbeats 1000000 in
theorem heldIntS_ok (A : Option Addr) (c n : Nat) (k : Int) (w : World) (hk0 : 0 ≤ k) (hk : k ≤ 1099511627776) (hn : n ≤ 1048576) (h : Sl 1 intC w w.heap.size A (markI k n)) :
    Calls Tryz.prog 36 #[.slice A n c, .int .i64 k] w fun e w' => e = .returned (.int .i64 (k + n)) ∧ w = w' := by
  have hml := markI_length k n
  go_enter Tryz.func36, Tryz.ntmps36
  go_wp2
  go_loopg [1, 5] n (fun g kv iv wr => ∃ (i : Nat) (kk : Int), i ≤ n ∧ g = n - i ∧ kk = k + i ∧ kv = .int .i64 kk ∧ iv = .int .i64 i ∧ w = wr)
  case atStart => exact ⟨0, k, by omega, by omega, by omega, rfl, rfl, rfl⟩
  case round =>
    obtain ⟨i, kk, hi, rfl, hkk, rfl, rfl, rfl⟩ := hrel
    have hkk0 : 0 ≤ kk := by omega
    have hkk1 : kk ≤ 1099513724928 := by omega
    have HK := Lib.hid hkk
    clear hkk
    by_cases hlt : i < n
    · obtain ⟨b, off, rfl, hB, c1⟩ := Ints.at_ h (i := i) (by omega)
      have hx : (markI k n)[i]'(by omega) = kk := by simp [markI, HK.out]
      rw [hx] at c1
      clear h hml hx
      go_wp2
      go_roundg (n - (i + 1))
      case measure => omega
      case rel => exact ⟨i + 1, kk + 1, by omega, rfl, by have := HK.out; omega, rfl, by go_num, rfl⟩
    · have HIE := Lib.hid (show i = n by omega)
      go_wp2
      go_ret
      exact ⟨ret_int (by rw [HK.out, HIE.out]), rfl⟩

end Go.Proofs.YtmhlpjfijpomkaaGreatDoor

/-
  Contract: lists of numbers compared (equalInts).
-/
namespace Go.Proofs.YtmhlpjfijpomkaaGreatDoor
open Go.RowKit Go.Qo
set_option linter.unusedVariables false
set_option linter.unusedSimpArgs false

end Go.Proofs.YtmhlpjfijpomkaaGreatDoor

/-
  Contract: two plans that hold one tree are equal (equalPlans).
-/
namespace Go.Proofs.YtmhlpjfijpomkaaGreatDoor
open Go.RowKit Go.Qo
set_option linter.unusedVariables false
set_option linter.unusedSimpArgs false

/-- A plan as a value. -/
def fpV (f : FP) : Value := .agg #[.int .i64 f.kind, .int .i64 f.table, .slice f.es.A f.es.n f.es.c, .slice f.cs.A f.cs.n f.cs.c, .slice f.ks.A f.ks.n f.ks.c]

end Go.Proofs.YtmhlpjfijpomkaaGreatDoor

/-
  Words for the generators of trees: what they hand back. No program in sight.
-/
namespace Go.Proofs.YtmhlpjfijpomkaaGreatDoor
open Go.RowKit Go.Qo
set_option linter.unusedVariables false
set_option linter.unusedSimpArgs false

theorem Rd.apart {w w' : World} {b p : Nat} {S : Nat → Prop} (h : Rd w b p) (k : Only S w w') (hS : ∀ i, S i → b < i) : Rd w' b p := by
  have hlt := h.lt
  have hsz := k.size
  obtain ⟨A, xs, c, q, h1, h2, h3, h4, h5⟩ := h
  exact ⟨A, xs, c, q, h1, h2, h3.only k (fun hb => by have := hS b hb; omega), h4, h5.keep fun i o hi => World.cell?_of_block (w := w) (a := ⟨i, o, none⟩) (k.block i (by omega) fun hi' => by have := hS i hi'; omega)⟩
theorem set5 (w : World) (g : Nat) (v0 v1 v2 v3 v4 : Value) : Only (fun k => k = g) w (((((w.setCell ⟨g, 0, none⟩ v0).setCell ⟨g, 1, none⟩ v1).setCell ⟨g, 2, none⟩ v2).setCell ⟨g, 3, none⟩ v3).setCell ⟨g, 4, none⟩ v4) :=
  ((((((Only.refl (S := fun k => k = g) w).set (p := ⟨g, 0, none⟩) (.inl rfl) v0).set (p := ⟨g, 1, none⟩) (.inl rfl) v1).set (p := ⟨g, 2, none⟩) (.inl rfl) v2).set (p := ⟨g, 3, none⟩) (.inl rfl) v3).set (p := ⟨g, 4, none⟩) (.inl rfl) v4)
/-- The kids of an expression while they grow: a slice of the call's own, its elements trees beside it. -/
def Kds (lo : Nat) (w : World) (v : Value) (es : List Ex) : Prop :=
  ∃ fs : List FE, fs.length = es.length ∧ Ow lo 40 5 feC w v fs ∧ ∀ (i : Nat) (g : FE) (x : Ex), fs[i]? = some g → es[i]? = some x → ExT (fun k => lo ≤ k ∧ v.ownBlock ≠ some k) w g x
theorem Kds.nil {lo : Nat} {w : World} : Kds lo w (.slice none 0 0) [] := ⟨[], rfl, Ow.nil, fun i g x h _ => by simp at h⟩
theorem Kds.only {lo : Nat} {w w' : World} {v : Value} {es : List Ex} {S : Nat → Prop} (h : Kds lo w v es) (k : Only S w w') (hS : ∀ i, S i → i < lo) : Kds lo w' v es := by
  obtain ⟨fs, h1, h2, h3⟩ := h
  exact ⟨fs, h1, h2.only k fun i hi => .inl (hS i hi), fun i g x hg hx => (h3 i g x hg hx).keep k.size fun c hc hl => k.block c hl fun hs => by have := hS c hs; omega⟩
theorem Kds.shape {lo : Nat} {w : World} {v : Value} {es : List Ex} (h : Kds lo w v es) : ∃ A c, v = .slice A es.length c ∧ es.length ≤ c ∧ c ≤ maxLen := by
  obtain ⟨fs, h1, h2, h3⟩ := h
  obtain ⟨A, c, hv, h4, h5, _⟩ := h2.shape feC_length
  exact ⟨A, c, by rw [hv, h1], by omega, h5⟩
theorem Kds.exs {lo : Nat} {w : World} {A : Option Addr} {n c : Nat} {es : List Ex} (h : Kds lo w (.slice A n c) es) : ExsT (fun k => lo ≤ k) w A es := by
  obtain ⟨fs, h1, h2, h3⟩ := h
  exact ⟨fs, h1, SlS.of_ow feC_length h2, fun i g x hg hx => (h3 i g x hg hx).mono fun b _ hb => hb.1⟩
/-- One kid more: appended in a world in which it is held beside. -/
theorem Kds.snoc {lo : Nat} {w w' : World} {v v' : Value} {es : List Ex} {fs : List FE} {f : FE} {x : Ex} (hl : fs.length = es.length)
    (h3 : ∀ (i : Nat) (g : FE) (x : Ex), fs[i]? = some g → es[i]? = some x → ExT (fun k => lo ≤ k ∧ v.ownBlock ≠ some k) w g x) (hx : ExT (fun k => lo ≤ k ∧ v.ownBlock ≠ some k) w f x)
    (how : Ow lo 40 5 feC w' v' (fs ++ [f])) (hgr : w.grownBy w' v.ownBlock) (hob : v'.ownBlock = v.ownBlock ∨ v'.ownBlock = some w.heap.size) : Kds lo w' v' (es ++ [x]) := by
  have key : ∀ (g : FE) (y : Ex), ExT (fun k => lo ≤ k ∧ v.ownBlock ≠ some k) w g y → ExT (fun k => lo ≤ k ∧ v'.ownBlock ≠ some k) w' g y := fun g y h => by
    have h' : ExT (fun k => lo ≤ k ∧ v.ownBlock ≠ some k ∧ k < w.heap.size) w g y := h.mono fun b hb hk => ⟨hk.1, hk.2, hb⟩
    refine (h'.keep hgr.size fun c hc hl => hgr.block c hl fun e => hc.2.1 e.symm).mono fun c _ hc => ⟨hc.1, ?_⟩
    rcases hob with e | e
    · rw [e]; exact hc.2.1
    · rw [e]; intro e'; have := Option.some.inj e'; omega
  refine ⟨fs ++ [f], by simp [hl], how, fun i g y hg hy => ?_⟩
  by_cases hi : i < fs.length
  · rw [List.getElem?_append_left hi] at hg
    rw [List.getElem?_append_left (by omega)] at hy
    exact key g y (h3 i g y hg hy)
  · rw [List.getElem?_append_right (by omega)] at hg
    rw [List.getElem?_append_right (by omega)] at hy
    have h0 : i - fs.length = 0 := by
      have := (List.getElem?_eq_some_iff.1 hg).1
      simp at this
      omega
    rw [h0] at hg
    rw [← hl, h0] at hy
    simp at hg hy
    subst hg hy
    exact key _ _ hx
end Go.Proofs.YtmhlpjfijpomkaaGreatDoor

/-
  Contracts: sizes, copies and comparisons of expressions, as the laws make them (szExpr, toExpr, eqExpr).
-/
namespace Go.Proofs.YtmhlpjfijpomkaaGreatDoor
open Go.RowKit Go.Qo
set_option linter.unusedVariables false
set_option linter.unusedSimpArgs false

mutual
def exCnt : Ex → Nat
  | .mk _ _ _ ks => ks.length + exKids ks
def exKids : List Ex → Nat
  | [] => 0
  | x :: xs => exCnt x + exKids xs
end
theorem exCnt_eq (x : Ex) : exCnt x = x.kids.length + exKids x.kids := by
  obtain ⟨k, c, v, ks⟩ := x
  rw [exCnt]
  rfl
theorem exKids_append : ∀ (a b : List Ex), exKids (a ++ b) = exKids a + exKids b
  | [], b => by simp [exKids]
  | x :: a, b => by rw [List.cons_append, exKids, exKids, exKids_append a b]; omega
theorem exKids_take {ks : List Ex} {i : Nat} (h : i < ks.length) : exKids (ks.take (i + 1)) = exKids (ks.take i) + exCnt ks[i] := by
  rw [List.take_succ_eq_append_getElem h, exKids_append]
  simp [exKids]
theorem exKids_le {ks : List Ex} (i : Nat) : exKids (ks.take i) ≤ exKids ks := by
  have : exKids ks = exKids (ks.take i) + exKids (ks.drop i) := by rw [← exKids_append, List.take_append_drop]
  omega
theorem exCnt_mem {ks : List Ex} {x : Ex} (h : x ∈ ks) : exCnt x ≤ exKids ks := by
  obtain ⟨i, hi, rfl⟩ := List.getElem_of_mem h
  have h1 := exKids_take hi
  have h2 := exKids_le (ks := ks) (i + 1)
  omega
theorem exB_of_cnt : ∀ x : Ex, exCnt x ≤ 1048576 → ExB x := Ex.ind fun x ih h => by
  rw [exCnt_eq] at h
  exact .mk (by omega) fun y hy => ih y hy (by have := exCnt_mem hy; omega)
end Go.Proofs.YtmhlpjfijpomkaaGreatDoor
