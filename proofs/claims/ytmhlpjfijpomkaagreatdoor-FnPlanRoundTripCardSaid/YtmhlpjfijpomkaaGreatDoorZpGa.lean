import Derived.Test.YtmhlpjfijpomkaaGreatDoorZpPln
import Derived.Test.YtmhlpjfijpomkaaGreatDoorProg
import Derived.OpenShut
import Derived.Deep.DeepCutAuto
/-
  Trees of expressions, and how a memory holds one. (First text about trees.)
-/
namespace Go.Qo
open Go.RowKit
set_option linter.unusedVariables false
set_option linter.unusedSimpArgs false

/-- An expression: kind, column, value, kids. -/
inductive Ex where
  | mk (kind col : Int) (val : Val) (kids : List Ex)
namespace Ex
def kind : Ex → Int | .mk k _ _ _ => k
def col : Ex → Int | .mk _ c _ _ => c
def val : Ex → Val | .mk _ _ v _ => v
def kids : Ex → List Ex | .mk _ _ _ ks => ks
theorem kid_lt {e x : Ex} (h : x ∈ e.kids) : SizeOf.sizeOf x < SizeOf.sizeOf e := by
  obtain ⟨k, c, v, ks⟩ := e
  have h : x ∈ ks := h
  have := List.sizeOf_lt_of_mem h
  simp only [mk.sizeOf_spec]
  omega
/-- Induction over expressions: what holds of all kids holds of the whole. -/
theorem ind {P : Ex → Prop} (h : ∀ e, (∀ x ∈ e.kids, P x) → P e) : ∀ e, P e := by
  have : ∀ (n : Nat) (e : Ex), SizeOf.sizeOf e ≤ n → P e := fun n => by
    induction n with
    | zero => exact fun e he => h e fun x hx => absurd (kid_lt hx) (by omega)
    | succ n ih => exact fun e he => h e fun x hx => ih x (by have := kid_lt hx; omega)
  exact fun e => this _ e (Nat.le_refl _)
end Ex

/-- The cells of an expression, its kids as a slice value. -/
structure FE where
  kind : Int
  col : Int
  val : Val
  sv : SV
def feC (f : FE) : List Value := [.int .i64 f.kind, .int .i64 f.col, .bool f.val.1, .int .i64 f.val.2, .slice f.sv.A f.sv.n f.sv.c]
theorem feC_length (f : FE) : (feC f).length = 5 := rfl

/-- In w the cells f hold the expression e: 'n' levels of kids are looked through. -/
def ExAt (w : World) (B : Nat) : Nat → FE → Ex → Prop
  | 0, _, _ => False
  | n + 1, f, e => f.kind = e.kind ∧ f.col = e.col ∧ f.val = e.val ∧ f.sv.n = e.kids.length ∧ f.sv.n ≤ f.sv.c ∧ f.sv.c ≤ maxLen ∧
      ∃ fs : List FE, fs.length = e.kids.length ∧ Sl 5 feC w B f.sv.A fs ∧ ∀ (i : Nat) (g : FE) (x : Ex), fs[i]? = some g → e.kids[i]? = some x → ExAt w B n g x
theorem ExAt.map {w w' : World} {B B' : Nat} (hs : ∀ (A : Option Addr) (fs : List FE), Sl 5 feC w B A fs → Sl 5 feC w' B' A fs) : ∀ (n : Nat) (f : FE) (e : Ex), ExAt w B n f e → ExAt w' B' n f e
  | 0, _, _, h => h.elim
  | n + 1, f, e, ⟨h1, h2, h3, h4, h5, h6, fs, h7, h8, h9⟩ => ⟨h1, h2, h3, h4, h5, h6, fs, h7, hs _ _ h8, fun i g x hg hx => ExAt.map hs n g x (h9 i g x hg hx)⟩
theorem ExAt.below {w w' : World} {B : Nat} {n : Nat} {f : FE} {e : Ex} (h : ExAt w B n f e) (hb : Below B w w') : ExAt w' B n f e := ExAt.map (fun A fs h => h.below hb) n f e h
theorem ExAt.on {w w' : World} {n : Nat} {f : FE} {e : Ex} (h : ExAt w w.heap.size n f e) (hb : Below w.heap.size w w') : ExAt w' w'.heap.size n f e := ExAt.map (fun A fs h => h.on hb) n f e h
/-- More levels do no harm. -/
theorem ExAt.more {w : World} {B : Nat} : ∀ (n m : Nat) (f : FE) (e : Ex), n ≤ m → ExAt w B n f e → ExAt w B m f e
  | 0, _, _, _, _, h => h.elim
  | n + 1, 0, _, _, hm, _ => absurd hm (by omega)
  | n + 1, m + 1, f, e, hm, ⟨h1, h2, h3, h4, h5, h6, fs, h7, h8, h9⟩ => ⟨h1, h2, h3, h4, h5, h6, fs, h7, h8, fun i g x hg hx => ExAt.more n m g x (by omega) (h9 i g x hg hx)⟩
/-- Where the cells of an expression lie. -/
def FeAt (w : World) (b o : Nat) (f : FE) : Prop :=
  w.cell? ⟨b, o, none⟩ = some (.int .i64 f.kind) ∧ w.cell? ⟨b, o + 1, none⟩ = some (.int .i64 f.col) ∧ w.cell? ⟨b, o + 2, none⟩ = some (.bool f.val.1) ∧ w.cell? ⟨b, o + 3, none⟩ = some (.int .i64 f.val.2) ∧ w.cell? ⟨b, o + 4, none⟩ = some (.slice f.sv.A f.sv.n f.sv.c)
theorem feAt_of {w : World} {B : Nat} {A : Option Addr} {fs : List FE} (h : Sl 5 feC w B A fs) {i : Nat} (hi : i < fs.length) : ∃ b o, A = some ⟨b, o, none⟩ ∧ b < B ∧ FeAt w b (o + i * 5) fs[i] := by
  obtain ⟨b, o, hA, hB, hc⟩ := h (by omega)
  have hx := List.getElem?_eq_getElem hi
  exact ⟨b, o, hA, hB, hc i _ hx 0 _ rfl, hc i _ hx 1 _ rfl, hc i _ hx 2 _ rfl, hc i _ hx 3 _ rfl, hc i _ hx 4 _ rfl⟩
/-- The kid number i of an expression that is held. -/
theorem ExAt.kid {w : World} {B n : Nat} {f : FE} {e : Ex} (h : ExAt w B (n + 1) f e) {i : Nat} (hi : i < e.kids.length) :
    ∃ b o g, f.sv.A = some ⟨b, o, none⟩ ∧ b < B ∧ FeAt w b (o + i * 5) g ∧ ExAt w B n g e.kids[i] := by
  obtain ⟨_, _, _, _, _, _, fs, h7, h8, h9⟩ := h
  have hi' : i < fs.length := by omega
  obtain ⟨b, o, hA, hB, hf⟩ := feAt_of h8 hi'
  exact ⟨b, o, fs[i], hA, hB, hf, h9 i _ _ (List.getElem?_eq_getElem hi') (List.getElem?_eq_getElem hi)⟩
end Go.Qo

/-
  Trees of plans, and how a memory holds one.
-/
namespace Go.Qo
open Go.RowKit
set_option linter.unusedVariables false
set_option linter.unusedSimpArgs false

/-- Held, however many levels deep. -/
def ExIn (w : World) (B : Nat) (f : FE) (e : Ex) : Prop := ∃ n, ExAt w B n f e
theorem ExIn.below {w w' : World} {B : Nat} {f : FE} {e : Ex} (h : ExIn w B f e) (hb : Below B w w') : ExIn w' B f e := h.imp fun _ h => h.below hb
theorem ExIn.on {w w' : World} {f : FE} {e : Ex} (h : ExIn w w.heap.size f e) (hb : Below w.heap.size w w') : ExIn w' w'.heap.size f e := h.imp fun _ h => h.on hb
theorem ExIn.flat {w : World} {B : Nat} {f : FE} {e : Ex} (h : ExIn w B f e) : f.kind = e.kind ∧ f.col = e.col ∧ f.val = e.val ∧ f.sv.n = e.kids.length ∧ f.sv.n ≤ f.sv.c ∧ f.sv.c ≤ maxLen := by
  obtain ⟨n, h⟩ := h
  cases n with
  | zero => exact h.elim
  | succ n => exact ⟨h.1, h.2.1, h.2.2.1, h.2.2.2.1, h.2.2.2.2.1, h.2.2.2.2.2.1⟩
theorem ExIn.kid {w : World} {B : Nat} {f : FE} {e : Ex} (h : ExIn w B f e) {i : Nat} (hi : i < e.kids.length) :
    ∃ b o g, f.sv.A = some ⟨b, o, none⟩ ∧ b < B ∧ FeAt w b (o + i * 5) g ∧ ExIn w B g e.kids[i] := by
  obtain ⟨n, h⟩ := h
  cases n with
  | zero => exact h.elim
  | succ n =>
    obtain ⟨b, o, g, h1, h2, h3, h4⟩ := h.kid hi
    exact ⟨b, o, g, h1, h2, h3, n, h4⟩
/-- A list of expressions. -/
def ExsIn (w : World) (B : Nat) (A : Option Addr) (es : List Ex) : Prop :=
  ∃ fs : List FE, fs.length = es.length ∧ Sl 5 feC w B A fs ∧ ∀ (i : Nat) (g : FE) (x : Ex), fs[i]? = some g → es[i]? = some x → ExIn w B g x
theorem ExsIn.on {w w' : World} {A : Option Addr} {es : List Ex} (h : ExsIn w w.heap.size A es) (hb : Below w.heap.size w w') : ExsIn w' w'.heap.size A es := by
  obtain ⟨fs, h1, h2, h3⟩ := h
  exact ⟨fs, h1, h2.on hb, fun i g x hg hx => (h3 i g x hg hx).on hb⟩
theorem ExsIn.at_ {w : World} {B : Nat} {A : Option Addr} {es : List Ex} (h : ExsIn w B A es) {i : Nat} (hi : i < es.length) : ∃ b o g, A = some ⟨b, o, none⟩ ∧ b < B ∧ FeAt w b (o + i * 5) g ∧ ExIn w B g es[i] := by
  obtain ⟨fs, h1, h2, h3⟩ := h
  have hi' : i < fs.length := by omega
  obtain ⟨b, o, hA, hB, hf⟩ := feAt_of h2 hi'
  exact ⟨b, o, fs[i], hA, hB, hf, h3 i _ _ (List.getElem?_eq_getElem hi') (List.getElem?_eq_getElem hi)⟩
theorem ExIn.kids_in {w : World} {B : Nat} {f : FE} {e : Ex} (h : ExIn w B f e) : ExsIn w B f.sv.A e.kids := by
  obtain ⟨n, h⟩ := h
  cases n with
  | zero => exact h.elim
  | succ n =>
    obtain ⟨_, _, _, _, _, _, fs, h7, h8, h9⟩ := h
    exact ⟨fs, h7, h8, fun i g x hg hx => ⟨n, h9 i g x hg hx⟩⟩

/-- A plan: kind, table, expressions, columns, kids. -/
inductive Pl where
  | mk (kind table : Int) (exprs : List Ex) (cols : List Int) (kids : List Pl)
namespace Pl
def kind : Pl → Int | .mk k _ _ _ _ => k
def table : Pl → Int | .mk _ t _ _ _ => t
def exprs : Pl → List Ex | .mk _ _ es _ _ => es
def cols : Pl → List Int | .mk _ _ _ cs _ => cs
def kids : Pl → List Pl | .mk _ _ _ _ ks => ks
theorem kid_lt {p x : Pl} (h : x ∈ p.kids) : SizeOf.sizeOf x < SizeOf.sizeOf p := by
  obtain ⟨k, t, es, cs, ks⟩ := p
  have h : x ∈ ks := h
  have := List.sizeOf_lt_of_mem h
  simp only [mk.sizeOf_spec]
  omega
theorem ind {P : Pl → Prop} (h : ∀ p, (∀ x ∈ p.kids, P x) → P p) : ∀ p, P p := by
  have : ∀ (n : Nat) (p : Pl), SizeOf.sizeOf p ≤ n → P p := fun n => by
    induction n with
    | zero => exact fun p hp => h p fun x hx => absurd (kid_lt hx) (by omega)
    | succ n ih => exact fun p hp => h p fun x hx => ih x (by have := kid_lt hx; omega)
  exact fun p => this _ p (Nat.le_refl _)
end Pl
/-- The cells of a plan. -/
structure FP where
  kind : Int
  table : Int
  es : SV
  cs : SV
  ks : SV
def fpC (f : FP) : List Value := [.int .i64 f.kind, .int .i64 f.table, .slice f.es.A f.es.n f.es.c, .slice f.cs.A f.cs.n f.cs.c, .slice f.ks.A f.ks.n f.ks.c]
theorem fpC_length (f : FP) : (fpC f).length = 5 := rfl
def SVok (s : SV) (n : Nat) : Prop := s.n = n ∧ s.n ≤ s.c ∧ s.c ≤ maxLen
def PlAt (w : World) (B : Nat) : Nat → FP → Pl → Prop
  | 0, _, _ => False
  | n + 1, f, p => f.kind = p.kind ∧ f.table = p.table ∧ SVok f.es p.exprs.length ∧ SVok f.cs p.cols.length ∧ SVok f.ks p.kids.length ∧ ExsIn w B f.es.A p.exprs ∧ Sl 1 intC w B f.cs.A p.cols ∧
      ∃ fs : List FP, fs.length = p.kids.length ∧ Sl 5 fpC w B f.ks.A fs ∧ ∀ (i : Nat) (g : FP) (x : Pl), fs[i]? = some g → p.kids[i]? = some x → PlAt w B n g x
theorem PlAt.on {w w' : World} (hb : Below w.heap.size w w') : ∀ (n : Nat) (f : FP) (p : Pl), PlAt w w.heap.size n f p → PlAt w' w'.heap.size n f p
  | 0, _, _, h => h.elim
  | n + 1, f, p, ⟨h1, h2, h3, h4, h5, h6, h7, fs, h8, h9, h10⟩ => ⟨h1, h2, h3, h4, h5, h6.on hb, h7.on hb, fs, h8, h9.on hb, fun i g x hg hx => PlAt.on hb n g x (h10 i g x hg hx)⟩
def PlIn (w : World) (B : Nat) (f : FP) (p : Pl) : Prop := ∃ n, PlAt w B n f p
theorem PlIn.on {w w' : World} {f : FP} {p : Pl} (h : PlIn w w.heap.size f p) (hb : Below w.heap.size w w') : PlIn w' w'.heap.size f p := h.imp fun n h => PlAt.on hb n f p h
def FpAt (w : World) (b o : Nat) (f : FP) : Prop :=
  w.cell? ⟨b, o, none⟩ = some (.int .i64 f.kind) ∧ w.cell? ⟨b, o + 1, none⟩ = some (.int .i64 f.table) ∧ w.cell? ⟨b, o + 2, none⟩ = some (.slice f.es.A f.es.n f.es.c) ∧ w.cell? ⟨b, o + 3, none⟩ = some (.slice f.cs.A f.cs.n f.cs.c) ∧ w.cell? ⟨b, o + 4, none⟩ = some (.slice f.ks.A f.ks.n f.ks.c)
theorem PlIn.flat {w : World} {B : Nat} {f : FP} {p : Pl} (h : PlIn w B f p) : f.kind = p.kind ∧ f.table = p.table ∧ SVok f.es p.exprs.length ∧ SVok f.cs p.cols.length ∧ SVok f.ks p.kids.length ∧ ExsIn w B f.es.A p.exprs ∧ Sl 1 intC w B f.cs.A p.cols := by
  obtain ⟨n, h⟩ := h
  cases n with
  | zero => exact h.elim
  | succ n => exact ⟨h.1, h.2.1, h.2.2.1, h.2.2.2.1, h.2.2.2.2.1, h.2.2.2.2.2.1, h.2.2.2.2.2.2.1⟩
theorem PlIn.kid {w : World} {B : Nat} {f : FP} {p : Pl} (h : PlIn w B f p) {i : Nat} (hi : i < p.kids.length) :
    ∃ b o g, f.ks.A = some ⟨b, o, none⟩ ∧ b < B ∧ FpAt w b (o + i * 5) g ∧ PlIn w B g p.kids[i] := by
  obtain ⟨n, h⟩ := h
  cases n with
  | zero => exact h.elim
  | succ n =>
    obtain ⟨_, _, _, _, _, _, _, fs, h7, h8, h9⟩ := h
    have hi' : i < fs.length := by omega
    obtain ⟨b, o, hA, hB, hc⟩ := h8 (by omega)
    have hx := List.getElem?_eq_getElem hi'
    exact ⟨b, o, fs[i], hA, hB, ⟨hc i _ hx 0 _ rfl, hc i _ hx 1 _ rfl, hc i _ hx 2 _ rfl, hc i _ hx 3 _ rfl, hc i _ hx 4 _ rfl⟩, n, h9 i _ _ hx (List.getElem?_eq_getElem hi)⟩
end Go.Qo

/-
  Trees whose blocks are known: held in blocks of a kind 'S'. (For what the generators make.) No program in sight.
-/
namespace Go.Qo
open Go.RowKit
set_option linter.unusedVariables false
set_option linter.unusedSimpArgs false

/-- A slice that reads as a list, its block one of S. -/
def SlS {α : Type} (S : Nat → Prop) (sz : Nat) (enc : α → List Value) (w : World) (A : Option Addr) (xs : List α) : Prop :=
  0 < xs.length → ∃ b off, A = some ⟨b, off, none⟩ ∧ S b ∧ b < w.heap.size ∧ ∀ i x, xs[i]? = some x → ∀ j u, (enc x)[j]? = some u → w.cell? ⟨b, off + i * sz + j, none⟩ = some u
section
variable {α : Type} {S T : Nat → Prop} {sz : Nat} {enc : α → List Value} {w w' : World} {A : Option Addr} {xs : List α}
theorem SlS.nil : SlS S sz enc w A [] := fun h => absurd h (by simp)
theorem SlS.sl (h : SlS S sz enc w A xs) : Sl sz enc w w.heap.size A xs := fun h0 => by
  obtain ⟨b, off, hA, _, hB, hc⟩ := h h0
  exact ⟨b, off, hA, hB, hc⟩
theorem SlS.mono (h : SlS S sz enc w A xs) (hST : ∀ b, b < w.heap.size → S b → T b) : SlS T sz enc w A xs := fun h0 => by
  obtain ⟨b, off, hA, hS, hB, hc⟩ := h h0
  exact ⟨b, off, hA, hST b hB hS, hB, hc⟩
theorem SlS.keep (h : SlS S sz enc w A xs) (hs : w.heap.size ≤ w'.heap.size) (hk : ∀ b, S b → b < w.heap.size → w'.heap[b]? = w.heap[b]?) : SlS S sz enc w' A xs := fun h0 => by
  obtain ⟨b, off, hA, hS, hB, hc⟩ := h h0
  exact ⟨b, off, hA, hS, by omega, fun i x hx j u hu => (World.cell?_of_block (w := w) (a := ⟨b, _, none⟩) (hk b hS hB)).trans (hc i x hx j u hu)⟩
theorem SlS.of_ow {lo : Nat} {e : TypeId} {n c : Nat} (he : ∀ x, (enc x).length = sz) (h : Ow lo e sz enc w (.slice A n c) xs) : SlS (fun b => lo ≤ b) sz enc w A xs := fun h0 => by
  obtain ⟨A', c', hv, _, _, hs⟩ := h.shape he
  cases hv
  obtain ⟨b, off, hA, h1, h2, _, h4⟩ := hs h0
  exact ⟨b, off, hA, h1, h2, h4⟩
end
theorem Row.slS {α : Type} {S : Nat → Prop} {sz : Nat} {enc : α → List Value} (he : ∀ x, (enc x).length = sz) {w : World} {b : Nat} {t : TypeId} {xs : List α} (h : Row w b t (xs.flatMap enc)) (hb : S b) : SlS S sz enc w (some ⟨b, 0, none⟩) xs := fun h0 => by
  obtain ⟨b', off, hA, hB, hc⟩ := (Row.sl' he h) h0
  cases hA
  exact ⟨_, _, rfl, hb, hB, hc⟩

/-- One bound for all of a list. -/
theorem uni {α β : Type} (R : Nat → α → β → Prop) (hm : ∀ n m a b, n ≤ m → R n a b → R m a b) : ∀ (fs : List α) (es : List β), (∀ (i : Nat) (g : α) (x : β), fs[i]? = some g → es[i]? = some x → ∃ n, R n g x) → ∃ n, ∀ (i : Nat) (g : α) (x : β), fs[i]? = some g → es[i]? = some x → R n g x
  | [], _, _ => ⟨0, fun i g x h _ => by simp at h⟩
  | _ :: _, [], _ => ⟨0, fun i g x _ h => by simp at h⟩
  | f :: fs, e :: es, h => by
    obtain ⟨n, hn⟩ := uni R hm fs es fun i g x hg hx => h (i + 1) g x (by simpa using hg) (by simpa using hx)
    obtain ⟨m, hm'⟩ := h 0 f e rfl rfl
    refine ⟨n + m, fun i g x hg hx => ?_⟩
    cases i with
    | zero =>
      simp at hg hx
      subst hg hx
      exact hm _ _ _ _ (by omega) hm'
    | succ i => exact hm _ _ _ _ (by omega) (hn i g x (by simpa using hg) (by simpa using hx))

def ExS (S : Nat → Prop) (w : World) : Nat → FE → Ex → Prop
  | 0, _, _ => False
  | n + 1, f, e => f.kind = e.kind ∧ f.col = e.col ∧ f.val = e.val ∧ f.sv.n = e.kids.length ∧ f.sv.n ≤ f.sv.c ∧ f.sv.c ≤ maxLen ∧ e.kids.length ≤ 1048576 ∧
      ∃ fs : List FE, fs.length = e.kids.length ∧ SlS S 5 feC w f.sv.A fs ∧ ∀ (i : Nat) (g : FE) (x : Ex), fs[i]? = some g → e.kids[i]? = some x → ExS S w n g x
section
variable {S T : Nat → Prop} {w w' : World}
theorem ExS.more : ∀ (n m : Nat) (f : FE) (e : Ex), n ≤ m → ExS S w n f e → ExS S w m f e
  | 0, _, _, _, _, h => h.elim
  | n + 1, 0, _, _, hm, _ => absurd hm (by omega)
  | n + 1, m + 1, f, e, hm, ⟨h1, h2, h3, h4, h5, h6, hb, fs, h7, h8, h9⟩ => ⟨h1, h2, h3, h4, h5, h6, hb, fs, h7, h8, fun i g x hg hx => ExS.more n m g x (by omega) (h9 i g x hg hx)⟩
theorem ExS.map (hf : ∀ A (fs : List FE), SlS S 5 feC w A fs → SlS T 5 feC w' A fs) : ∀ (n : Nat) (f : FE) (e : Ex), ExS S w n f e → ExS T w' n f e
  | 0, _, _, h => h.elim
  | n + 1, f, e, ⟨h1, h2, h3, h4, h5, h6, hb, fs, h7, h8, h9⟩ => ⟨h1, h2, h3, h4, h5, h6, hb, fs, h7, hf _ _ h8, fun i g x hg hx => ExS.map hf n g x (h9 i g x hg hx)⟩
theorem ExS.at_ : ∀ (n : Nat) (f : FE) (e : Ex), ExS S w n f e → ExAt w w.heap.size n f e
  | 0, _, _, h => h.elim
  | n + 1, f, e, ⟨h1, h2, h3, h4, h5, h6, hb, fs, h7, h8, h9⟩ => ⟨h1, h2, h3, h4, h5, h6, fs, h7, h8.sl, fun i g x hg hx => ExS.at_ n g x (h9 i g x hg hx)⟩
/-- Held in blocks of S, however deep. -/
def ExT (S : Nat → Prop) (w : World) (f : FE) (e : Ex) : Prop := ∃ n, ExS S w n f e
theorem ExT.in_ {f : FE} {e : Ex} (h : ExT S w f e) : ExIn w w.heap.size f e := h.imp fun _ h => h.at_
theorem ExT.mono {f : FE} {e : Ex} (h : ExT S w f e) (hST : ∀ b, b < w.heap.size → S b → T b) : ExT T w f e := h.imp fun _ h => ExS.map (fun _ _ h => h.mono hST) _ _ _ h
theorem ExT.keep {f : FE} {e : Ex} (h : ExT S w f e) (hs : w.heap.size ≤ w'.heap.size) (hk : ∀ b, S b → b < w.heap.size → w'.heap[b]? = w.heap[b]?) : ExT S w' f e := h.imp fun _ h => ExS.map (fun _ _ h => h.keep hs hk) _ _ _ h
/-- A list. -/
def ExsT (S : Nat → Prop) (w : World) (A : Option Addr) (es : List Ex) : Prop :=
  ∃ fs : List FE, fs.length = es.length ∧ SlS S 5 feC w A fs ∧ ∀ (i : Nat) (g : FE) (x : Ex), fs[i]? = some g → es[i]? = some x → ExT S w g x
theorem ExsT.in_ {A : Option Addr} {es : List Ex} (h : ExsT S w A es) : ExsIn w w.heap.size A es := by
  obtain ⟨fs, h1, h2, h3⟩ := h
  exact ⟨fs, h1, h2.sl, fun i g x hg hx => (h3 i g x hg hx).in_⟩
theorem ExsT.mono {A : Option Addr} {es : List Ex} (h : ExsT S w A es) (hST : ∀ b, b < w.heap.size → S b → T b) : ExsT T w A es := by
  obtain ⟨fs, h1, h2, h3⟩ := h
  exact ⟨fs, h1, h2.mono hST, fun i g x hg hx => (h3 i g x hg hx).mono hST⟩
theorem ExsT.keep {A : Option Addr} {es : List Ex} (h : ExsT S w A es) (hs : w.heap.size ≤ w'.heap.size) (hk : ∀ b, S b → b < w.heap.size → w'.heap[b]? = w.heap[b]?) : ExsT S w' A es := by
  obtain ⟨fs, h1, h2, h3⟩ := h
  exact ⟨fs, h1, h2.keep hs hk, fun i g x hg hx => (h3 i g x hg hx).keep hs hk⟩
theorem ExsT.nil {A : Option Addr} : ExsT S w A [] := ⟨[], rfl, SlS.nil, fun i g x h _ => by simp at h⟩
/-- An expression from its kids. -/
theorem ExT.make {k c : Int} {v : Val} {A : Option Addr} {n cap : Nat} {es : List Ex} (h : ExsT S w A es) (hn : n = es.length) (h1 : n ≤ cap) (h2 : cap ≤ maxLen) (h3 : es.length ≤ 1048576 := by first | decide | simp | omega) : ExT S w ⟨k, c, v, ⟨A, n, cap⟩⟩ (.mk k c v es) := by
  obtain ⟨fs, e1, e2, e3⟩ := h
  obtain ⟨m, hm⟩ := uni (ExS S w) (fun n m f e => ExS.more n m f e) fs es fun i g x hg hx => e3 i g x hg hx
  exact ⟨m + 1, rfl, rfl, rfl, hn, h1, h2, h3, fs, e1, e2, hm⟩
theorem ExT.leaf {k c : Int} {v : Val} : ExT S w ⟨k, c, v, ⟨none, 0, 0⟩⟩ (.mk k c v []) := ExT.make ExsT.nil rfl (Nat.le_refl _) (by decide)
/-- Other flat cells, the same kids. -/
theorem ExT.flat {f : FE} {e : Ex} (h : ExT S w f e) : f.sv.n = e.kids.length ∧ f.sv.n ≤ f.sv.c ∧ f.sv.c ≤ maxLen ∧ ExsT S w f.sv.A e.kids := by
  obtain ⟨n, h⟩ := h
  cases n with
  | zero => exact h.elim
  | succ n =>
    obtain ⟨h1, h2, h3, h4, h5, h6, hb, fs, h7, h8, h9⟩ := h
    exact ⟨h4, h5, h6, fs, h7, h8, fun i g x hg hx => ⟨n, h9 i g x hg hx⟩⟩
end

def PlS (S : Nat → Prop) (w : World) : Nat → FP → Pl → Prop
  | 0, _, _ => False
  | n + 1, f, p => f.kind = p.kind ∧ f.table = p.table ∧ SVok f.es p.exprs.length ∧ SVok f.cs p.cols.length ∧ SVok f.ks p.kids.length ∧ ExsT S w f.es.A p.exprs ∧ SlS S 1 intC w f.cs.A p.cols ∧ (p.exprs.length ≤ 1048576 ∧ p.cols.length ≤ 1048576 ∧ p.kids.length ≤ 1048576) ∧
      ∃ fs : List FP, fs.length = p.kids.length ∧ SlS S 5 fpC w f.ks.A fs ∧ ∀ (i : Nat) (g : FP) (x : Pl), fs[i]? = some g → p.kids[i]? = some x → PlS S w n g x
section
variable {S T : Nat → Prop} {w w' : World}
theorem PlS.more : ∀ (n m : Nat) (f : FP) (p : Pl), n ≤ m → PlS S w n f p → PlS S w m f p
  | 0, _, _, _, _, h => h.elim
  | n + 1, 0, _, _, hm, _ => absurd hm (by omega)
  | n + 1, m + 1, f, p, hm, ⟨h1, h2, h3, h4, h5, h6, h7, hb, fs, h8, h9, h10⟩ => ⟨h1, h2, h3, h4, h5, h6, h7, hb, fs, h8, h9, fun i g x hg hx => PlS.more n m g x (by omega) (h10 i g x hg hx)⟩
theorem PlS.map (hs : ∀ A (es : List Ex), ExsT S w A es → ExsT T w' A es) (hi : ∀ A (cs : List Int), SlS S 1 intC w A cs → SlS T 1 intC w' A cs) (hf : ∀ A (fs : List FP), SlS S 5 fpC w A fs → SlS T 5 fpC w' A fs) : ∀ (n : Nat) (f : FP) (p : Pl), PlS S w n f p → PlS T w' n f p
  | 0, _, _, h => h.elim
  | n + 1, f, p, ⟨h1, h2, h3, h4, h5, h6, h7, hb, fs, h8, h9, h10⟩ => ⟨h1, h2, h3, h4, h5, hs _ _ h6, hi _ _ h7, hb, fs, h8, hf _ _ h9, fun i g x hg hx => PlS.map hs hi hf n g x (h10 i g x hg hx)⟩
theorem PlS.at_ : ∀ (n : Nat) (f : FP) (p : Pl), PlS S w n f p → PlAt w w.heap.size n f p
  | 0, _, _, h => h.elim
  | n + 1, f, p, ⟨h1, h2, h3, h4, h5, h6, h7, hb, fs, h8, h9, h10⟩ => ⟨h1, h2, h3, h4, h5, h6.in_, h7.sl, fs, h8, h9.sl, fun i g x hg hx => PlS.at_ n g x (h10 i g x hg hx)⟩
def PlT (S : Nat → Prop) (w : World) (f : FP) (p : Pl) : Prop := ∃ n, PlS S w n f p
theorem PlT.in_ {f : FP} {p : Pl} (h : PlT S w f p) : PlIn w w.heap.size f p := h.imp fun _ h => h.at_
theorem PlT.mono {f : FP} {p : Pl} (h : PlT S w f p) (hST : ∀ b, b < w.heap.size → S b → T b) : PlT T w f p := h.imp fun _ h => PlS.map (fun _ _ h => h.mono hST) (fun _ _ h => h.mono hST) (fun _ _ h => h.mono hST) _ _ _ h
theorem PlT.keep {f : FP} {p : Pl} (h : PlT S w f p) (hs : w.heap.size ≤ w'.heap.size) (hk : ∀ b, S b → b < w.heap.size → w'.heap[b]? = w.heap[b]?) : PlT S w' f p := h.imp fun _ h => PlS.map (fun _ _ h => h.keep hs hk) (fun _ _ h => h.keep hs hk) (fun _ _ h => h.keep hs hk) _ _ _ h
def PlsT (S : Nat → Prop) (w : World) (A : Option Addr) (ps : List Pl) : Prop :=
  ∃ fs : List FP, fs.length = ps.length ∧ SlS S 5 fpC w A fs ∧ ∀ (i : Nat) (g : FP) (x : Pl), fs[i]? = some g → ps[i]? = some x → PlT S w g x
theorem PlsT.nil {A : Option Addr} : PlsT S w A [] := ⟨[], rfl, SlS.nil, fun i g x h _ => by simp at h⟩
theorem PlT.make {k t : Int} {es cs ks : SV} {xs : List Ex} {cols : List Int} {ps : List Pl} (h1 : SVok es xs.length) (h2 : SVok cs cols.length) (h3 : SVok ks ps.length) (h4 : ExsT S w es.A xs) (h5 : SlS S 1 intC w cs.A cols) (h6 : PlsT S w ks.A ps) (h7 : xs.length ≤ 1048576 := by first | decide | simp | omega) (h8 : cols.length ≤ 1048576 := by first | decide | simp | omega) (h9 : ps.length ≤ 1048576 := by first | decide | simp | omega) :
    PlT S w ⟨k, t, es, cs, ks⟩ (.mk k t xs cols ps) := by
  obtain ⟨fs, e1, e2, e3⟩ := h6
  obtain ⟨m, hm⟩ := uni (PlS S w) (fun n m f e => PlS.more n m f e) fs ps fun i g x hg hx => e3 i g x hg hx
  exact ⟨m + 1, rfl, rfl, h1, h2, h3, h4, h5, ⟨h7, h8, h9⟩, fs, e1, e2, hm⟩
theorem PlT.flat {f : FP} {p : Pl} (h : PlT S w f p) : f.kind = p.kind ∧ f.table = p.table ∧ SVok f.es p.exprs.length ∧ SVok f.cs p.cols.length ∧ SVok f.ks p.kids.length ∧ ExsT S w f.es.A p.exprs ∧ SlS S 1 intC w f.cs.A p.cols ∧ PlsT S w f.ks.A p.kids := by
  obtain ⟨n, h⟩ := h
  cases n with
  | zero => exact h.elim
  | succ n =>
    obtain ⟨h1, h2, h3, h4, h5, h6, h7, hb, fs, h8, h9, h10⟩ := h
    exact ⟨h1, h2, h3, h4, h5, h6, h7, fs, h8, h9, fun i g x hg hx => ⟨n, h10 i g x hg hx⟩⟩
theorem SVok.nil : SVok ⟨none, 0, 0⟩ 0 := ⟨rfl, Nat.le_refl _, by decide⟩
theorem SVok.lit {A : Option Addr} {n : Nat} (h : n ≤ maxLen) : SVok ⟨A, n, n⟩ n := ⟨rfl, Nat.le_refl _, h⟩
end
theorem feC_one (f : FE) : ∀ u ∈ feC f, u.oneCell' = true := by intro u hu; simp [feC] at hu; rcases hu with rfl | rfl | rfl | rfl | rfl <;> rfl
theorem fpC_one (f : FP) : ∀ u ∈ fpC f, u.oneCell' = true := by intro u hu; simp [fpC] at hu; rcases hu with rfl | rfl | rfl | rfl | rfl <;> rfl

/-- Trees all of whose lists are short. -/
inductive ExB : Ex → Prop where
  | mk {e : Ex} (h : e.kids.length ≤ 1048576) (hk : ∀ x, x ∈ e.kids → ExB x) : ExB e
theorem ExB.len {e : Ex} (h : ExB e) : e.kids.length ≤ 1048576 := by cases h with | mk h _ => exact h
theorem ExB.kid {e x : Ex} (h : ExB e) (hx : x ∈ e.kids) : ExB x := by cases h with | mk _ hk => exact hk x hx
theorem ExS.bnd {S : Nat → Prop} {w : World} : ∀ (n : Nat) (f : FE) (e : Ex), ExS S w n f e → ExB e
  | 0, _, _, h => h.elim
  | n + 1, f, e, ⟨h1, h2, h3, h4, h5, h6, hb, fs, h7, h8, h9⟩ => .mk hb fun x hx => by
    obtain ⟨i, hi, rfl⟩ := List.getElem_of_mem hx
    exact ExS.bnd n fs[i] _ (h9 i _ _ (List.getElem?_eq_getElem (by omega)) (List.getElem?_eq_getElem hi))
theorem ExT.bnd {S : Nat → Prop} {w : World} {f : FE} {e : Ex} (h : ExT S w f e) : ExB e := by obtain ⟨n, h⟩ := h; exact h.bnd
theorem ExsT.bnd {S : Nat → Prop} {w : World} {A : Option Addr} {es : List Ex} (h : ExsT S w A es) : ∀ x ∈ es, ExB x := fun x hx => by
  obtain ⟨fs, h1, h2, h3⟩ := h
  obtain ⟨i, hi, rfl⟩ := List.getElem_of_mem hx
  exact (h3 i fs[i] _ (List.getElem?_eq_getElem (by omega)) (List.getElem?_eq_getElem hi)).bnd
inductive PlB : Pl → Prop where
  | mk {p : Pl} (h1 : p.exprs.length ≤ 1048576) (h2 : p.cols.length ≤ 1048576) (h3 : p.kids.length ≤ 1048576) (he : ∀ x, x ∈ p.exprs → ExB x) (hk : ∀ x, x ∈ p.kids → PlB x) : PlB p
theorem PlB.all {p : Pl} (h : PlB p) : (p.exprs.length ≤ 1048576 ∧ p.cols.length ≤ 1048576 ∧ p.kids.length ≤ 1048576) ∧ (∀ x ∈ p.exprs, ExB x) ∧ ∀ x ∈ p.kids, PlB x := by cases h with | mk h1 h2 h3 he hk => exact ⟨⟨h1, h2, h3⟩, he, hk⟩
theorem PlS.bnd {S : Nat → Prop} {w : World} : ∀ (n : Nat) (f : FP) (p : Pl), PlS S w n f p → PlB p
  | 0, _, _, h => h.elim
  | n + 1, f, p, ⟨h1, h2, h3, h4, h5, h6, h7, hb, fs, h8, h9, h10⟩ => .mk hb.1 hb.2.1 hb.2.2 h6.bnd fun x hx => by
    obtain ⟨i, hi, rfl⟩ := List.getElem_of_mem hx
    exact PlS.bnd n fs[i] _ (h10 i _ _ (List.getElem?_eq_getElem (by omega)) (List.getElem?_eq_getElem hi))
theorem PlT.bnd {S : Nat → Prop} {w : World} {f : FP} {p : Pl} (h : PlT S w f p) : PlB p := by obtain ⟨n, h⟩ := h; exact h.bnd
end Go.Qo

/-
  Contracts of the reader of drawn data: newReader, pick, one.
-/
namespace Go.Proofs.YtmhlpjfijpomkaaGreatDoor
open Go.RowKit Go.Qo
set_option linter.unusedVariables false
set_option linter.unusedSimpArgs false

/-- The reader at block b: at most 2000 bytes, its counter at most p. -/
def Rd (w : World) (b : Nat) (p : Nat) : Prop :=
  ∃ (A : Option Addr) (xs : List Int) (c : Nat) (q : Nat), xs.length ≤ 2000 ∧ (∀ x ∈ xs, 0 ≤ x ∧ x ≤ 255) ∧ Row w b 94 [.slice A xs.length c, .int .i64 q] ∧ q ≤ p ∧ Sl 1 byteC w b A xs
theorem Rd.lt {w : World} {b p : Nat} (h : Rd w b p) : b < w.heap.size := by obtain ⟨A, xs, c, q, _, _, h, _⟩ := h; exact h.lt
theorem Rd.mono {w : World} {b p p' : Nat} (h : Rd w b p) (hp : p ≤ p') : Rd w b p' := by
  obtain ⟨A, xs, c, q, h1, h2, h3, h4, h5⟩ := h
  exact ⟨A, xs, c, q, h1, h2, h3, by omega, h5⟩
theorem Rd.on {w w' : World} {b p : Nat} (h : Rd w b p) (hb : Below w.heap.size w w') : Rd w' b p := by
  obtain ⟨A, xs, c, q, h1, h2, h3, h4, h5⟩ := h
  exact ⟨A, xs, c, q, h1, h2, h3.on hb, h4, h5.below (hb.mono (by have := h3.lt; omega))⟩
theorem Rd.grown {w w' : World} {b p : Nat} {row : Option Nat} (h : Rd w b p) (hg : w.grownBy w' row) (hr : ∀ k, row = some k → b < k) : Rd w' b p := by
  obtain ⟨A, xs, c, q, h1, h2, h3, h4, h5⟩ := h
  have hl := h3.lt
  have hk : ∀ k, k ≤ b → w'.heap[k]? = w.heap[k]? := fun k hk => hg.block k (by omega) fun e => by have := hr k e.symm; omega
  exact ⟨A, xs, c, q, h1, h2, h3.keep (hk b (Nat.le_refl _)), h4, h5.keep fun k o hk' => World.cell?_of_block (w := w) (a := ⟨k, o, none⟩) (hk k (by omega))⟩
theorem Rd.set {w : World} {b p : Nat} (h : Rd w b p) {a : Addr} (ha : b < a.block) (u : Value) : Rd (w.setCell a u) b p := by
  obtain ⟨A, xs, c, q, h1, h2, h3, h4, h5⟩ := h
  exact ⟨A, xs, c, q, h1, h2, h3.far (by omega) u, h4, h5.keep fun k o hk => World.cell?_of_block (w := w) (a := ⟨k, o, none⟩) (Below.heap_setCell _ _ _ _ (show k ≠ a.block by omega))⟩

theorem bxor_i64_nonneg {a b : Int} (ha : 0 ≤ a) (ha2 : a < 9223372036854775808) (hb : 0 ≤ b) (hb2 : b < 9223372036854775808) : 0 ≤ bits .xor .i64 a b := by
  obtain ⟨m, rfl⟩ := Int.eq_ofNat_of_zero_le ha
  obtain ⟨n, rfl⟩ := Int.eq_ofNat_of_zero_le hb
  have hx : m ^^^ n < 2 ^ 63 := Nat.xor_lt_two_pow (by omega) (by omega)
  show 0 ≤ IntKind.i64.wrap ((BitVec.ofInt 64 (m : Int) ^^^ BitVec.ofInt 64 (n : Int)).toNat : Int)
  rw [BitVec.toNat_xor, ofInt_i64' m (by omega), ofInt_i64' n (by omega), IntKind.wrap_i64]
  omega
/-- What pick says of its result. -/
def Picks (n r : Int) : Prop := 0 ≤ r ∧ (1 ≤ n → r < n) ∧ (n < 1 → r = 0)

set_option maxHeartbeats 1000000 in
theorem pick_ok (b p : Nat) (n : Int) (w : World) (h : Rd w b p) (hp : p ≤ 1099511627776) :
    Calls Tryz.prog 41 #[.pointer (some ⟨b, 0, none⟩), .int .i64 n] w fun e w' => ∃ r : Int, e = .returned (.int .i64 r) ∧ Picks n r ∧ But b w w' ∧ w.heap.size = w'.heap.size ∧ Rd w' b (p + 1) := by
  obtain ⟨A, xs, c, q, h1, h2, h3, h4, h5⟩ := h
  have c0 : w.cell? ⟨b, 0, none⟩ = some (.slice A xs.length c) := h3.cell 0
  have c1 : w.cell? ⟨b, 1, none⟩ = some (.int .i64 q) := h3.cell 1
  have f1 := h3.frozen 1
  have hR : Rd (w.setCell ⟨b, 1, none⟩ (.int .i64 ((q : Int) + 1))) b (p + 1) := ⟨A, xs, c, q + 1, h1, h2, (h3.set 1 _).of rfl, by omega, h5.keep fun k o hk => World.cell?_of_block (w := w) (a := ⟨k, o, none⟩) (Below.heap_setCell _ _ _ _ (show k ≠ b by omega))⟩
  have hO : But b w (w.setCell ⟨b, 1, none⟩ (.int .i64 ((q : Int) + 1))) := Only.set (S := fun k => k = b) (p := ⟨b, 1, none⟩) (Only.refl w) (.inl rfl) _
  have HR := Lib.hid (And.intro hR (And.intro hO (show w.heap.size = (w.setCell ⟨b, 1, none⟩ (.int .i64 ((q : Int) + 1))).heap.size by simp [World.setCell])))
  have hq : (q : Int) ≤ 1099511627776 := by omega
  have hadd : IntKind.i64.wrap ((q : Int) + 1) = ((q + 1 : Nat) : Int) := by rw [IntWalk.i64_in _ (by omega)]; omega
  clear hR hO h3
  by_cases hn : n < 1
  · go_enter Tryz.func41, Tryz.ntmps41
    go_wp2
    go_ret
    exact ⟨0, rfl, ⟨by omega, by omega, fun _ => rfl⟩, HR.out.2.1, HR.out.2.2, HR.out.1⟩
  · by_cases h0 : xs.length = 0
    · have h0' : (xs.length : Int) = 0 := by omega
      go_enter Tryz.func41, Tryz.ntmps41
      go_wp2
      go_ret
      exact ⟨0, rfl, ⟨by omega, by omega, fun _ => rfl⟩, HR.out.2.1, HR.out.2.2, HR.out.1⟩
    · by_cases hlt : q < xs.length
      · obtain ⟨b', off, hA, hB, d1⟩ := h5.at1 hlt
        have hv := h2 _ (List.getElem_mem hlt)
        generalize xs[q] = x at *
        subst hA
        have hne : ¬ b' = b := by omega
        go_enter Tryz.func41, Tryz.ntmps41
        go_wp2
        go_ret
        exact ⟨_, rfl, ⟨Int.emod_nonneg _ (by omega), fun h => Int.emod_lt_of_pos _ (by omega), fun h => absurd h (by omega)⟩, HR.out.2.1, HR.out.2.2, HR.out.1⟩
      · have hl0 : 0 < xs.length := by omega
        have hi1 : q % xs.length < xs.length := Nat.mod_lt _ hl0
        have hi2 : (q * 7 + 3) % xs.length < xs.length := Nat.mod_lt _ hl0
        obtain ⟨b', off, hA, hB, d1⟩ := h5.at1 hi1
        obtain ⟨b'', off', hA', hB', d2⟩ := h5.at1 hi2
        have hv1 := h2 _ (List.getElem_mem hi1)
        have hv2 := h2 _ (List.getElem_mem hi2)
        subst hA
        cases hA'
        obtain ⟨x1, hx1⟩ : ∃ x1, xs[q % xs.length] = x1 := ⟨_, rfl⟩
        obtain ⟨x2, hx2⟩ : ∃ x2, xs[(q * 7 + 3) % xs.length] = x2 := ⟨_, rfl⟩
        rw [hx1] at d1 hv1
        rw [hx2] at d2 hv2
        have hne : ¬ b' = b := by omega
        have e1 : ((q : Int) % (xs.length : Int)).toNat = q % xs.length := by rw [← Int.natCast_emod, Int.toNat_natCast]
        have e2 : (((q : Int) * 7 + 3) % (xs.length : Int)).toNat = (q * 7 + 3) % xs.length := by
          have : (q : Int) * 7 + 3 = ((q * 7 + 3 : Nat) : Int) := by omega
          rw [this, ← Int.natCast_emod, Int.toNat_natCast]
        have e3 : (0 : Int) ≤ (q : Int) % (xs.length : Int) := Int.emod_nonneg _ (by omega)
        have e4 : (q : Int) % (xs.length : Int) < xs.length := Int.emod_lt_of_pos _ (by omega)
        have e5 : (0 : Int) ≤ ((q : Int) * 7 + 3) % (xs.length : Int) := Int.emod_nonneg _ (by omega)
        have e6 : ((q : Int) * 7 + 3) % (xs.length : Int) < xs.length := Int.emod_lt_of_pos _ (by omega)
        clear hx1 hx2
        have ed0 : (0 : Int) ≤ (q : Int) / (xs.length : Int) := Int.ediv_nonneg (by omega) (by omega)
        have ed1 : (q : Int) / (xs.length : Int) ≤ q := Int.ediv_le_self _ (by omega)
        obtain ⟨dv, hdv⟩ : ∃ dv, (q : Int) / (xs.length : Int) = dv := ⟨_, rfl⟩
        rw [hdv] at ed0 ed1
        obtain ⟨X, hX⟩ : ∃ X, x1 * 131 + x2 * 1117 + (q : Int) * 29 + dv * 53 = X := ⟨_, rfl⟩
        have hX0 : 0 ≤ X := by omega
        have hX1 : X ≤ 4611686018427387904 := by omega
        obtain ⟨Y, hY⟩ : ∃ Y, bits .xor .i64 X (X / 64) = Y := ⟨_, rfl⟩
        have hY0 : 0 ≤ Y := by rw [← hY]; exact bxor_i64_nonneg hX0 (by omega) (by omega) (by omega)
        go_enter Tryz.func41, Tryz.ntmps41
        go_wp2
        go_quiet (fail)
        go_wp2
        go_ret
        exact ⟨_, rfl, ⟨Int.emod_nonneg _ (by omega), fun h => Int.emod_lt_of_pos _ (by omega), fun h => absurd h (by omega)⟩, HR.out.2.1.below (bdrewN (Below.refl _ _) nq), HR.out.2.2, HR.out.1.on (bdrewN (Below.refl _ _) nq)⟩

theorem one_ok (b p : Nat) (A : Option Addr) (c : Nat) (xs : List Int) (w : World) (h : Rd w b p) (hp : p ≤ 1099511627776) (hn : 0 < xs.length) (hn2 : xs.length ≤ 1048576) (hs : Sl 1 intC w w.heap.size A xs) (hA : ∀ a, A = some a → a.block ≠ b) :
    Calls Tryz.prog 76 #[.pointer (some ⟨b, 0, none⟩), .slice A xs.length c] w fun e w' => ∃ r : Int, e = .returned (.int .i64 r) ∧ r ∈ xs ∧ But b w w' ∧ w.heap.size = w'.heap.size ∧ Rd w' b (p + 1) := by
  have HP := Lib.hid (pick_ok b p xs.length w h hp)
  have HS := Lib.hid (And.intro hs hA)
  clear hs hA
  go_enter Tryz.func76, Tryz.ntmps76
  go_wp2_with fail
  refine HP.out.mono ?_
  rintro e w1 ⟨r, rfl, hr, hb1, hsz, hR⟩
  have h0 := hr.1
  have h1 := hr.2.1 (by omega)
  obtain ⟨k, rfl⟩ := Int.eq_ofNat_of_zero_le h0
  have hk : k < xs.length := by omega
  obtain ⟨b', off, rfl, hB, d1⟩ := HS.out.1.at1 hk
  have hne := HS.out.2 _ rfl
  have d1' : w1.cell? ⟨b', off + k, none⟩ = some (.int .i64 xs[k]) := (World.cell?_of_block (w := w) (a := ⟨b', off + k, none⟩) (hb1.block b' hB hne)).trans d1
  have hm := List.getElem_mem hk
  generalize xs[k] = x at *
  have HB := Lib.hid (And.intro hb1 (And.intro hsz hR))
  clear hb1 hsz hR d1 hne hr
  go_wp2
  go_ret
  exact ⟨x, rfl, hm, HB.out.1, HB.out.2.1, HB.out.2.2⟩

theorem newReader_ok (A : Option Addr) (c : Nat) (xs : List Int) (w : World) (hn : xs.length ≤ c) (hc : c ≤ maxLen) (hg : ∀ x ∈ xs, 0 ≤ x ∧ x ≤ 255) (hs : Sl 1 byteC w w.heap.size A xs) :
    Calls Tryz.prog 38 #[.slice A xs.length c] w fun e w' => e = .returned (.pointer (some ⟨w.heap.size, 0, none⟩)) ∧ Below w.heap.size w w' ∧ Rd w' w.heap.size 0 := by
  unfold maxLen at hc
  have HS := Lib.hid hs
  clear hs
  by_cases h : xs.length ≤ 2000
  · go_enter Tryz.func38, Tryz.ntmps38
    go_wp2
    go_ret
    exact ⟨rfl, balloc (Below.refl _ _) _, A, xs, c, 0, h, hg, (Row.new _ _ _).of rfl, by omega, HS.out.keep fun b o hb => (balloc (Below.refl _ _) _).cell (p := ⟨b, o, none⟩) hb⟩
  · go_enter Tryz.func38, Tryz.ntmps38
    go_wp2
    go_ret
    have hl : (xs.take 2000).length = 2000 := by rw [List.length_take]; omega
    refine ⟨rfl, balloc (Below.refl _ _) _, A, xs.take 2000, c, 0, by omega, fun x hx => hg x (List.mem_of_mem_take hx), ?_, by omega, (HS.out.cut 2000).keep fun b o hb => (balloc (Below.refl _ _) _).cell (p := ⟨b, o, none⟩) hb⟩
    rw [hl]
    exact (Row.new _ _ _).of rfl

end Go.Proofs.YtmhlpjfijpomkaaGreatDoor

/-
  Contracts: two expressions that hold one tree are equal (equalExprs, equalLists).
-/
namespace Go.Proofs.YtmhlpjfijpomkaaGreatDoor
open Go.RowKit Go.Qo
set_option linter.unusedVariables false
set_option linter.unusedSimpArgs false

theorem eqlV {x y : Val} (r : Bool) (hr : decide (x = y) = r) (w : World) : (binOp .eql 38 (.agg #[.bool x.1, .int .i64 x.2]) (.agg #[.bool y.1, .int .i64 y.2])).run Tryz.prog w = .ok (.bool r) w := by
  have hs : Tryz.prog.stoodInHeld 38 = false := by kernel_rfl
  subst hr
  obtain ⟨a, b⟩ := x
  obtain ⟨c, d⟩ := y
  simp [go_sem, hs]
  by_cases h1 : a = c <;> by_cases h2 : b = d <;> simp [h1, h2]
/-- An expression as a value. -/
def feV (f : FE) : Value := .agg #[.int .i64 f.kind, .int .i64 f.col, .bool f.val.1, .int .i64 f.val.2, .slice f.sv.A f.sv.n f.sv.c]
def EqE (x : Ex) : Prop := ∀ (f g : FE) (w : World), ExIn w w.heap.size f x → ExIn w w.heap.size g x →
  Calls Tryz.prog 17 #[feV f, feV g] w fun e w' => e = .returned (.bool true) ∧ Below w.heap.size w w'

set_option maxRecDepth 20000 in
set_option maxHeartbeats 2000000 in
theorem equalLists_of (es : List Ex) (he : ∀ x ∈ es, EqE x) (A A' : Option Addr) (c c' : Nat) (w : World) (hn : es.length ≤ maxLen) (h : ExsIn w w.heap.size A es) (h' : ExsIn w w.heap.size A' es) :
    Calls Tryz.prog 48 #[.slice A es.length c, .slice A' es.length c'] w fun e w' => e = .returned (.bool true) ∧ Below w.heap.size w w' := by
  have HE := Lib.hid he
  have HH := Lib.hid (And.intro h h')
  clear he h h'
  unfold maxLen at hn
  go_enter Tryz.func48, Tryz.ntmps48
  go_wp2
  go_loopg [5] es.length (fun g iv wr => ∃ i : Nat, i ≤ es.length ∧ g = es.length - i ∧ iv = .int .i64 i ∧ Below w.heap.size w wr)
  case atStart => exact ⟨0, by omega, by omega, rfl, Below.refl _ _⟩
  case round =>
    obtain ⟨i, hi, rfl, rfl, hb⟩ := hrel
    have HB := Lib.hid hb
    clear hb
    by_cases hlt : i < es.length
    · obtain ⟨b1, o1, f, hA, hB1, ⟨d0, d1, d2, d3, d4⟩, hf⟩ := (HH.out.1.on HB.out).at_ hlt
      obtain ⟨b2, o2, g, hA', hB2, ⟨k0, k1, k2, k3, k4⟩, hg⟩ := (HH.out.2.on HB.out).at_ hlt
      subst hA
      subst hA'
      have HX := Lib.hid (fun z : Aft wr.heap.size wr => HE.out _ (List.getElem_mem hlt) f g z.v (hf.on z.h) (hg.on z.h))
      unfold feV at HX
      have hil : (i : Int) < (es.length : Int) := by omega
      have D0 := fun z : Aft wr.heap.size wr => z.cell hB1 d0
      have D1 := fun z : Aft wr.heap.size wr => z.cell hB1 d1
      have D2 := fun z : Aft wr.heap.size wr => z.cell hB1 d2
      have D3 := fun z : Aft wr.heap.size wr => z.cell hB1 d3
      have D4 := fun z : Aft wr.heap.size wr => z.cell hB1 d4
      have K0 := fun z : Aft wr.heap.size wr => z.cell hB2 k0
      have K1 := fun z : Aft wr.heap.size wr => z.cell hB2 k1
      have K2 := fun z : Aft wr.heap.size wr => z.cell hB2 k2
      have K3 := fun z : Aft wr.heap.size wr => z.cell hB2 k3
      have K4 := fun z : Aft wr.heap.size wr => z.cell hB2 k4
      clear hf hg d0 d1 d2 d3 d4 k0 k1 k2 k3 k4
      go_wp2
      refine wp_region_aft wr.heap.size (by kernel_rfl) (by kernel_rfl) ?_
      repeat (go_big_quiet_step ((go_at_call 17; exact Calls.aft (Nat.le_refl _) (HX.out _))))
      refine wpQuiet_nil ?_
      intro w2 hw'
      obtain ⟨⟨_, hb2⟩, rfl⟩ := hw'
      go_wp2
      have H2 := Lib.hid (bch HB.out hb2)
      clear hb2 D0 D1 D2 D3 D4 K0 K1 K2 K3 K4
      go_wp2
      go_roundg (es.length - (i + 1))
      case measure => omega
      case rel => exact ⟨i + 1, by omega, rfl, by go_num, H2.out⟩
    · go_wp2
      go_ret
      exact ⟨rfl, HB.out⟩

set_option maxRecDepth 20000 in
set_option maxHeartbeats 2000000 in
theorem equalExprs_ok : ∀ x : Ex, EqE x := Ex.ind fun x ih f g w h h' => by
  obtain ⟨a1, a2, a3, a4, a5, a6⟩ := h.flat
  obtain ⟨b1, b2, b3, b4, b5, b6⟩ := h'.flat
  have e1 : g.kind = f.kind := b1.trans a1.symm
  have e2 : g.col = f.col := b2.trans a2.symm
  have e3 : g.val = f.val := b3.trans a3.symm
  obtain ⟨W1, hW1⟩ : ∃ z, (w.alloc (.cells #[.int .i64 f.kind, .int .i64 f.col, .bool f.val.1, .int .i64 f.val.2, .slice f.sv.A x.kids.length f.sv.c] 40)).alloc (.cells #[.int .i64 f.kind, .int .i64 f.col, .bool f.val.1, .int .i64 f.val.2, .slice g.sv.A x.kids.length g.sv.c] 40) = z := ⟨_, rfl⟩
  have B1 : Below w.heap.size w W1 := by rw [← hW1]; exact balloc (balloc (Below.refl _ _) _) _
  have r1 : Row W1 w.heap.size 40 [.int .i64 f.kind, .int .i64 f.col, .bool f.val.1, .int .i64 f.val.2, .slice f.sv.A x.kids.length f.sv.c] := by rw [← hW1]; exact Row.first _ _ _ _
  have r2 : Row W1 (w.heap.size + 1) 40 [.int .i64 f.kind, .int .i64 f.col, .bool f.val.1, .int .i64 f.val.2, .slice g.sv.A x.kids.length g.sv.c] := by rw [← hW1]; exact Row.second _ _ _ _
  have HL := Lib.hid (equalLists_of x.kids ih f.sv.A g.sv.A f.sv.c g.sv.c W1 (by omega) (h.kids_in.on B1) (h'.kids_in.on B1))
  have HB1 := Lib.hid B1
  have HW1 := Lib.hid hW1
  have c0 : W1.cell? ⟨w.heap.size, 0, none⟩ = some (.int .i64 f.kind) := r1.cell 0
  have c1 : W1.cell? ⟨w.heap.size, 1, none⟩ = some (.int .i64 f.col) := r1.cell 1
  have c2 : W1.cell? ⟨w.heap.size, 2, none⟩ = some (.bool f.val.1) := r1.cell 2
  have c3 : W1.cell? ⟨w.heap.size, 3, none⟩ = some (.int .i64 f.val.2) := r1.cell 3
  have c4 : W1.cell? ⟨w.heap.size, 4, none⟩ = some (.slice f.sv.A x.kids.length f.sv.c) := r1.cell 4
  have k0 : W1.cell? ⟨w.heap.size + 1, 0, none⟩ = some (.int .i64 f.kind) := r2.cell 0
  have k1 : W1.cell? ⟨w.heap.size + 1, 1, none⟩ = some (.int .i64 f.col) := r2.cell 1
  have k2 : W1.cell? ⟨w.heap.size + 1, 2, none⟩ = some (.bool f.val.1) := r2.cell 2
  have k3 : W1.cell? ⟨w.heap.size + 1, 3, none⟩ = some (.int .i64 f.val.2) := r2.cell 3
  have k4 : W1.cell? ⟨w.heap.size + 1, 4, none⟩ = some (.slice g.sv.A x.kids.length g.sv.c) := r2.cell 4
  have hev := fun z => eqlV (x := f.val) (y := f.val) true (by simp) z
  unfold feV
  rw [e1, e2, e3, a4, b4]
  clear h h' ih a1 a2 a3 a4 a5 a6 b1 b2 b3 b4 b5 b6 e1 e2 e3 B1 r1 r2 hW1
  go_enter Tryz.func17, Tryz.ntmps17
  go_upto_region 1 with fail
  rw [HW1.out]
  go_wp2_with fail
  refine HL.out.mono ?_
  rintro e w2 ⟨rfl, hb2⟩
  go_wp2
  go_ret
  exact ⟨rfl, bch HB1.out hb2⟩
end Go.Proofs.YtmhlpjfijpomkaaGreatDoor

/-
  Contracts of the functions that mark a result's memory and look whether the marks are still held: rows of values, numbers.
-/
namespace Go.Proofs.YtmhlpjfijpomkaaGreatDoor
open Go.RowKit Go.Qo
set_option linter.unusedVariables false
set_option linter.unusedSimpArgs false

theorem set_mid {α : Type} (xs ys : List α) (y : α) (i : Nat) (hl : xs.length = i) (hi : i < ys.length) : (xs ++ ys.drop i).set i y = (xs ++ [y]) ++ ys.drop (i + 1) := by
  rw [List.set_append_right _ _ (by omega), hl, Nat.sub_self, List.drop_eq_getElem_cons hi, List.set_cons_zero, List.append_assoc, List.singleton_append]

end Go.Proofs.YtmhlpjfijpomkaaGreatDoor

/-
  Contracts of the functions of values and rows: the laws' own, the reference's, the program's.
-/
namespace Go.Proofs.YtmhlpjfijpomkaaGreatDoor
open Go.RowKit Go.Qo
set_option linter.unusedVariables false
set_option linter.unusedSimpArgs false

/-! ### Numbers -/
set_option maxHeartbeats 400000 in
theorem inRange_ok (n lo hi : Int) (w : World) (r : Bool) (hr : (decide (lo ≤ n) && decide (n ≤ hi)) = r) :
    Calls Tryz.prog 88 #[.int .i64 n, .int .i64 lo, .int .i64 hi] w fun e w' => e = .returned (.bool r) ∧ w = w' := by
  subst hr
  by_cases h1 : lo ≤ n <;> by_cases h2 : n ≤ hi
  all_goals
    go_enter Tryz.func88, Tryz.ntmps88
    go_wp2
    go_ret
    exact ⟨ret_bool (by simp [h1, h2]; try omega), rfl⟩

set_option maxHeartbeats 400000 in
theorem validWidth_ok (n : Int) (w : World) (r : Bool) (hr : (decide (1 ≤ n) && decide (n ≤ 6)) = r) :
    Calls Tryz.prog 50 #[.int .i64 n] w fun e w' => e = .returned (.bool r) ∧ w = w' := by
  subst hr
  by_cases h1 : 1 ≤ n <;> by_cases h2 : n ≤ 6
  all_goals
    go_enter Tryz.func50, Tryz.ntmps50
    go_wp2
    go_ret
    exact ⟨ret_bool (by simp [h1, h2]; try omega), rfl⟩

set_option maxHeartbeats 400000 in
theorem specValidValue_ok (v : Val) (w : World) (r : Bool) (hr : vValid v = r) :
    Calls Tryz.prog 109 #[.agg #[.bool v.1, .int .i64 v.2]] w fun e w' => e = .returned (.bool r) ∧ Below w.heap.size w w' := by
  subst hr
  obtain ⟨nl, n⟩ := v
  have hx : vValid (nl, n) = ((decide (-9999 ≤ n) && decide (n ≤ 9999)) && (!nl || n == 0)) := by
    unfold vValid; cases nl <;> simp
    by_cases h : n = 0 <;> simp [h]
  obtain ⟨r, hr⟩ : ∃ r, (decide (-9999 ≤ n) && decide (n ≤ 9999)) = r := ⟨_, rfl⟩
  have c1 := Lib.hid (fun w => inRange_ok n (-9999) 9999 w r hr)
  rw [hx, hr]
  clear hx hr
  cases r <;> cases nl
  all_goals
    go_enter Tryz.func109, Tryz.ntmps109
    go_wp2_with fail
    refine (c1.out _).mono ?_; rintro e w' ⟨rfl, rfl⟩
    go_wp2
    go_ret
    exact ⟨ret_bool (by simp), balloc (Below.refl _ _) _⟩

set_option maxHeartbeats 400000 in
theorem implValid_ok (v : Val) (w : World) (r : Bool) (hr : vValid v = r) :
    Calls Tryz.prog 93 #[.agg #[.bool v.1, .int .i64 v.2]] w fun e w' => e = .returned (.bool r) ∧ Below w.heap.size w w' := by
  subst hr
  obtain ⟨nl, n⟩ := v
  unfold vValid
  by_cases h1 : -9999 ≤ n <;> cases nl
  all_goals
    go_enter Tryz.func93, Tryz.ntmps93
    go_wp2
    go_ret
    exact ⟨ret_bool (by simp [h1]; try omega), balloc (Below.refl _ _) _⟩

theorem neqVal {x y : Val} (r : Bool) (hr : decide (x ≠ y) = r) (w : World) : (binOp .neq 38 (.agg #[.bool x.1, .int .i64 x.2]) (.agg #[.bool y.1, .int .i64 y.2])).run Tryz.prog w = .ok (.bool r) w := by
  have hs : Tryz.prog.stoodInHeld 38 = false := by kernel_rfl
  subst hr
  obtain ⟨a, b⟩ := x
  obtain ⟨c, d⟩ := y
  simp [go_sem, hs]
  by_cases h1 : a = c <;> by_cases h2 : b = d <;> simp [h1, h2]
end Go.Proofs.YtmhlpjfijpomkaaGreatDoor

/-
  Contracts: lists of numbers compared, marks of numbers still held; marks of tables.
-/
namespace Go.Proofs.YtmhlpjfijpomkaaGreatDoor
open Go.RowKit Go.Qo
set_option linter.unusedVariables false
set_option linter.unusedSimpArgs false

/-- 'flat_setI' (XMark), for seats that have no markIntS. -/
theorem flat_setI2 : ∀ (xs : List Int) (j : Nat) (y : Int), (xs.flatMap intC).set j (.int .i64 y) = (xs.set j y).flatMap intC
  | [], j, y => by simp
  | x :: xs, 0, y => by simp [intC]
  | x :: xs, j + 1, y => by
    have ih := flat_setI2 xs j y
    simpa [intC] using ih
theorem Ints.at_ {w : World} {B : Nat} {A : Option Addr} {xs : List Int} (h : Sl 1 intC w B A xs) {i : Nat} (hi : i < xs.length) : ∃ b off, A = some ⟨b, off, none⟩ ∧ b < B ∧ w.cell? ⟨b, off + i, none⟩ = some (.int .i64 xs[i]) := Sl.at1 (f := Value.int .i64) h hi

end Go.Proofs.YtmhlpjfijpomkaaGreatDoor
