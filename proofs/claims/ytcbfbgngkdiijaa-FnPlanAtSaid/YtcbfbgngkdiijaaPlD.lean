/-
  Trees of plans, and how a memory holds one.
-/
import Derived.Test.YtcbfbgngkdiijaaExD
import Derived.Test.YtcbfbgngkdiijaaPln
namespace Go.Qo
open Go.RowKit
set_option linter.unusedVariables false
set_option linter.unusedSimpArgs false

/-- Held, however many levels deep. -/
def ExIn (w : World) (B : Nat) (f : FE) (e : Ex) : Prop := ∃ n, ExAt w B n f e
theorem ExIn.below {w w' : World} {B : Nat} {f : FE} {e : Ex} (h : ExIn w B f e) (hb : Below B w w') : ExIn w' B f e := h.imp fun _ h => h.below hb
theorem ExIn.on {w w' : World} {f : FE} {e : Ex} (h : ExIn w w.heap.size f e) (hb : Below w.heap.size w w') : ExIn w' w'.heap.size f e := h.imp fun _ h => h.on hb
theorem ExIn.flat {w : World} {B : Nat} {f : FE} {e : Ex} (h : ExIn w B f e) : f.kind = e.kind ∧ f.col = e.col ∧ f.val = e.val ∧ f.sv.n = e.kids.length ∧ f.sv.n ≤ f.sv.c ∧ f.sv.c ≤ maxLen := by
  obtain ⟨n, h⟩ := h
  cases n with
  | zero => exact h.elim
  | succ n => exact ⟨h.1, h.2.1, h.2.2.1, h.2.2.2.1, h.2.2.2.2.1, h.2.2.2.2.2.1⟩
theorem ExIn.kid {w : World} {B : Nat} {f : FE} {e : Ex} (h : ExIn w B f e) {i : Nat} (hi : i < e.kids.length) :
    ∃ b o g, f.sv.A = some ⟨b, o, none⟩ ∧ b < B ∧ FeAt w b (o + i * 5) g ∧ ExIn w B g e.kids[i] := by
  obtain ⟨n, h⟩ := h
  cases n with
  | zero => exact h.elim
  | succ n =>
    obtain ⟨b, o, g, h1, h2, h3, h4⟩ := h.kid hi
    exact ⟨b, o, g, h1, h2, h3, n, h4⟩
/-- A list of expressions. -/
def ExsIn (w : World) (B : Nat) (A : Option Addr) (es : List Ex) : Prop :=
  ∃ fs : List FE, fs.length = es.length ∧ Sl 5 feC w B A fs ∧ ∀ (i : Nat) (g : FE) (x : Ex), fs[i]? = some g → es[i]? = some x → ExIn w B g x
theorem ExsIn.on {w w' : World} {A : Option Addr} {es : List Ex} (h : ExsIn w w.heap.size A es) (hb : Below w.heap.size w w') : ExsIn w' w'.heap.size A es := by
  obtain ⟨fs, h1, h2, h3⟩ := h
  exact ⟨fs, h1, h2.on hb, fun i g x hg hx => (h3 i g x hg hx).on hb⟩
theorem ExsIn.at_ {w : World} {B : Nat} {A : Option Addr} {es : List Ex} (h : ExsIn w B A es) {i : Nat} (hi : i < es.length) : ∃ b o g, A = some ⟨b, o, none⟩ ∧ b < B ∧ FeAt w b (o + i * 5) g ∧ ExIn w B g es[i] := by
  obtain ⟨fs, h1, h2, h3⟩ := h
  have hi' : i < fs.length := by omega
  obtain ⟨b, o, hA, hB, hf⟩ := feAt_of h2 hi'
  exact ⟨b, o, fs[i], hA, hB, hf, h3 i _ _ (List.getElem?_eq_getElem hi') (List.getElem?_eq_getElem hi)⟩
theorem ExIn.kids_in {w : World} {B : Nat} {f : FE} {e : Ex} (h : ExIn w B f e) : ExsIn w B f.sv.A e.kids := by
  obtain ⟨n, h⟩ := h
  cases n with
  | zero => exact h.elim
  | succ n =>
    obtain ⟨_, _, _, _, _, _, fs, h7, h8, h9⟩ := h
    exact ⟨fs, h7, h8, fun i g x hg hx => ⟨n, h9 i g x hg hx⟩⟩

/-- A plan: kind, table, expressions, columns, kids. -/
inductive Pl where
  | mk (kind table : Int) (exprs : List Ex) (cols : List Int) (kids : List Pl)
namespace Pl
def kind : Pl → Int | .mk k _ _ _ _ => k
def table : Pl → Int | .mk _ t _ _ _ => t
def exprs : Pl → List Ex | .mk _ _ es _ _ => es
def cols : Pl → List Int | .mk _ _ _ cs _ => cs
def kids : Pl → List Pl | .mk _ _ _ _ ks => ks
theorem kid_lt {p x : Pl} (h : x ∈ p.kids) : SizeOf.sizeOf x < SizeOf.sizeOf p := by
  obtain ⟨k, t, es, cs, ks⟩ := p
  have h : x ∈ ks := h
  have := List.sizeOf_lt_of_mem h
  simp only [mk.sizeOf_spec]
  omega
theorem ind {P : Pl → Prop} (h : ∀ p, (∀ x ∈ p.kids, P x) → P p) : ∀ p, P p := by
  have : ∀ (n : Nat) (p : Pl), SizeOf.sizeOf p ≤ n → P p := fun n => by
    induction n with
    | zero => exact fun p hp => h p fun x hx => absurd (kid_lt hx) (by omega)
    | succ n ih => exact fun p hp => h p fun x hx => ih x (by have := kid_lt hx; omega)
  exact fun p => this _ p (Nat.le_refl _)
end Pl
/-- The cells of a plan. -/
structure FP where
  kind : Int
  table : Int
  es : SV
  cs : SV
  ks : SV
def fpC (f : FP) : List Value := [.int .i64 f.kind, .int .i64 f.table, .slice f.es.A f.es.n f.es.c, .slice f.cs.A f.cs.n f.cs.c, .slice f.ks.A f.ks.n f.ks.c]
theorem fpC_length (f : FP) : (fpC f).length = 5 := rfl
def SVok (s : SV) (n : Nat) : Prop := s.n = n ∧ s.n ≤ s.c ∧ s.c ≤ maxLen
def PlAt (w : World) (B : Nat) : Nat → FP → Pl → Prop
  | 0, _, _ => False
  | n + 1, f, p => f.kind = p.kind ∧ f.table = p.table ∧ SVok f.es p.exprs.length ∧ SVok f.cs p.cols.length ∧ SVok f.ks p.kids.length ∧ ExsIn w B f.es.A p.exprs ∧ Sl 1 intC w B f.cs.A p.cols ∧
      ∃ fs : List FP, fs.length = p.kids.length ∧ Sl 5 fpC w B f.ks.A fs ∧ ∀ (i : Nat) (g : FP) (x : Pl), fs[i]? = some g → p.kids[i]? = some x → PlAt w B n g x
theorem PlAt.on {w w' : World} (hb : Below w.heap.size w w') : ∀ (n : Nat) (f : FP) (p : Pl), PlAt w w.heap.size n f p → PlAt w' w'.heap.size n f p
  | 0, _, _, h => h.elim
  | n + 1, f, p, ⟨h1, h2, h3, h4, h5, h6, h7, fs, h8, h9, h10⟩ => ⟨h1, h2, h3, h4, h5, h6.on hb, h7.on hb, fs, h8, h9.on hb, fun i g x hg hx => PlAt.on hb n g x (h10 i g x hg hx)⟩
def PlIn (w : World) (B : Nat) (f : FP) (p : Pl) : Prop := ∃ n, PlAt w B n f p
theorem PlIn.on {w w' : World} {f : FP} {p : Pl} (h : PlIn w w.heap.size f p) (hb : Below w.heap.size w w') : PlIn w' w'.heap.size f p := h.imp fun n h => PlAt.on hb n f p h
def FpAt (w : World) (b o : Nat) (f : FP) : Prop :=
  w.cell? ⟨b, o, none⟩ = some (.int .i64 f.kind) ∧ w.cell? ⟨b, o + 1, none⟩ = some (.int .i64 f.table) ∧ w.cell? ⟨b, o + 2, none⟩ = some (.slice f.es.A f.es.n f.es.c) ∧ w.cell? ⟨b, o + 3, none⟩ = some (.slice f.cs.A f.cs.n f.cs.c) ∧ w.cell? ⟨b, o + 4, none⟩ = some (.slice f.ks.A f.ks.n f.ks.c)
theorem PlIn.flat {w : World} {B : Nat} {f : FP} {p : Pl} (h : PlIn w B f p) : f.kind = p.kind ∧ f.table = p.table ∧ SVok f.es p.exprs.length ∧ SVok f.cs p.cols.length ∧ SVok f.ks p.kids.length ∧ ExsIn w B f.es.A p.exprs ∧ Sl 1 intC w B f.cs.A p.cols := by
  obtain ⟨n, h⟩ := h
  cases n with
  | zero => exact h.elim
  | succ n => exact ⟨h.1, h.2.1, h.2.2.1, h.2.2.2.1, h.2.2.2.2.1, h.2.2.2.2.2.1, h.2.2.2.2.2.2.1⟩
theorem PlIn.kid {w : World} {B : Nat} {f : FP} {p : Pl} (h : PlIn w B f p) {i : Nat} (hi : i < p.kids.length) :
    ∃ b o g, f.ks.A = some ⟨b, o, none⟩ ∧ b < B ∧ FpAt w b (o + i * 5) g ∧ PlIn w B g p.kids[i] := by
  obtain ⟨n, h⟩ := h
  cases n with
  | zero => exact h.elim
  | succ n =>
    obtain ⟨_, _, _, _, _, _, _, fs, h7, h8, h9⟩ := h
    have hi' : i < fs.length := by omega
    obtain ⟨b, o, hA, hB, hc⟩ := h8 (by omega)
    have hx := List.getElem?_eq_getElem hi'
    exact ⟨b, o, fs[i], hA, hB, ⟨hc i _ hx 0 _ rfl, hc i _ hx 1 _ rfl, hc i _ hx 2 _ rfl, hc i _ hx 3 _ rfl, hc i _ hx 4 _ rfl⟩, n, h9 i _ _ hx (List.getElem?_eq_getElem hi)⟩
end Go.Qo
