/-
  Trees of expressions, and how a memory holds one. (First text about trees.)
-/
import Derived.Test.YtcbfbgngkdiijaaPln
namespace Go.Qo
open Go.RowKit
set_option linter.unusedVariables false
set_option linter.unusedSimpArgs false

/-- An expression: kind, column, value, kids. -/
inductive Ex where
  | mk (kind col : Int) (val : Val) (kids : List Ex)
namespace Ex
def kind : Ex → Int | .mk k _ _ _ => k
def col : Ex → Int | .mk _ c _ _ => c
def val : Ex → Val | .mk _ _ v _ => v
def kids : Ex → List Ex | .mk _ _ _ ks => ks
theorem kid_lt {e x : Ex} (h : x ∈ e.kids) : SizeOf.sizeOf x < SizeOf.sizeOf e := by
  obtain ⟨k, c, v, ks⟩ := e
  have h : x ∈ ks := h
  have := List.sizeOf_lt_of_mem h
  simp only [mk.sizeOf_spec]
  omega
/-- Induction over expressions: what holds of all kids holds of the whole. -/
theorem ind {P : Ex → Prop} (h : ∀ e, (∀ x ∈ e.kids, P x) → P e) : ∀ e, P e := by
  have : ∀ (n : Nat) (e : Ex), SizeOf.sizeOf e ≤ n → P e := fun n => by
    induction n with
    | zero => exact fun e he => h e fun x hx => absurd (kid_lt hx) (by omega)
    | succ n ih => exact fun e he => h e fun x hx => ih x (by have := kid_lt hx; omega)
  exact fun e => this _ e (Nat.le_refl _)
end Ex

/-- The cells of an expression, its kids as a slice value. -/
structure FE where
  kind : Int
  col : Int
  val : Val
  sv : SV
def feC (f : FE) : List Value := [.int .i64 f.kind, .int .i64 f.col, .bool f.val.1, .int .i64 f.val.2, .slice f.sv.A f.sv.n f.sv.c]
theorem feC_length (f : FE) : (feC f).length = 5 := rfl

/-- In w the cells f hold the expression e: 'n' levels of kids are looked through. -/
def ExAt (w : World) (B : Nat) : Nat → FE → Ex → Prop
  | 0, _, _ => False
  | n + 1, f, e => f.kind = e.kind ∧ f.col = e.col ∧ f.val = e.val ∧ f.sv.n = e.kids.length ∧ f.sv.n ≤ f.sv.c ∧ f.sv.c ≤ maxLen ∧
      ∃ fs : List FE, fs.length = e.kids.length ∧ Sl 5 feC w B f.sv.A fs ∧ ∀ (i : Nat) (g : FE) (x : Ex), fs[i]? = some g → e.kids[i]? = some x → ExAt w B n g x
theorem ExAt.map {w w' : World} {B B' : Nat} (hs : ∀ (A : Option Addr) (fs : List FE), Sl 5 feC w B A fs → Sl 5 feC w' B' A fs) : ∀ (n : Nat) (f : FE) (e : Ex), ExAt w B n f e → ExAt w' B' n f e
  | 0, _, _, h => h.elim
  | n + 1, f, e, ⟨h1, h2, h3, h4, h5, h6, fs, h7, h8, h9⟩ => ⟨h1, h2, h3, h4, h5, h6, fs, h7, hs _ _ h8, fun i g x hg hx => ExAt.map hs n g x (h9 i g x hg hx)⟩
theorem ExAt.below {w w' : World} {B : Nat} {n : Nat} {f : FE} {e : Ex} (h : ExAt w B n f e) (hb : Below B w w') : ExAt w' B n f e := ExAt.map (fun A fs h => h.below hb) n f e h
theorem ExAt.on {w w' : World} {n : Nat} {f : FE} {e : Ex} (h : ExAt w w.heap.size n f e) (hb : Below w.heap.size w w') : ExAt w' w'.heap.size n f e := ExAt.map (fun A fs h => h.on hb) n f e h
/-- More levels do no harm. -/
theorem ExAt.more {w : World} {B : Nat} : ∀ (n m : Nat) (f : FE) (e : Ex), n ≤ m → ExAt w B n f e → ExAt w B m f e
  | 0, _, _, _, _, h => h.elim
  | n + 1, 0, _, _, hm, _ => absurd hm (by omega)
  | n + 1, m + 1, f, e, hm, ⟨h1, h2, h3, h4, h5, h6, fs, h7, h8, h9⟩ => ⟨h1, h2, h3, h4, h5, h6, fs, h7, h8, fun i g x hg hx => ExAt.more n m g x (by omega) (h9 i g x hg hx)⟩
/-- Where the cells of an expression lie. -/
def FeAt (w : World) (b o : Nat) (f : FE) : Prop :=
  w.cell? ⟨b, o, none⟩ = some (.int .i64 f.kind) ∧ w.cell? ⟨b, o + 1, none⟩ = some (.int .i64 f.col) ∧ w.cell? ⟨b, o + 2, none⟩ = some (.bool f.val.1) ∧ w.cell? ⟨b, o + 3, none⟩ = some (.int .i64 f.val.2) ∧ w.cell? ⟨b, o + 4, none⟩ = some (.slice f.sv.A f.sv.n f.sv.c)
theorem feAt_of {w : World} {B : Nat} {A : Option Addr} {fs : List FE} (h : Sl 5 feC w B A fs) {i : Nat} (hi : i < fs.length) : ∃ b o, A = some ⟨b, o, none⟩ ∧ b < B ∧ FeAt w b (o + i * 5) fs[i] := by
  obtain ⟨b, o, hA, hB, hc⟩ := h (by omega)
  have hx := List.getElem?_eq_getElem hi
  exact ⟨b, o, hA, hB, hc i _ hx 0 _ rfl, hc i _ hx 1 _ rfl, hc i _ hx 2 _ rfl, hc i _ hx 3 _ rfl, hc i _ hx 4 _ rfl⟩
/-- The kid number i of an expression that is held. -/
theorem ExAt.kid {w : World} {B n : Nat} {f : FE} {e : Ex} (h : ExAt w B (n + 1) f e) {i : Nat} (hi : i < e.kids.length) :
    ∃ b o g, f.sv.A = some ⟨b, o, none⟩ ∧ b < B ∧ FeAt w b (o + i * 5) g ∧ ExAt w B n g e.kids[i] := by
  obtain ⟨_, _, _, _, _, _, fs, h7, h8, h9⟩ := h
  have hi' : i < fs.length := by omega
  obtain ⟨b, o, hA, hB, hf⟩ := feAt_of h8 hi'
  exact ⟨b, o, fs[i], hA, hB, hf, h9 i _ _ (List.getElem?_eq_getElem hi') (List.getElem?_eq_getElem hi)⟩
end Go.Qo
