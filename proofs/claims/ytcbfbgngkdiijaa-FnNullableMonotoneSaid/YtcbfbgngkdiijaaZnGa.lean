import Derived.Test.YtcbfbgngkdiijaaZnPln
/-
  Trees of expressions, and how a memory holds one. (First text about trees.)
-/
namespace Go.Qo
open Go.RowKit
set_option linter.unusedVariables false
set_option linter.unusedSimpArgs false

/-- An expression: kind, column, value, kids. -/
inductive Ex where
  | mk (kind col : Int) (val : Val) (kids : List Ex)
namespace Ex
def kind : Ex → Int | .mk k _ _ _ => k
def col : Ex → Int | .mk _ c _ _ => c
def val : Ex → Val | .mk _ _ v _ => v
def kids : Ex → List Ex | .mk _ _ _ ks => ks
theorem kid_lt {e x : Ex} (h : x ∈ e.kids) : SizeOf.sizeOf x < SizeOf.sizeOf e := by
  obtain ⟨k, c, v, ks⟩ := e
  have h : x ∈ ks := h
  have := List.sizeOf_lt_of_mem h
  simp only [mk.sizeOf_spec]
  omega
/-- Induction over expressions: what holds of all kids holds of the whole. -/
theorem ind {P : Ex → Prop} (h : ∀ e, (∀ x ∈ e.kids, P x) → P e) : ∀ e, P e := by
  have : ∀ (n : Nat) (e : Ex), SizeOf.sizeOf e ≤ n → P e := fun n => by
    induction n with
    | zero => exact fun e he => h e fun x hx => absurd (kid_lt hx) (by omega)
    | succ n ih => exact fun e he => h e fun x hx => ih x (by have := kid_lt hx; omega)
  exact fun e => this _ e (Nat.le_refl _)
end Ex

/-- The cells of an expression, its kids as a slice value. -/
structure FE where
  kind : Int
  col : Int
  val : Val
  sv : SV
def feC (f : FE) : List Value := [.int .i64 f.kind, .int .i64 f.col, .bool f.val.1, .int .i64 f.val.2, .slice f.sv.A f.sv.n f.sv.c]
theorem feC_length (f : FE) : (feC f).length = 5 := rfl

/-- In w the cells f hold the expression e: 'n' levels of kids are looked through. -/
def ExAt (w : World) (B : Nat) : Nat → FE → Ex → Prop
  | 0, _, _ => False
  | n + 1, f, e => f.kind = e.kind ∧ f.col = e.col ∧ f.val = e.val ∧ f.sv.n = e.kids.length ∧ f.sv.n ≤ f.sv.c ∧ f.sv.c ≤ maxLen ∧
      ∃ fs : List FE, fs.length = e.kids.length ∧ Sl 5 feC w B f.sv.A fs ∧ ∀ (i : Nat) (g : FE) (x : Ex), fs[i]? = some g → e.kids[i]? = some x → ExAt w B n g x
theorem ExAt.map {w w' : World} {B B' : Nat} (hs : ∀ (A : Option Addr) (fs : List FE), Sl 5 feC w B A fs → Sl 5 feC w' B' A fs) : ∀ (n : Nat) (f : FE) (e : Ex), ExAt w B n f e → ExAt w' B' n f e
  | 0, _, _, h => h.elim
  | n + 1, f, e, ⟨h1, h2, h3, h4, h5, h6, fs, h7, h8, h9⟩ => ⟨h1, h2, h3, h4, h5, h6, fs, h7, hs _ _ h8, fun i g x hg hx => ExAt.map hs n g x (h9 i g x hg hx)⟩
theorem ExAt.below {w w' : World} {B : Nat} {n : Nat} {f : FE} {e : Ex} (h : ExAt w B n f e) (hb : Below B w w') : ExAt w' B n f e := ExAt.map (fun A fs h => h.below hb) n f e h
theorem ExAt.on {w w' : World} {n : Nat} {f : FE} {e : Ex} (h : ExAt w w.heap.size n f e) (hb : Below w.heap.size w w') : ExAt w' w'.heap.size n f e := ExAt.map (fun A fs h => h.on hb) n f e h
/-- More levels do no harm. -/
theorem ExAt.more {w : World} {B : Nat} : ∀ (n m : Nat) (f : FE) (e : Ex), n ≤ m → ExAt w B n f e → ExAt w B m f e
  | 0, _, _, _, _, h => h.elim
  | n + 1, 0, _, _, hm, _ => absurd hm (by omega)
  | n + 1, m + 1, f, e, hm, ⟨h1, h2, h3, h4, h5, h6, fs, h7, h8, h9⟩ => ⟨h1, h2, h3, h4, h5, h6, fs, h7, h8, fun i g x hg hx => ExAt.more n m g x (by omega) (h9 i g x hg hx)⟩
/-- Where the cells of an expression lie. -/
def FeAt (w : World) (b o : Nat) (f : FE) : Prop :=
  w.cell? ⟨b, o, none⟩ = some (.int .i64 f.kind) ∧ w.cell? ⟨b, o + 1, none⟩ = some (.int .i64 f.col) ∧ w.cell? ⟨b, o + 2, none⟩ = some (.bool f.val.1) ∧ w.cell? ⟨b, o + 3, none⟩ = some (.int .i64 f.val.2) ∧ w.cell? ⟨b, o + 4, none⟩ = some (.slice f.sv.A f.sv.n f.sv.c)
theorem feAt_of {w : World} {B : Nat} {A : Option Addr} {fs : List FE} (h : Sl 5 feC w B A fs) {i : Nat} (hi : i < fs.length) : ∃ b o, A = some ⟨b, o, none⟩ ∧ b < B ∧ FeAt w b (o + i * 5) fs[i] := by
  obtain ⟨b, o, hA, hB, hc⟩ := h (by omega)
  have hx := List.getElem?_eq_getElem hi
  exact ⟨b, o, hA, hB, hc i _ hx 0 _ rfl, hc i _ hx 1 _ rfl, hc i _ hx 2 _ rfl, hc i _ hx 3 _ rfl, hc i _ hx 4 _ rfl⟩
/-- The kid number i of an expression that is held. -/
theorem ExAt.kid {w : World} {B n : Nat} {f : FE} {e : Ex} (h : ExAt w B (n + 1) f e) {i : Nat} (hi : i < e.kids.length) :
    ∃ b o g, f.sv.A = some ⟨b, o, none⟩ ∧ b < B ∧ FeAt w b (o + i * 5) g ∧ ExAt w B n g e.kids[i] := by
  obtain ⟨_, _, _, _, _, _, fs, h7, h8, h9⟩ := h
  have hi' : i < fs.length := by omega
  obtain ⟨b, o, hA, hB, hf⟩ := feAt_of h8 hi'
  exact ⟨b, o, fs[i], hA, hB, hf, h9 i _ _ (List.getElem?_eq_getElem hi') (List.getElem?_eq_getElem hi)⟩
end Go.Qo

/-
  Trees of plans, and how a memory holds one.
-/
namespace Go.Qo
open Go.RowKit
set_option linter.unusedVariables false
set_option linter.unusedSimpArgs false

/-- Held, however many levels deep. -/
def ExIn (w : World) (B : Nat) (f : FE) (e : Ex) : Prop := ∃ n, ExAt w B n f e
theorem ExIn.below {w w' : World} {B : Nat} {f : FE} {e : Ex} (h : ExIn w B f e) (hb : Below B w w') : ExIn w' B f e := h.imp fun _ h => h.below hb
theorem ExIn.on {w w' : World} {f : FE} {e : Ex} (h : ExIn w w.heap.size f e) (hb : Below w.heap.size w w') : ExIn w' w'.heap.size f e := h.imp fun _ h => h.on hb
theorem ExIn.flat {w : World} {B : Nat} {f : FE} {e : Ex} (h : ExIn w B f e) : f.kind = e.kind ∧ f.col = e.col ∧ f.val = e.val ∧ f.sv.n = e.kids.length ∧ f.sv.n ≤ f.sv.c ∧ f.sv.c ≤ maxLen := by
  obtain ⟨n, h⟩ := h
  cases n with
  | zero => exact h.elim
  | succ n => exact ⟨h.1, h.2.1, h.2.2.1, h.2.2.2.1, h.2.2.2.2.1, h.2.2.2.2.2.1⟩
theorem ExIn.kid {w : World} {B : Nat} {f : FE} {e : Ex} (h : ExIn w B f e) {i : Nat} (hi : i < e.kids.length) :
    ∃ b o g, f.sv.A = some ⟨b, o, none⟩ ∧ b < B ∧ FeAt w b (o + i * 5) g ∧ ExIn w B g e.kids[i] := by
  obtain ⟨n, h⟩ := h
  cases n with
  | zero => exact h.elim
  | succ n =>
    obtain ⟨b, o, g, h1, h2, h3, h4⟩ := h.kid hi
    exact ⟨b, o, g, h1, h2, h3, n, h4⟩
/-- A list of expressions. -/
def ExsIn (w : World) (B : Nat) (A : Option Addr) (es : List Ex) : Prop :=
  ∃ fs : List FE, fs.length = es.length ∧ Sl 5 feC w B A fs ∧ ∀ (i : Nat) (g : FE) (x : Ex), fs[i]? = some g → es[i]? = some x → ExIn w B g x
theorem ExsIn.on {w w' : World} {A : Option Addr} {es : List Ex} (h : ExsIn w w.heap.size A es) (hb : Below w.heap.size w w') : ExsIn w' w'.heap.size A es := by
  obtain ⟨fs, h1, h2, h3⟩ := h
  exact ⟨fs, h1, h2.on hb, fun i g x hg hx => (h3 i g x hg hx).on hb⟩
theorem ExsIn.at_ {w : World} {B : Nat} {A : Option Addr} {es : List Ex} (h : ExsIn w B A es) {i : Nat} (hi : i < es.length) : ∃ b o g, A = some ⟨b, o, none⟩ ∧ b < B ∧ FeAt w b (o + i * 5) g ∧ ExIn w B g es[i] := by
  obtain ⟨fs, h1, h2, h3⟩ := h
  have hi' : i < fs.length := by omega
  obtain ⟨b, o, hA, hB, hf⟩ := feAt_of h2 hi'
  exact ⟨b, o, fs[i], hA, hB, hf, h3 i _ _ (List.getElem?_eq_getElem hi') (List.getElem?_eq_getElem hi)⟩
theorem ExIn.kids_in {w : World} {B : Nat} {f : FE} {e : Ex} (h : ExIn w B f e) : ExsIn w B f.sv.A e.kids := by
  obtain ⟨n, h⟩ := h
  cases n with
  | zero => exact h.elim
  | succ n =>
    obtain ⟨_, _, _, _, _, _, fs, h7, h8, h9⟩ := h
    exact ⟨fs, h7, h8, fun i g x hg hx => ⟨n, h9 i g x hg hx⟩⟩

/-- A plan: kind, table, expressions, columns, kids. -/
inductive Pl where
  | mk (kind table : Int) (exprs : List Ex) (cols : List Int) (kids : List Pl)
namespace Pl
def kind : Pl → Int | .mk k _ _ _ _ => k
def table : Pl → Int | .mk _ t _ _ _ => t
def exprs : Pl → List Ex | .mk _ _ es _ _ => es
def cols : Pl → List Int | .mk _ _ _ cs _ => cs
def kids : Pl → List Pl | .mk _ _ _ _ ks => ks
theorem kid_lt {p x : Pl} (h : x ∈ p.kids) : SizeOf.sizeOf x < SizeOf.sizeOf p := by
  obtain ⟨k, t, es, cs, ks⟩ := p
  have h : x ∈ ks := h
  have := List.sizeOf_lt_of_mem h
  simp only [mk.sizeOf_spec]
  omega
theorem ind {P : Pl → Prop} (h : ∀ p, (∀ x ∈ p.kids, P x) → P p) : ∀ p, P p := by
  have : ∀ (n : Nat) (p : Pl), SizeOf.sizeOf p ≤ n → P p := fun n => by
    induction n with
    | zero => exact fun p hp => h p fun x hx => absurd (kid_lt hx) (by omega)
    | succ n ih => exact fun p hp => h p fun x hx => ih x (by have := kid_lt hx; omega)
  exact fun p => this _ p (Nat.le_refl _)
end Pl
/-- The cells of a plan. -/
structure FP where
  kind : Int
  table : Int
  es : SV
  cs : SV
  ks : SV
def fpC (f : FP) : List Value := [.int .i64 f.kind, .int .i64 f.table, .slice f.es.A f.es.n f.es.c, .slice f.cs.A f.cs.n f.cs.c, .slice f.ks.A f.ks.n f.ks.c]
theorem fpC_length (f : FP) : (fpC f).length = 5 := rfl
def SVok (s : SV) (n : Nat) : Prop := s.n = n ∧ s.n ≤ s.c ∧ s.c ≤ maxLen
def PlAt (w : World) (B : Nat) : Nat → FP → Pl → Prop
  | 0, _, _ => False
  | n + 1, f, p => f.kind = p.kind ∧ f.table = p.table ∧ SVok f.es p.exprs.length ∧ SVok f.cs p.cols.length ∧ SVok f.ks p.kids.length ∧ ExsIn w B f.es.A p.exprs ∧ Sl 1 intC w B f.cs.A p.cols ∧
      ∃ fs : List FP, fs.length = p.kids.length ∧ Sl 5 fpC w B f.ks.A fs ∧ ∀ (i : Nat) (g : FP) (x : Pl), fs[i]? = some g → p.kids[i]? = some x → PlAt w B n g x
theorem PlAt.on {w w' : World} (hb : Below w.heap.size w w') : ∀ (n : Nat) (f : FP) (p : Pl), PlAt w w.heap.size n f p → PlAt w' w'.heap.size n f p
  | 0, _, _, h => h.elim
  | n + 1, f, p, ⟨h1, h2, h3, h4, h5, h6, h7, fs, h8, h9, h10⟩ => ⟨h1, h2, h3, h4, h5, h6.on hb, h7.on hb, fs, h8, h9.on hb, fun i g x hg hx => PlAt.on hb n g x (h10 i g x hg hx)⟩
def PlIn (w : World) (B : Nat) (f : FP) (p : Pl) : Prop := ∃ n, PlAt w B n f p
theorem PlIn.on {w w' : World} {f : FP} {p : Pl} (h : PlIn w w.heap.size f p) (hb : Below w.heap.size w w') : PlIn w' w'.heap.size f p := h.imp fun n h => PlAt.on hb n f p h
def FpAt (w : World) (b o : Nat) (f : FP) : Prop :=
  w.cell? ⟨b, o, none⟩ = some (.int .i64 f.kind) ∧ w.cell? ⟨b, o + 1, none⟩ = some (.int .i64 f.table) ∧ w.cell? ⟨b, o + 2, none⟩ = some (.slice f.es.A f.es.n f.es.c) ∧ w.cell? ⟨b, o + 3, none⟩ = some (.slice f.cs.A f.cs.n f.cs.c) ∧ w.cell? ⟨b, o + 4, none⟩ = some (.slice f.ks.A f.ks.n f.ks.c)
theorem PlIn.flat {w : World} {B : Nat} {f : FP} {p : Pl} (h : PlIn w B f p) : f.kind = p.kind ∧ f.table = p.table ∧ SVok f.es p.exprs.length ∧ SVok f.cs p.cols.length ∧ SVok f.ks p.kids.length ∧ ExsIn w B f.es.A p.exprs ∧ Sl 1 intC w B f.cs.A p.cols := by
  obtain ⟨n, h⟩ := h
  cases n with
  | zero => exact h.elim
  | succ n => exact ⟨h.1, h.2.1, h.2.2.1, h.2.2.2.1, h.2.2.2.2.1, h.2.2.2.2.2.1, h.2.2.2.2.2.2.1⟩
theorem PlIn.kid {w : World} {B : Nat} {f : FP} {p : Pl} (h : PlIn w B f p) {i : Nat} (hi : i < p.kids.length) :
    ∃ b o g, f.ks.A = some ⟨b, o, none⟩ ∧ b < B ∧ FpAt w b (o + i * 5) g ∧ PlIn w B g p.kids[i] := by
  obtain ⟨n, h⟩ := h
  cases n with
  | zero => exact h.elim
  | succ n =>
    obtain ⟨_, _, _, _, _, _, _, fs, h7, h8, h9⟩ := h
    have hi' : i < fs.length := by omega
    obtain ⟨b, o, hA, hB, hc⟩ := h8 (by omega)
    have hx := List.getElem?_eq_getElem hi'
    exact ⟨b, o, fs[i], hA, hB, ⟨hc i _ hx 0 _ rfl, hc i _ hx 1 _ rfl, hc i _ hx 2 _ rfl, hc i _ hx 3 _ rfl, hc i _ hx 4 _ rfl⟩, n, h9 i _ _ hx (List.getElem?_eq_getElem hi)⟩
end Go.Qo

/-
  Which expressions are valid: in plain Lean.
-/
namespace Go.Qo
set_option linter.unusedVariables false
set_option linter.unusedSimpArgs false

/-- The number of kids of a kind (as XKids says of both programs). -/
def kidsK (k : Int) : Int := if k = 1 ∨ k = 2 then 0 else if k = 10 ∨ k = 11 then 1 else if 3 ≤ k ∧ k ≤ 9 then 2 else -1
/-- What is asked of an expression's own cells. -/
def LocOk (width : Int) (e : Ex) : Prop :=
  if e.kind = 1 then (0 ≤ e.col ∧ e.col ≤ width - 1) ∧ e.val = (false, 0) else if e.kind = 2 then e.col = 0 ∧ vValid e.val = true else e.col = 0 ∧ e.val = (false, 0)
/-- Valid for rows of a width, with at most deep levels of kids. -/
inductive ExOk (width : Int) : Int → Ex → Prop where
  | mk {deep : Int} {e : Ex} (hk : (e.kids.length : Int) = kidsK e.kind) (hd : 0 < e.kids.length → deep ≠ 0) (hx : ∀ x, x ∈ e.kids → ExOk width (deep - 1) x) (hl : LocOk width e) : ExOk width deep e
theorem exOk_iff {width deep : Int} {e : Ex} : ExOk width deep e ↔ (e.kids.length : Int) = kidsK e.kind ∧ (0 < e.kids.length → deep ≠ 0) ∧ (∀ x ∈ e.kids, ExOk width (deep - 1) x) ∧ LocOk width e :=
  ⟨fun h => by cases h with | mk hk hd hx hl => exact ⟨hk, hd, hx, hl⟩, fun ⟨h1, h2, h3, h4⟩ => .mk h1 h2 h3 h4⟩
theorem ExOk.kids_le {width deep : Int} {e : Ex} (h : ExOk width deep e) : e.kids.length ≤ 2 := by
  have h1 := (exOk_iff.1 h).1
  unfold kidsK at h1
  split at h1
  · omega
  · split at h1
    · omega
    · split at h1 <;> omega
end Go.Qo

/-
  Which plans are valid, and how wide: in plain Lean.
-/
namespace Go.Qo
set_option linter.unusedVariables false
set_option linter.unusedSimpArgs false

/-- The number of kids of a kind of plans. -/
def nkids (k : Int) : Int := if k = 1 then 0 else if k = 4 ∨ k = 5 ∨ k = 6 then 2 else 1
/-- The number of expressions of a plan. -/
def nexprs (k n : Int) : Int := if k = 2 ∨ k = 4 ∨ k = 5 then 1 else if k = 3 then n else 0
def OnlyF (p : Pl) : Prop := (1 ≤ p.kind ∧ p.kind ≤ 8) ∧ (p.kids.length : Int) = nkids p.kind ∧ (p.exprs.length : Int) = nexprs p.kind p.exprs.length ∧ (p.table = 0 ∨ p.kind = 1) ∧ (p.cols.length = 0 ∨ p.kind = 8)
def EOk (width : Int) (e : Ex) : Prop := (1 ≤ width ∧ width ≤ 6) ∧ ExOk width 8 e
def ColsOk (cols : List Int) (width : Int) : Prop := ∀ (i : Nat) (c : Int), cols[i]? = some c → (0 ≤ c ∧ c ≤ width - 1) ∧ ∀ c', 0 < i → cols[i - 1]? = some c' → c' < c
open Classical in
/-- The width of a plan whose kids have the widths a and b. -/
noncomputable def topW (ws : List Int) (p : Pl) (a b : Int) : Int :=
  if p.kind = 1 then (if 0 ≤ p.table ∧ p.table < ws.length then ws.getD p.table.toNat 0 else 0)
  else if p.kind = 2 then (if ∀ e ∈ p.exprs, EOk a e then a else 0)
  else if p.kind = 3 then (if (∀ e ∈ p.exprs, EOk a e) ∧ p.exprs.length ≤ 6 then p.exprs.length else 0)
  else if p.kind = 4 ∨ p.kind = 5 then (if a + b ≤ 6 ∧ ∀ e ∈ p.exprs, EOk (a + b) e then a + b else 0)
  else if p.kind = 6 then (if a = b then a else 0)
  else if p.kind = 7 then a
  else if ColsOk p.cols a ∧ p.cols.length < 6 then p.cols.length + 1 else 0
/-- The width of the kid number i. -/
def kidW (g : Pl → Int) (p : Pl) (i : Nat) : Int := match p.kids[i]? with | some x => g x | none => 0
open Classical in
/-- The width of a plan with at most so many levels of kids; 0 if it is invalid. -/
noncomputable def plW (ws : List Int) : Nat → Pl → Int
  | 0, p => if OnlyF p ∧ p.kids.length = 0 then topW ws p 0 0 else 0
  | d + 1, p => if OnlyF p ∧ ∀ x ∈ p.kids, plW ws d x ≠ 0 then topW ws p (kidW (plW ws d) p 0) (kidW (plW ws d) p 1) else 0
theorem OnlyF.kids_le {p : Pl} (h : OnlyF p) : p.kids.length ≤ 2 := by
  have := h.2.1
  unfold nkids at this
  split at this
  · omega
  · split at this <;> omega
theorem topW_range {ws : List Int} (hws : ∀ x ∈ ws, 1 ≤ x ∧ x ≤ 6) (p : Pl) {a b : Int} (ha : 0 ≤ a ∧ a ≤ 6) (hb : 0 ≤ b ∧ b ≤ 6) : 0 ≤ topW ws p a b ∧ topW ws p a b ≤ 6 := by
  unfold topW
  split
  · split
    · have hl : p.table.toNat < ws.length := by omega
      rw [List.getD_eq_getElem?_getD, List.getElem?_eq_getElem hl]
      have := hws _ (List.getElem_mem hl)
      simp
      omega
    · omega
  all_goals (repeat' split) <;> omega
theorem kidW_range {g : Pl → Int} (hg : ∀ x, 0 ≤ g x ∧ g x ≤ 6) (p : Pl) (i : Nat) : 0 ≤ kidW g p i ∧ kidW g p i ≤ 6 := by
  unfold kidW
  split
  · exact hg _
  · omega
theorem plW_range {ws : List Int} (hws : ∀ x ∈ ws, 1 ≤ x ∧ x ≤ 6) : ∀ (d : Nat) (p : Pl), 0 ≤ plW ws d p ∧ plW ws d p ≤ 6
  | 0, p => by
    unfold plW
    split
    · exact topW_range hws p (by omega) (by omega)
    · omega
  | d + 1, p => by
    unfold plW
    split
    · exact topW_range hws p (kidW_range (fun x => plW_range hws d x) p 0) (kidW_range (fun x => plW_range hws d x) p 1)
    · omega
/-- Invalid: for one reason or another. -/
theorem plW_no {ws : List Int} {d : Nat} {p : Pl} (h : ¬ OnlyF p) : plW ws d p = 0 := by
  cases d <;> unfold plW <;> rw [if_neg fun k => h k.1]
theorem plW_deep {ws : List Int} {p : Pl} (h : 0 < p.kids.length) : plW ws 0 p = 0 := by
  unfold plW; rw [if_neg fun k => by omega]
theorem plW_kid {ws : List Int} {d : Nat} {p x : Pl} (hx : x ∈ p.kids) (h : plW ws d x = 0) : plW ws (d + 1) p = 0 := by
  unfold plW; rw [if_neg fun k => k.2 x hx h]
/-- Otherwise the kids' widths decide. -/
theorem plW_top {ws : List Int} {d : Nat} {p : Pl} (h : OnlyF p) (hd : 0 < p.kids.length → 0 < d) (hk : ∀ x ∈ p.kids, plW ws (d - 1) x ≠ 0) :
    plW ws d p = topW ws p (kidW (plW ws (d - 1)) p 0) (kidW (plW ws (d - 1)) p 1) := by
  cases d with
  | zero =>
    have h0 : p.kids.length = 0 := by omega
    have e : p.kids = [] := List.eq_nil_of_length_eq_zero h0
    unfold plW kidW
    rw [if_pos ⟨h, h0⟩, e]
    rfl
  | succ d =>
    rw [plW, if_pos ⟨h, hk⟩]
    rfl
/-- A plan's kids are valid. -/
theorem plW_kids {ws : List Int} {d : Nat} {p x : Pl} (h : plW ws d p ≠ 0) (hx : x ∈ p.kids) : OnlyF p ∧ ∃ k, d = k + 1 ∧ plW ws k x ≠ 0 := by
  cases d with
  | zero =>
    exfalso
    apply h
    exact plW_deep (List.length_pos_of_mem hx)
  | succ d =>
    have ho : OnlyF p := Classical.byContradiction fun hn => h (plW_no hn)
    exact ⟨ho, d, rfl, fun h0 => h (plW_kid hx h0)⟩
end Go.Qo

/-
  The bound for the number of rows of a plan: in plain Lean.
-/
namespace Go.Qo
set_option linter.unusedVariables false
set_option linter.unusedSimpArgs false

/-- A valid plan's table is one of them. -/
theorem plW_scan {ws : List Int} {d : Nat} {p : Pl} (h : plW ws d p ≠ 0) (hk : p.kind = 1) : 0 ≤ p.table ∧ p.table < ws.length := by
  have ho : OnlyF p := Classical.byContradiction fun hn => h (plW_no hn)
  have hkl : p.kids.length = 0 := by
    have := ho.2.1
    rw [hk] at this
    simp [nkids] at this
    simpa using this
  have hkn : p.kids = [] := List.eq_nil_of_length_eq_zero hkl
  rw [plW_top ho (by omega) (by rw [hkn]; intro x hx; cases hx)] at h
  unfold topW at h
  rw [if_pos hk] at h
  apply Classical.byContradiction
  intro hn
  rw [if_neg hn] at h
  exact h rfl
end Go.Qo

/-
  Duplicate-free plans: in plain Lean.
-/
namespace Go.Qo
set_option linter.unusedVariables false
set_option linter.unusedSimpArgs false

def boolC (b : Bool) : List Value := [.bool b]
theorem boolC_length (b : Bool) : (boolC b).length = 1 := rfl
theorem boolC_one (x : Bool) : ∀ u ∈ boolC x, u.oneCell' = true := by intro u hu; simp [boolC] at hu; subst hu; rfl
end Go.Qo

/-
  Aggregates as plain Lean. No program in sight.
-/
namespace Go.Qo
open Go.RowKit
set_option linter.unusedVariables false
set_option linter.unusedSimpArgs false

def numV (n : Int) : Val := if -9999 ≤ n ∧ n ≤ 9999 then (false, n) else (true, 0)
def lowS (a v : Val) : Val := if v.1 then a else if a.1 || decide (v.2 < a.2) then v else a
def highS (a v : Val) : Val := if v.1 then a else if a.1 || decide (a.2 < v.2) then v else a
def nnN (xs : List Val) : Nat := xs.countP (fun v => !v.1)
def sumN (xs : List Val) : Int := (xs.map fun v => v.2).sum
def lowN (xs : List Val) : Val := xs.foldl lowS (true, 0)
def highN (xs : List Val) : Val := xs.foldl highS (true, 0)
theorem vValid_range {v : Val} (h : vValid v = true) : -9999 ≤ v.2 ∧ v.2 ≤ 9999 := by
  obtain ⟨a, b⟩ := v
  unfold vValid at h
  cases a <;> simp_all
@[simp] theorem nnN_nil : nnN [] = 0 := rfl
@[simp] theorem sumN_nil : sumN [] = 0 := rfl
@[simp] theorem lowN_nil : lowN [] = (true, 0) := rfl
@[simp] theorem highN_nil : highN [] = (true, 0) := rfl
end Go.Qo

/-
  Values of expressions for a row: in plain Lean.
-/
namespace Go.Qo
set_option linter.unusedVariables false
set_option linter.unusedSimpArgs false

/-- The program's truths: 0 false, 1 unknown, 2 true. -/
def trI (v : Val) : Int := if v.1 then 1 else if v.2 = 0 then 0 else 2
def ofTr (t : Int) : Val := if t = 1 then (true, 0) else (false, if t = 2 then 1 else 0)
def flagV (b : Bool) : Val := (false, if b then 1 else 0)
def combV (k : Int) (a b : Val) : Val :=
  if k = 8 then ofTr (min (trI a) (trI b)) else if k = 9 then ofTr (max (trI a) (trI b)) else if a.1 || b.1 then (true, 0)
  else if k = 3 then numV (a.2 + b.2) else if k = 4 then numV (a.2 - b.2) else if k = 5 then numV (a.2 * b.2) else if k = 6 then flagV (decide (a.2 = b.2)) else flagV (decide (a.2 < b.2))
theorem trI_range (v : Val) : 0 ≤ trI v ∧ trI v ≤ 2 := by unfold trI; split; · omega
                                                          · split <;> omega
end Go.Qo
