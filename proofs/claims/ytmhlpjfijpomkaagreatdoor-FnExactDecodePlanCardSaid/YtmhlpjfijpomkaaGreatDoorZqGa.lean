import Derived.Test.YtmhlpjfijpomkaaGreatDoorZqPln
import Derived.Lib.ItoaNum
import Derived.Test.YtmhlpjfijpomkaaGreatDoorProg
import Derived.OpenShut
import Derived.Deep.DeepCutAuto
import Derived.Deep.RegionHeld3
/-
  Trees of expressions, and how a memory holds one. (First text about trees.)
-/
namespace Go.Qo
open Go.RowKit
set_option linter.unusedVariables false
set_option linter.unusedSimpArgs false

/-- An expression: kind, column, value, kids. -/
inductive Ex where
  | mk (kind col : Int) (val : Val) (kids : List Ex)
namespace Ex
def kind : Ex → Int | .mk k _ _ _ => k
def col : Ex → Int | .mk _ c _ _ => c
def val : Ex → Val | .mk _ _ v _ => v
def kids : Ex → List Ex | .mk _ _ _ ks => ks
theorem kid_lt {e x : Ex} (h : x ∈ e.kids) : SizeOf.sizeOf x < SizeOf.sizeOf e := by
  obtain ⟨k, c, v, ks⟩ := e
  have h : x ∈ ks := h
  have := List.sizeOf_lt_of_mem h
  simp only [mk.sizeOf_spec]
  omega
/-- Induction over expressions: what holds of all kids holds of the whole. -/
theorem ind {P : Ex → Prop} (h : ∀ e, (∀ x ∈ e.kids, P x) → P e) : ∀ e, P e := by
  have : ∀ (n : Nat) (e : Ex), SizeOf.sizeOf e ≤ n → P e := fun n => by
    induction n with
    | zero => exact fun e he => h e fun x hx => absurd (kid_lt hx) (by omega)
    | succ n ih => exact fun e he => h e fun x hx => ih x (by have := kid_lt hx; omega)
  exact fun e => this _ e (Nat.le_refl _)
end Ex

/-- The cells of an expression, its kids as a slice value. -/
structure FE where
  kind : Int
  col : Int
  val : Val
  sv : SV
def feC (f : FE) : List Value := [.int .i64 f.kind, .int .i64 f.col, .bool f.val.1, .int .i64 f.val.2, .slice f.sv.A f.sv.n f.sv.c]
theorem feC_length (f : FE) : (feC f).length = 5 := rfl

/-- In w the cells f hold the expression e: 'n' levels of kids are looked through. -/
def ExAt (w : World) (B : Nat) : Nat → FE → Ex → Prop
  | 0, _, _ => False
  | n + 1, f, e => f.kind = e.kind ∧ f.col = e.col ∧ f.val = e.val ∧ f.sv.n = e.kids.length ∧ f.sv.n ≤ f.sv.c ∧ f.sv.c ≤ maxLen ∧
      ∃ fs : List FE, fs.length = e.kids.length ∧ Sl 5 feC w B f.sv.A fs ∧ ∀ (i : Nat) (g : FE) (x : Ex), fs[i]? = some g → e.kids[i]? = some x → ExAt w B n g x
theorem ExAt.map {w w' : World} {B B' : Nat} (hs : ∀ (A : Option Addr) (fs : List FE), Sl 5 feC w B A fs → Sl 5 feC w' B' A fs) : ∀ (n : Nat) (f : FE) (e : Ex), ExAt w B n f e → ExAt w' B' n f e
  | 0, _, _, h => h.elim
  | n + 1, f, e, ⟨h1, h2, h3, h4, h5, h6, fs, h7, h8, h9⟩ => ⟨h1, h2, h3, h4, h5, h6, fs, h7, hs _ _ h8, fun i g x hg hx => ExAt.map hs n g x (h9 i g x hg hx)⟩
theorem ExAt.below {w w' : World} {B : Nat} {n : Nat} {f : FE} {e : Ex} (h : ExAt w B n f e) (hb : Below B w w') : ExAt w' B n f e := ExAt.map (fun A fs h => h.below hb) n f e h
theorem ExAt.on {w w' : World} {n : Nat} {f : FE} {e : Ex} (h : ExAt w w.heap.size n f e) (hb : Below w.heap.size w w') : ExAt w' w'.heap.size n f e := ExAt.map (fun A fs h => h.on hb) n f e h
/-- More levels do no harm. -/
theorem ExAt.more {w : World} {B : Nat} : ∀ (n m : Nat) (f : FE) (e : Ex), n ≤ m → ExAt w B n f e → ExAt w B m f e
  | 0, _, _, _, _, h => h.elim
  | n + 1, 0, _, _, hm, _ => absurd hm (by omega)
  | n + 1, m + 1, f, e, hm, ⟨h1, h2, h3, h4, h5, h6, fs, h7, h8, h9⟩ => ⟨h1, h2, h3, h4, h5, h6, fs, h7, h8, fun i g x hg hx => ExAt.more n m g x (by omega) (h9 i g x hg hx)⟩
/-- Where the cells of an expression lie. -/
def FeAt (w : World) (b o : Nat) (f : FE) : Prop :=
  w.cell? ⟨b, o, none⟩ = some (.int .i64 f.kind) ∧ w.cell? ⟨b, o + 1, none⟩ = some (.int .i64 f.col) ∧ w.cell? ⟨b, o + 2, none⟩ = some (.bool f.val.1) ∧ w.cell? ⟨b, o + 3, none⟩ = some (.int .i64 f.val.2) ∧ w.cell? ⟨b, o + 4, none⟩ = some (.slice f.sv.A f.sv.n f.sv.c)
theorem feAt_of {w : World} {B : Nat} {A : Option Addr} {fs : List FE} (h : Sl 5 feC w B A fs) {i : Nat} (hi : i < fs.length) : ∃ b o, A = some ⟨b, o, none⟩ ∧ b < B ∧ FeAt w b (o + i * 5) fs[i] := by
  obtain ⟨b, o, hA, hB, hc⟩ := h (by omega)
  have hx := List.getElem?_eq_getElem hi
  exact ⟨b, o, hA, hB, hc i _ hx 0 _ rfl, hc i _ hx 1 _ rfl, hc i _ hx 2 _ rfl, hc i _ hx 3 _ rfl, hc i _ hx 4 _ rfl⟩
/-- The kid number i of an expression that is held. -/
theorem ExAt.kid {w : World} {B n : Nat} {f : FE} {e : Ex} (h : ExAt w B (n + 1) f e) {i : Nat} (hi : i < e.kids.length) :
    ∃ b o g, f.sv.A = some ⟨b, o, none⟩ ∧ b < B ∧ FeAt w b (o + i * 5) g ∧ ExAt w B n g e.kids[i] := by
  obtain ⟨_, _, _, _, _, _, fs, h7, h8, h9⟩ := h
  have hi' : i < fs.length := by omega
  obtain ⟨b, o, hA, hB, hf⟩ := feAt_of h8 hi'
  exact ⟨b, o, fs[i], hA, hB, hf, h9 i _ _ (List.getElem?_eq_getElem hi') (List.getElem?_eq_getElem hi)⟩
end Go.Qo

/-
  Trees of plans, and how a memory holds one.
-/
namespace Go.Qo
open Go.RowKit
set_option linter.unusedVariables false
set_option linter.unusedSimpArgs false

/-- Held, however many levels deep. -/
def ExIn (w : World) (B : Nat) (f : FE) (e : Ex) : Prop := ∃ n, ExAt w B n f e
theorem ExIn.below {w w' : World} {B : Nat} {f : FE} {e : Ex} (h : ExIn w B f e) (hb : Below B w w') : ExIn w' B f e := h.imp fun _ h => h.below hb
theorem ExIn.on {w w' : World} {f : FE} {e : Ex} (h : ExIn w w.heap.size f e) (hb : Below w.heap.size w w') : ExIn w' w'.heap.size f e := h.imp fun _ h => h.on hb
theorem ExIn.flat {w : World} {B : Nat} {f : FE} {e : Ex} (h : ExIn w B f e) : f.kind = e.kind ∧ f.col = e.col ∧ f.val = e.val ∧ f.sv.n = e.kids.length ∧ f.sv.n ≤ f.sv.c ∧ f.sv.c ≤ maxLen := by
  obtain ⟨n, h⟩ := h
  cases n with
  | zero => exact h.elim
  | succ n => exact ⟨h.1, h.2.1, h.2.2.1, h.2.2.2.1, h.2.2.2.2.1, h.2.2.2.2.2.1⟩
theorem ExIn.kid {w : World} {B : Nat} {f : FE} {e : Ex} (h : ExIn w B f e) {i : Nat} (hi : i < e.kids.length) :
    ∃ b o g, f.sv.A = some ⟨b, o, none⟩ ∧ b < B ∧ FeAt w b (o + i * 5) g ∧ ExIn w B g e.kids[i] := by
  obtain ⟨n, h⟩ := h
  cases n with
  | zero => exact h.elim
  | succ n =>
    obtain ⟨b, o, g, h1, h2, h3, h4⟩ := h.kid hi
    exact ⟨b, o, g, h1, h2, h3, n, h4⟩
/-- A list of expressions. -/
def ExsIn (w : World) (B : Nat) (A : Option Addr) (es : List Ex) : Prop :=
  ∃ fs : List FE, fs.length = es.length ∧ Sl 5 feC w B A fs ∧ ∀ (i : Nat) (g : FE) (x : Ex), fs[i]? = some g → es[i]? = some x → ExIn w B g x
theorem ExsIn.on {w w' : World} {A : Option Addr} {es : List Ex} (h : ExsIn w w.heap.size A es) (hb : Below w.heap.size w w') : ExsIn w' w'.heap.size A es := by
  obtain ⟨fs, h1, h2, h3⟩ := h
  exact ⟨fs, h1, h2.on hb, fun i g x hg hx => (h3 i g x hg hx).on hb⟩
theorem ExsIn.at_ {w : World} {B : Nat} {A : Option Addr} {es : List Ex} (h : ExsIn w B A es) {i : Nat} (hi : i < es.length) : ∃ b o g, A = some ⟨b, o, none⟩ ∧ b < B ∧ FeAt w b (o + i * 5) g ∧ ExIn w B g es[i] := by
  obtain ⟨fs, h1, h2, h3⟩ := h
  have hi' : i < fs.length := by omega
  obtain ⟨b, o, hA, hB, hf⟩ := feAt_of h2 hi'
  exact ⟨b, o, fs[i], hA, hB, hf, h3 i _ _ (List.getElem?_eq_getElem hi') (List.getElem?_eq_getElem hi)⟩
theorem ExIn.kids_in {w : World} {B : Nat} {f : FE} {e : Ex} (h : ExIn w B f e) : ExsIn w B f.sv.A e.kids := by
  obtain ⟨n, h⟩ := h
  cases n with
  | zero => exact h.elim
  | succ n =>
    obtain ⟨_, _, _, _, _, _, fs, h7, h8, h9⟩ := h
    exact ⟨fs, h7, h8, fun i g x hg hx => ⟨n, h9 i g x hg hx⟩⟩

/-- A plan: kind, table, expressions, columns, kids. -/
inductive Pl where
  | mk (kind table : Int) (exprs : List Ex) (cols : List Int) (kids : List Pl)
namespace Pl
def kind : Pl → Int | .mk k _ _ _ _ => k
def table : Pl → Int | .mk _ t _ _ _ => t
def exprs : Pl → List Ex | .mk _ _ es _ _ => es
def cols : Pl → List Int | .mk _ _ _ cs _ => cs
def kids : Pl → List Pl | .mk _ _ _ _ ks => ks
theorem kid_lt {p x : Pl} (h : x ∈ p.kids) : SizeOf.sizeOf x < SizeOf.sizeOf p := by
  obtain ⟨k, t, es, cs, ks⟩ := p
  have h : x ∈ ks := h
  have := List.sizeOf_lt_of_mem h
  simp only [mk.sizeOf_spec]
  omega
theorem ind {P : Pl → Prop} (h : ∀ p, (∀ x ∈ p.kids, P x) → P p) : ∀ p, P p := by
  have : ∀ (n : Nat) (p : Pl), SizeOf.sizeOf p ≤ n → P p := fun n => by
    induction n with
    | zero => exact fun p hp => h p fun x hx => absurd (kid_lt hx) (by omega)
    | succ n ih => exact fun p hp => h p fun x hx => ih x (by have := kid_lt hx; omega)
  exact fun p => this _ p (Nat.le_refl _)
end Pl
/-- The cells of a plan. -/
structure FP where
  kind : Int
  table : Int
  es : SV
  cs : SV
  ks : SV
def fpC (f : FP) : List Value := [.int .i64 f.kind, .int .i64 f.table, .slice f.es.A f.es.n f.es.c, .slice f.cs.A f.cs.n f.cs.c, .slice f.ks.A f.ks.n f.ks.c]
theorem fpC_length (f : FP) : (fpC f).length = 5 := rfl
def SVok (s : SV) (n : Nat) : Prop := s.n = n ∧ s.n ≤ s.c ∧ s.c ≤ maxLen
def PlAt (w : World) (B : Nat) : Nat → FP → Pl → Prop
  | 0, _, _ => False
  | n + 1, f, p => f.kind = p.kind ∧ f.table = p.table ∧ SVok f.es p.exprs.length ∧ SVok f.cs p.cols.length ∧ SVok f.ks p.kids.length ∧ ExsIn w B f.es.A p.exprs ∧ Sl 1 intC w B f.cs.A p.cols ∧
      ∃ fs : List FP, fs.length = p.kids.length ∧ Sl 5 fpC w B f.ks.A fs ∧ ∀ (i : Nat) (g : FP) (x : Pl), fs[i]? = some g → p.kids[i]? = some x → PlAt w B n g x
theorem PlAt.on {w w' : World} (hb : Below w.heap.size w w') : ∀ (n : Nat) (f : FP) (p : Pl), PlAt w w.heap.size n f p → PlAt w' w'.heap.size n f p
  | 0, _, _, h => h.elim
  | n + 1, f, p, ⟨h1, h2, h3, h4, h5, h6, h7, fs, h8, h9, h10⟩ => ⟨h1, h2, h3, h4, h5, h6.on hb, h7.on hb, fs, h8, h9.on hb, fun i g x hg hx => PlAt.on hb n g x (h10 i g x hg hx)⟩
def PlIn (w : World) (B : Nat) (f : FP) (p : Pl) : Prop := ∃ n, PlAt w B n f p
theorem PlIn.on {w w' : World} {f : FP} {p : Pl} (h : PlIn w w.heap.size f p) (hb : Below w.heap.size w w') : PlIn w' w'.heap.size f p := h.imp fun n h => PlAt.on hb n f p h
def FpAt (w : World) (b o : Nat) (f : FP) : Prop :=
  w.cell? ⟨b, o, none⟩ = some (.int .i64 f.kind) ∧ w.cell? ⟨b, o + 1, none⟩ = some (.int .i64 f.table) ∧ w.cell? ⟨b, o + 2, none⟩ = some (.slice f.es.A f.es.n f.es.c) ∧ w.cell? ⟨b, o + 3, none⟩ = some (.slice f.cs.A f.cs.n f.cs.c) ∧ w.cell? ⟨b, o + 4, none⟩ = some (.slice f.ks.A f.ks.n f.ks.c)
theorem PlIn.flat {w : World} {B : Nat} {f : FP} {p : Pl} (h : PlIn w B f p) : f.kind = p.kind ∧ f.table = p.table ∧ SVok f.es p.exprs.length ∧ SVok f.cs p.cols.length ∧ SVok f.ks p.kids.length ∧ ExsIn w B f.es.A p.exprs ∧ Sl 1 intC w B f.cs.A p.cols := by
  obtain ⟨n, h⟩ := h
  cases n with
  | zero => exact h.elim
  | succ n => exact ⟨h.1, h.2.1, h.2.2.1, h.2.2.2.1, h.2.2.2.2.1, h.2.2.2.2.2.1, h.2.2.2.2.2.2.1⟩
theorem PlIn.kid {w : World} {B : Nat} {f : FP} {p : Pl} (h : PlIn w B f p) {i : Nat} (hi : i < p.kids.length) :
    ∃ b o g, f.ks.A = some ⟨b, o, none⟩ ∧ b < B ∧ FpAt w b (o + i * 5) g ∧ PlIn w B g p.kids[i] := by
  obtain ⟨n, h⟩ := h
  cases n with
  | zero => exact h.elim
  | succ n =>
    obtain ⟨_, _, _, _, _, _, _, fs, h7, h8, h9⟩ := h
    have hi' : i < fs.length := by omega
    obtain ⟨b, o, hA, hB, hc⟩ := h8 (by omega)
    have hx := List.getElem?_eq_getElem hi'
    exact ⟨b, o, fs[i], hA, hB, ⟨hc i _ hx 0 _ rfl, hc i _ hx 1 _ rfl, hc i _ hx 2 _ rfl, hc i _ hx 3 _ rfl, hc i _ hx 4 _ rfl⟩, n, h9 i _ _ hx (List.getElem?_eq_getElem hi)⟩
end Go.Qo

/-
  Which expressions are valid: in plain Lean.
-/
namespace Go.Qo
set_option linter.unusedVariables false
set_option linter.unusedSimpArgs false

/-- The number of kids of a kind (as XKids says of both programs). -/
def kidsK (k : Int) : Int := if k = 1 ∨ k = 2 then 0 else if k = 10 ∨ k = 11 then 1 else if 3 ≤ k ∧ k ≤ 9 then 2 else -1
/-- What is asked of an expression's own cells. -/
def LocOk (width : Int) (e : Ex) : Prop :=
  if e.kind = 1 then (0 ≤ e.col ∧ e.col ≤ width - 1) ∧ e.val = (false, 0) else if e.kind = 2 then e.col = 0 ∧ vValid e.val = true else e.col = 0 ∧ e.val = (false, 0)
/-- Valid for rows of a width, with at most deep levels of kids. -/
inductive ExOk (width : Int) : Int → Ex → Prop where
  | mk {deep : Int} {e : Ex} (hk : (e.kids.length : Int) = kidsK e.kind) (hd : 0 < e.kids.length → deep ≠ 0) (hx : ∀ x, x ∈ e.kids → ExOk width (deep - 1) x) (hl : LocOk width e) : ExOk width deep e
theorem exOk_iff {width deep : Int} {e : Ex} : ExOk width deep e ↔ (e.kids.length : Int) = kidsK e.kind ∧ (0 < e.kids.length → deep ≠ 0) ∧ (∀ x ∈ e.kids, ExOk width (deep - 1) x) ∧ LocOk width e :=
  ⟨fun h => by cases h with | mk hk hd hx hl => exact ⟨hk, hd, hx, hl⟩, fun ⟨h1, h2, h3, h4⟩ => .mk h1 h2 h3 h4⟩
theorem ExOk.kids_le {width deep : Int} {e : Ex} (h : ExOk width deep e) : e.kids.length ≤ 2 := by
  have h1 := (exOk_iff.1 h).1
  unfold kidsK at h1
  split at h1
  · omega
  · split at h1
    · omega
    · split at h1 <;> omega
end Go.Qo

/-
  The text of an expression, in plain Lean.
-/
namespace Go.Qo
open Go.RowKit
set_option linter.unusedVariables false
set_option linter.unusedSimpArgs false

/-- A text as a value. -/
def bArr (l : List UInt8) : ByteArray := ⟨l.toArray⟩
def valText (v : Val) : List UInt8 := if v.1 then [110, 117, 108, 108] else Lib.itoa v.2
def opTexts : List (List UInt8) := [[], [99, 111, 108], [118, 97, 108], [43], [45], [42], [61], [60], [97, 110, 100], [111, 114], [110, 111, 116], [110, 117, 108, 108]]
def opText (k : Int) : List UInt8 := opTexts.getD k.toNat []
mutual
def exText : Ex → List UInt8
  | .mk k c v ks => if k = 1 then 35 :: Lib.itoa c else if k = 2 then valText v else 40 :: (opText k ++ (exsText ks ++ [41]))
def exsText : List Ex → List UInt8
  | [] => []
  | x :: xs => 32 :: (exText x ++ exsText xs)
end
theorem exText_eq (e : Ex) : exText e = if e.kind = 1 then 35 :: Lib.itoa e.col else if e.kind = 2 then valText e.val else 40 :: (opText e.kind ++ (exsText e.kids ++ [41])) := by
  obtain ⟨k, c, v, ks⟩ := e
  rw [exText]
  rfl
theorem exsText_append : ∀ (a b : List Ex), exsText (a ++ b) = exsText a ++ exsText b
  | [], b => by simp [exsText]
  | x :: a, b => by simp [exsText, exsText_append a b]
theorem exsText_snoc (a : List Ex) (x : Ex) : exsText (a ++ [x]) = exsText a ++ 32 :: exText x := by rw [exsText_append]; simp [exsText]
end Go.Qo

/-
  Contracts of the functions of values and rows: the laws' own, the reference's, the program's.
-/
namespace Go.Proofs.YtmhlpjfijpomkaaGreatDoor
open Go.RowKit Go.Qo
set_option linter.unusedVariables false
set_option linter.unusedSimpArgs false

/-! ### Numbers -/
set_option maxHeartbeats 400000 in
theorem inRange_ok (n lo hi : Int) (w : World) (r : Bool) (hr : (decide (lo ≤ n) && decide (n ≤ hi)) = r) :
    Calls Tryz.prog 88 #[.int .i64 n, .int .i64 lo, .int .i64 hi] w fun e w' => e = .returned (.bool r) ∧ w = w' := by
  subst hr
  by_cases h1 : lo ≤ n <;> by_cases h2 : n ≤ hi
  all_goals
    go_enter Tryz.func88, Tryz.ntmps88
    go_wp2
    go_ret
    exact ⟨ret_bool (by simp [h1, h2]; try omega), rfl⟩

set_option maxHeartbeats 400000 in
theorem validWidth_ok (n : Int) (w : World) (r : Bool) (hr : (decide (1 ≤ n) && decide (n ≤ 6)) = r) :
    Calls Tryz.prog 50 #[.int .i64 n] w fun e w' => e = .returned (.bool r) ∧ w = w' := by
  subst hr
  by_cases h1 : 1 ≤ n <;> by_cases h2 : n ≤ 6
  all_goals
    go_enter Tryz.func50, Tryz.ntmps50
    go_wp2
    go_ret
    exact ⟨ret_bool (by simp [h1, h2]; try omega), rfl⟩

set_option maxHeartbeats 400000 in
theorem specValidValue_ok (v : Val) (w : World) (r : Bool) (hr : vValid v = r) :
    Calls Tryz.prog 109 #[.agg #[.bool v.1, .int .i64 v.2]] w fun e w' => e = .returned (.bool r) ∧ Below w.heap.size w w' := by
  subst hr
  obtain ⟨nl, n⟩ := v
  have hx : vValid (nl, n) = ((decide (-9999 ≤ n) && decide (n ≤ 9999)) && (!nl || n == 0)) := by
    unfold vValid; cases nl <;> simp
    by_cases h : n = 0 <;> simp [h]
  obtain ⟨r, hr⟩ : ∃ r, (decide (-9999 ≤ n) && decide (n ≤ 9999)) = r := ⟨_, rfl⟩
  have c1 := Lib.hid (fun w => inRange_ok n (-9999) 9999 w r hr)
  rw [hx, hr]
  clear hx hr
  cases r <;> cases nl
  all_goals
    go_enter Tryz.func109, Tryz.ntmps109
    go_wp2_with fail
    refine (c1.out _).mono ?_; rintro e w' ⟨rfl, rfl⟩
    go_wp2
    go_ret
    exact ⟨ret_bool (by simp), balloc (Below.refl _ _) _⟩

set_option maxHeartbeats 400000 in
theorem implValid_ok (v : Val) (w : World) (r : Bool) (hr : vValid v = r) :
    Calls Tryz.prog 93 #[.agg #[.bool v.1, .int .i64 v.2]] w fun e w' => e = .returned (.bool r) ∧ Below w.heap.size w w' := by
  subst hr
  obtain ⟨nl, n⟩ := v
  unfold vValid
  by_cases h1 : -9999 ≤ n <;> cases nl
  all_goals
    go_enter Tryz.func93, Tryz.ntmps93
    go_wp2
    go_ret
    exact ⟨ret_bool (by simp [h1]; try omega), balloc (Below.refl _ _) _⟩

theorem neqVal {x y : Val} (r : Bool) (hr : decide (x ≠ y) = r) (w : World) : (binOp .neq 38 (.agg #[.bool x.1, .int .i64 x.2]) (.agg #[.bool y.1, .int .i64 y.2])).run Tryz.prog w = .ok (.bool r) w := by
  have hs : Tryz.prog.stoodInHeld 38 = false := by kernel_rfl
  subst hr
  obtain ⟨a, b⟩ := x
  obtain ⟨c, d⟩ := y
  simp [go_sem, hs]
  by_cases h1 : a = c <;> by_cases h2 : b = d <;> simp [h1, h2]
set_option maxHeartbeats 400000 in
theorem eqValue_ok (x y : Val) (w : World) :
    Calls Tryz.prog 103 #[.agg #[.bool x.1, .int .i64 x.2], .agg #[.bool y.1, .int .i64 y.2]] w fun e w' => e = .returned (.bool (decide (x = y))) ∧ Below w.heap.size w w' := by
  obtain ⟨a, b⟩ := x
  obtain ⟨a', b'⟩ := y
  go_enter Tryz.func103, Tryz.ntmps103
  go_wp2
  all_goals go_ret
  all_goals refine ⟨ret_bool ?_, balloc (balloc (Below.refl _ _) _) _⟩
  all_goals simp_all

end Go.Proofs.YtmhlpjfijpomkaaGreatDoor

/-
  Contracts: how many kids a kind of expression has (reference's and program's).
-/
namespace Go.Proofs.YtmhlpjfijpomkaaGreatDoor
open Go.RowKit Go.Qo
set_option linter.unusedVariables false
set_option linter.unusedSimpArgs false

theorem kinds (k : Int) : k = 1 ∨ k = 2 ∨ k = 3 ∨ k = 4 ∨ k = 5 ∨ k = 6 ∨ k = 7 ∨ k = 8 ∨ k = 9 ∨ k = 10 ∨ k = 11 ∨ (¬ k = 1 ∧ ¬ k = 2 ∧ ¬ k = 3 ∧ ¬ k = 4 ∧ ¬ k = 5 ∧ ¬ k = 6 ∧ ¬ k = 7 ∧ ¬ k = 8 ∧ ¬ k = 9 ∧ ¬ k = 10 ∧ ¬ k = 11) := by omega
theorem kidsK_no {k : Int} (h : ¬ k = 1 ∧ ¬ k = 2 ∧ ¬ k = 3 ∧ ¬ k = 4 ∧ ¬ k = 5 ∧ ¬ k = 6 ∧ ¬ k = 7 ∧ ¬ k = 8 ∧ ¬ k = 9 ∧ ¬ k = 10 ∧ ¬ k = 11) : kidsK k = -1 := by
  unfold kidsK
  rw [if_neg (by omega), if_neg (by omega), if_neg (by omega)]

set_option maxHeartbeats 1000000 in
theorem kidsOf_ok (k : Int) (w : World) : Calls Tryz.prog 87 #[.int .i64 k] w fun e w' => e = .returned (.int .i64 (kidsK k)) ∧ w = w' := by
  rcases kinds k with rfl | rfl | rfl | rfl | rfl | rfl | rfl | rfl | rfl | rfl | rfl | h
  case inr.inr.inr.inr.inr.inr.inr.inr.inr.inr.inr =>
    rw [kidsK_no h]
    obtain ⟨h1, h2, h3, h4, h5, h6, h7, h8, h9, h10, h11⟩ := h
    go_enter Tryz.func87, Tryz.ntmps87
    go_wp2
    go_ret
    exact ⟨rfl, rfl⟩
  all_goals
    go_enter Tryz.func87, Tryz.ntmps87
    go_wp2
    go_ret
    exact ⟨rfl, rfl⟩
set_option maxHeartbeats 1000000 in
theorem kidsOfKind_ok (k : Int) (w : World) : Calls Tryz.prog 84 #[.int .i64 k] w fun e w' => e = .returned (.int .i64 (kidsK k)) ∧ w = w' := by
  rcases kinds k with rfl | rfl | rfl | rfl | rfl | rfl | rfl | rfl | rfl | rfl | rfl | h
  case inr.inr.inr.inr.inr.inr.inr.inr.inr.inr.inr =>
    rw [kidsK_no h]
    obtain ⟨h1, h2, h3, h4, h5, h6, h7, h8, h9, h10, h11⟩ := h
    go_enter Tryz.func84, Tryz.ntmps84
    go_wp2
    go_ret
    exact ⟨rfl, rfl⟩
  all_goals
    go_enter Tryz.func84, Tryz.ntmps84
    go_wp2
    go_ret
    exact ⟨rfl, rfl⟩
end Go.Proofs.YtmhlpjfijpomkaaGreatDoor

/-
  Contracts: two expressions that hold one tree are equal (equalExprs, equalLists).
-/
namespace Go.Proofs.YtmhlpjfijpomkaaGreatDoor
open Go.RowKit Go.Qo
set_option linter.unusedVariables false
set_option linter.unusedSimpArgs false

theorem eqlV {x y : Val} (r : Bool) (hr : decide (x = y) = r) (w : World) : (binOp .eql 38 (.agg #[.bool x.1, .int .i64 x.2]) (.agg #[.bool y.1, .int .i64 y.2])).run Tryz.prog w = .ok (.bool r) w := by
  have hs : Tryz.prog.stoodInHeld 38 = false := by kernel_rfl
  subst hr
  obtain ⟨a, b⟩ := x
  obtain ⟨c, d⟩ := y
  simp [go_sem, hs]
  by_cases h1 : a = c <;> by_cases h2 : b = d <;> simp [h1, h2]
/-- An expression as a value. -/
def feV (f : FE) : Value := .agg #[.int .i64 f.kind, .int .i64 f.col, .bool f.val.1, .int .i64 f.val.2, .slice f.sv.A f.sv.n f.sv.c]
end Go.Proofs.YtmhlpjfijpomkaaGreatDoor

/-
  Contracts: which expressions are valid, as the reference says it (validExpr, ValidExpr).
-/
namespace Go.Proofs.YtmhlpjfijpomkaaGreatDoor
open Go.RowKit Go.Qo
set_option linter.unusedVariables false
set_option linter.unusedSimpArgs false

theorem bool_of {P : Prop} : ∃ r : Bool, r = true ↔ P := by
  by_cases h : P
  · exact ⟨true, by simp [h]⟩
  · exact ⟨false, by simp [h]⟩
theorem bool_no {P : Prop} {r : Bool} (h : r = true ↔ P) (n : ¬ P) : r = false := by
  cases r
  · rfl
  · exact absurd (h.1 rfl) n
/-- What spec.validExpr says of the expression x. -/
def VldS (x : Ex) : Prop := ∀ (f : FE) (width deep : Int) (w : World) (r : Bool), ExIn w w.heap.size f x → 1 ≤ width → width ≤ 6 → 0 ≤ deep → deep ≤ 100 → (r = true ↔ ExOk width deep x) →
  Calls Tryz.prog 89 #[feV f, .int .i64 width, .int .i64 deep] w fun e w' => e = .returned (.bool r) ∧ Below w.heap.size w w'

set_option maxRecDepth 20000 in
set_option maxHeartbeats 4000000 in
theorem validExpr_ok : ∀ x : Ex, VldS x := Ex.ind fun x ih f width deep w r h hw1 hw6 hd0 hd1 hr => by
  obtain ⟨a1, a2, a3, a4, a5, a6⟩ := h.flat
  obtain ⟨W1, hW1⟩ : ∃ z, w.alloc (.cells #[.int .i64 x.kind, .int .i64 x.col, .bool x.val.1, .int .i64 x.val.2, .slice f.sv.A x.kids.length f.sv.c] 40) = z := ⟨_, rfl⟩
  have B1 : Below w.heap.size w W1 := by rw [← hW1]; exact balloc (Below.refl _ _) _
  have r1 : Row W1 w.heap.size 40 [.int .i64 x.kind, .int .i64 x.col, .bool x.val.1, .int .i64 x.val.2, .slice f.sv.A x.kids.length f.sv.c] := by rw [← hW1]; exact Row.new _ _ _
  have hz1 : w.heap.size < W1.heap.size := r1.lt
  have HK := Lib.hid (h.kids_in.on B1)
  have HI := Lib.hid ih
  have HR := Lib.hid hr
  have HB1 := Lib.hid B1
  have HW1 := Lib.hid hW1
  have Hrow := Lib.hid r1
  have hx : x.kids.length ≤ maxLen := by omega
  unfold maxLen at hx
  have c0 : ∀ z : Aft W1.heap.size W1, z.v.cell? ⟨w.heap.size, 0, none⟩ = some (.int .i64 x.kind) := fun z => z.cell hz1 (r1.cell 0)
  have c4 : ∀ z : Aft W1.heap.size W1, z.v.cell? ⟨w.heap.size, 4, none⟩ = some (.slice f.sv.A x.kids.length f.sv.c) := fun z => z.cell hz1 (r1.cell 4)
  have HKid := Lib.hid (fun z : Aft W1.heap.size W1 => (kidsOf_ok x.kind z.v).mono fun e w' ⟨he, hw⟩ => (show e = Ending.returned (.int .i64 (kidsK x.kind)) ∧ Below z.v.heap.size z.v w' from ⟨he, hw ▸ Below.refl _ _⟩))
  unfold feV
  rw [a1, a2, a3, a4]
  clear h ih hr a1 a2 a3 a4 a5 a6 B1 r1 hW1
  by_cases hk : (x.kids.length : Int) = kidsK x.kind
  case neg =>
    have hne : ((x.kids.length : Int) != kidsK x.kind) = true := by simp [hk]
    have Hk := Lib.hid hk
    clear hk
    go_enter Tryz.func89, Tryz.ntmps89
    go_upto_region 1 with fail
    rw [HW1.out]
    refine wp_region_aft W1.heap.size (by kernel_rfl) (by kernel_rfl) ?_
    repeat (go_big_quiet_step ((go_at_call 87; exact Calls.aft (Nat.le_refl _) (HKid.out _))))
    refine wpQuiet_nil ?_
    intro w2 hw'
    obtain ⟨⟨_, hb2⟩, rfl⟩ := hw'
    go_wp2
    go_ret
    exact ⟨ret_bool (bool_no HR.out fun ho => Hk.out (exOk_iff.1 ho).1).symm, bch HB1.out hb2⟩
  case pos =>
    have hne : ((x.kids.length : Int) != kidsK x.kind) = false := by simp [hk]
    have Hk := Lib.hid hk
    clear hk
    by_cases hdz : 0 < x.kids.length ∧ deep = 0
    · obtain ⟨hpos, rfl⟩ := hdz
      have hposI : (0 : Int) < (x.kids.length : Int) := by omega
      have Hp := Lib.hid hpos
      go_enter Tryz.func89, Tryz.ntmps89
      go_upto_region 1 with fail
      rw [HW1.out]
      refine wp_region_aft W1.heap.size (by kernel_rfl) (by kernel_rfl) ?_
      repeat (go_big_quiet_step ((go_at_call 87; exact Calls.aft (Nat.le_refl _) (HKid.out _))))
      refine wpQuiet_nil ?_
      intro w2 hw'
      obtain ⟨⟨_, hb2⟩, rfl⟩ := hw'
      go_wp2
      go_ret
      exact ⟨ret_bool (bool_no HR.out fun ho => (exOk_iff.1 ho).2.1 Hp.out rfl).symm, bch HB1.out hb2⟩
    · have Hdz := Lib.hid (show 0 < x.kids.length → deep ≠ 0 from fun h1 h2 => hdz ⟨h1, h2⟩)
      have hcase : (0 < x.kids.length ∧ (deep == 0) = false) ∨ ¬ 0 < x.kids.length := by
        by_cases h0 : 0 < x.kids.length
        · exact .inl ⟨h0, by simpa using Hdz.out h0⟩
        · exact .inr h0
      clear hdz
      rcases hcase with ⟨hpos, hdne⟩ | hpos
      all_goals
        go_enter Tryz.func89, Tryz.ntmps89
        go_upto_region 1 with fail
        rw [HW1.out]
        refine wp_region_aft W1.heap.size (by kernel_rfl) (by kernel_rfl) ?_
        repeat (go_big_quiet_step ((go_at_call 87; exact Calls.aft (Nat.le_refl _) (HKid.out _))))
        refine wpQuiet_nil ?_
        intro w2 hw'
        obtain ⟨⟨_, hb2⟩, rfl⟩ := hw'
        have hb2' := hb2
        have HB2 := Lib.hid (bch HB1.out hb2)
        have HK2 := Lib.hid (HK.out.on hb2)
        have Hrow2 := Lib.hid (Hrow.out.on hb2)
        have hz2 : w.heap.size < w2.heap.size := Hrow2.out.lt
        clear c0 c4 HKid hb2 hb2' hpos
        go_wp2
        go_loopg [7] x.kids.length (fun g iv wr => ∃ i : Nat, i ≤ x.kids.length ∧ g = x.kids.length - i ∧ iv = .int .i64 i ∧ Below w2.heap.size w2 wr ∧ ∀ j (hj : j < x.kids.length), j < i → ExOk width (deep - 1) x.kids[j])
        case atStart => exact ⟨0, by omega, by omega, rfl, Below.refl _ _, fun j hj hn => absurd hn (by omega)⟩
        case round =>
          obtain ⟨i, hi, rfl, rfl, hb, hall⟩ := hrel
          have HB := Lib.hid hb
          have HA := Lib.hid hall
          have hrow := Hrow2.out.on hb
          have c0 : wr.cell? ⟨w.heap.size, 0, none⟩ = some (.int .i64 x.kind) := hrow.cell 0
          have c1 : wr.cell? ⟨w.heap.size, 1, none⟩ = some (.int .i64 x.col) := hrow.cell 1
          have c2 : wr.cell? ⟨w.heap.size, 2, none⟩ = some (.bool x.val.1) := hrow.cell 2
          have c3 : wr.cell? ⟨w.heap.size, 3, none⟩ = some (.int .i64 x.val.2) := hrow.cell 3
          have c4 : wr.cell? ⟨w.heap.size, 4, none⟩ = some (.slice f.sv.A x.kids.length f.sv.c) := hrow.cell 4
          clear hb hall hrow
          by_cases hlt : i < x.kids.length
          · obtain ⟨b1, o1, g, hA, hB1, ⟨d0, d1, d2, d3, d4⟩, hg⟩ := (HK2.out.on HB.out).at_ hlt
            obtain ⟨rk, hrk⟩ := bool_of (P := ExOk width (deep - 1) x.kids[i])
            have HX := Lib.hid (HI.out _ (List.getElem_mem hlt) g width (deep - 1) wr rk hg hw1 hw6 (by have := Hdz.out (by omega); omega) (by omega) hrk)
            unfold feV at HX
            have Hrk := Lib.hid hrk
            have hil : (i : Int) < (x.kids.length : Int) := by omega
            have HhA := Lib.hid hA
            rw [hA] at c4
            clear hrk hg hA
            go_wp2_with fail
            refine HX.out.mono ?_
            rintro e w3 ⟨rfl, hb3⟩
            cases rk
            · go_wp2
              go_ret
              exact ⟨ret_bool (bool_no HR.out fun ho => by have := Hrk.out.2 ((exOk_iff.1 ho).2.2.1 _ (List.getElem_mem hlt)); cases this).symm, bch (bch HB2.out HB.out) hb3⟩
            · go_wp2
              go_roundg (x.kids.length - (i + 1))
              case measure => omega
              case rel =>
                refine ⟨i + 1, by omega, rfl, by go_num, bch HB.out hb3, fun j hj hn => ?_⟩
                by_cases hji : j < i
                · exact HA.out j hj hji
                · have : j = i := by omega
                  subst this
                  exact (by simpa using Hrk.out)
          · have Hall := Lib.hid (show ∀ y ∈ x.kids, ExOk width (deep - 1) y from fun y hy => by
              obtain ⟨j, hj, rfl⟩ := List.getElem_of_mem hy
              exact HA.out j hj (by omega))
            have Hloc := Lib.hid (show r = true ↔ LocOk width x from HR.out.trans ⟨fun ho => (exOk_iff.1 ho).2.2.2, fun ho => exOk_iff.2 ⟨Hk.out, Hdz.out, Hall.out, ho⟩⟩)
            have HBr := Lib.hid (bch HB2.out HB.out)
            unfold LocOk at Hloc
            by_cases k1 : x.kind = 1
            · rw [if_pos k1] at Hloc
              obtain ⟨q, hq⟩ : ∃ q, (decide (0 ≤ x.col) && decide (x.col ≤ width - 1)) = q := ⟨_, rfl⟩
              obtain ⟨q2, hq2⟩ : ∃ q2, decide (x.val = (false, 0)) = q2 := ⟨_, rfl⟩
              have HIn := Lib.hid (inRange_ok x.col 0 (width - 1) wr q hq)
              have hev := fun z => eqlV (x := x.val) (y := (false, 0)) q2 hq2 z
              have Hq := Lib.hid (And.intro hq hq2)
              rw [k1] at c0
              clear hq hq2 k1
              cases q <;> cases q2
              all_goals
                go_wp2_with fail
                refine HIn.out.mono ?_
                rintro e w3 ⟨rfl, rfl⟩
                go_wp2
                go_ret
                refine ⟨ret_bool ?_, HBr.out⟩
                have h1 := Hq.out.1
                have h2 := Hq.out.2
                have h3 := Hloc.out
                simp at h1 h2
                cases r <;> simp [h1, h2] at h3 ⊢ <;> omega
            · rw [if_neg k1] at Hloc
              have k1' : (x.kind == 1) = false := by simpa using k1
              clear k1
              by_cases k2 : x.kind = 2
              · rw [if_pos k2] at Hloc
                rw [k2] at c0
                clear k1' k2
                obtain ⟨q2, hq2⟩ : ∃ q2, vValid x.val = q2 := ⟨_, rfl⟩
                have HV := Lib.hid (specValidValue_ok x.val wr q2 hq2)
                have Hq2 := Lib.hid hq2
                clear hq2
                by_cases hcol : x.col = 0
                · have Hcol := Lib.hid hcol
                  rw [hcol] at c1
                  clear hcol
                  go_wp2_with fail
                  refine HV.out.mono ?_
                  rintro e w3 ⟨rfl, hb3⟩
                  go_wp2
                  go_ret
                  refine ⟨ret_bool ?_, bch HBr.out hb3⟩
                  have h1 := Hcol.out
                  have h2 := Hq2.out
                  have h3 := Hloc.out
                  cases r <;> simp [h1, h2] at h3 ⊢ <;> simp [h3]
                · have hcol' : (x.col == 0) = false := by simpa using hcol
                  have Hcol := Lib.hid hcol
                  clear hcol
                  go_wp2
                  go_ret
                  refine ⟨ret_bool ?_, HBr.out⟩
                  have h1 := Hcol.out
                  have h3 := Hloc.out
                  cases r <;> simp [h1] at h3 ⊢
              · rw [if_neg k2] at Hloc
                have k2' : (x.kind == 2) = false := by simpa using k2
                clear k2
                obtain ⟨q2, hq2⟩ : ∃ q2, decide (x.val = (false, 0)) = q2 := ⟨_, rfl⟩
                have hev := fun z => eqlV (x := x.val) (y := (false, 0)) q2 hq2 z
                have Hq2 := Lib.hid hq2
                clear hq2
                by_cases hcol : x.col = 0
                · have Hcol := Lib.hid hcol
                  rw [hcol] at c1
                  clear hcol
                  go_wp2
                  go_ret
                  refine ⟨ret_bool ?_, HBr.out⟩
                  have h1 := Hcol.out
                  have h2 := Hq2.out
                  have h3 := Hloc.out
                  cases q2 <;> cases r <;> simp [h1] at h2 h3 ⊢ <;> simp_all
                · have hcol' : (x.col == 0) = false := by simpa using hcol
                  have Hcol := Lib.hid hcol
                  clear hcol
                  go_wp2
                  go_ret
                  refine ⟨ret_bool ?_, HBr.out⟩
                  have h1 := Hcol.out
                  have h3 := Hloc.out
                  cases r <;> simp [h1] at h3 ⊢

set_option maxHeartbeats 1000000 in
theorem specValidExpr_ok (x : Ex) (f : FE) (width : Int) (w : World) (r : Bool) (h : ExIn w w.heap.size f x) (hr : r = true ↔ (1 ≤ width ∧ width ≤ 6) ∧ ExOk width 8 x) :
    Calls Tryz.prog 46 #[feV f, .int .i64 width] w fun e w' => e = .returned (.bool r) ∧ Below w.heap.size w w' := by
  obtain ⟨W1, hW1⟩ : ∃ z, w.alloc (.cells #[.int .i64 f.kind, .int .i64 f.col, .bool f.val.1, .int .i64 f.val.2, .slice f.sv.A f.sv.n f.sv.c] 40) = z := ⟨_, rfl⟩
  have B1 : Below w.heap.size w W1 := by rw [← hW1]; exact balloc (Below.refl _ _) _
  have r1 : Row W1 w.heap.size 40 [.int .i64 f.kind, .int .i64 f.col, .bool f.val.1, .int .i64 f.val.2, .slice f.sv.A f.sv.n f.sv.c] := by rw [← hW1]; exact Row.new _ _ _
  obtain ⟨q, hq⟩ : ∃ q, (decide (1 ≤ width) && decide (width ≤ 6)) = q := ⟨_, rfl⟩
  have HIn := Lib.hid (inRange_ok width 1 6 W1 q hq)
  have HB1 := Lib.hid B1
  have HW1 := Lib.hid hW1
  have HH := Lib.hid (h.on B1)
  have HR := Lib.hid hr
  have Hq := Lib.hid hq
  have c0 : W1.cell? ⟨w.heap.size, 0, none⟩ = some (.int .i64 f.kind) := r1.cell 0
  have c1 : W1.cell? ⟨w.heap.size, 1, none⟩ = some (.int .i64 f.col) := r1.cell 1
  have c2 : W1.cell? ⟨w.heap.size, 2, none⟩ = some (.bool f.val.1) := r1.cell 2
  have c3 : W1.cell? ⟨w.heap.size, 3, none⟩ = some (.int .i64 f.val.2) := r1.cell 3
  have c4 : W1.cell? ⟨w.heap.size, 4, none⟩ = some (.slice f.sv.A f.sv.n f.sv.c) := r1.cell 4
  unfold feV
  clear h hr hq B1 r1 hW1
  cases q
  · go_enter Tryz.func46, Tryz.ntmps46
    go_upto_region 1 with fail
    rw [HW1.out]
    go_wp2_with fail
    refine HIn.out.mono ?_
    rintro e w3 ⟨rfl, rfl⟩
    go_wp2
    go_ret
    refine ⟨ret_bool ?_, HB1.out⟩
    refine (bool_no HR.out fun ho => ?_).symm
    have := Hq.out
    simp at this
    omega
  · have hw : 1 ≤ width ∧ width ≤ 6 := by have := Hq.out; simpa using this
    have HV := Lib.hid (validExpr_ok x f width 8 W1 r HH.out hw.1 hw.2 (by omega) (by omega) (HR.out.trans (and_iff_right hw)))
    unfold feV at HV
    clear hw
    go_enter Tryz.func46, Tryz.ntmps46
    go_upto_region 1 with fail
    rw [HW1.out]
    go_wp2_with fail
    refine HIn.out.mono ?_
    rintro e w3 ⟨rfl, rfl⟩
    go_wp2_with fail
    refine HV.out.mono ?_
    rintro e w4 ⟨rfl, hb4⟩
    go_wp2
    go_ret
    exact ⟨ret_bool (by simp), bch HB1.out hb4⟩
end Go.Proofs.YtmhlpjfijpomkaaGreatDoor

/-
  Steps of a drawing region, one by one: the operation is found in the list.
-/
namespace Go.Proofs.YtmhlpjfijpomkaaGreatDoor
section
variable {P : Program} {l : List Oper} {Q : Exit → Act → World → Prop} {md : Region.Mode} {S : World → Prop}
/-- 'wpAnyH_take' with the operation found in the list. -/
theorem takeL {i : Nat} {oi : Oper} {v : Value} {fuel : Nat} {listed : Array Bool} {a : Act} {w : World} (hi : l[i]? = some oi)
    (hs : Region.noSelect l.toArray = true) (hf : Region.free md l.toArray listed i = true) (hr : (Region.ready md l.toArray listed).contains i = true)
    (hQ : ∀ c a w, Q (.panic c) (a.put oi.dst v) w → Q (.panic c) a w) (hy : YieldsIf P l.toArray S oi v a) (hS : S w)
    (h : wpAnyH P md l.toArray Q S fuel (listed.setIfInBounds i true) (a.put oi.dst v) w) : wpAnyH P md l.toArray Q S (fuel + 1) listed a w :=
  wpAnyH_take (by simpa using hi) hs hf hr hQ hy hS h
theorem readyL {fuel : Nat} {listed : Array Bool} {a : Act} {w : World} {i : Nat} {o : Oper} {rs : List Nat} (ho : l[i]? = some o)
    (h : ∀ K' : Act → World → Prop, Shut (∀ a w, S w → (S w → wpAnyH P md l.toArray Q S fuel (listed.setIfInBounds i true) a w) → K' a w) → if Region.wanted o (yielded l.toArray a.tmps) = true then Oper.wp P o a w K' Q else K' (a.put o.dst undef) w)
    (hs : AllReadyH P md l.toArray Q S fuel listed a w rs) : AllReadyH P md l.toArray Q S fuel listed a w (i :: rs) := AllReadyH.cons (by simpa using ho) h hs
end
end Go.Proofs.YtmhlpjfijpomkaaGreatDoor
