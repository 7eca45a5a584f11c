/-
  Trees whose blocks are known: held in blocks of a kind 'S'. (For what the generators make.) No program in sight.
-/
import Derived.Test.YtcbfbgngkdiijaaPlD
import Derived.Test.YtcbfbgngkdiijaaPln
namespace Go.Qo
open Go.RowKit
set_option linter.unusedVariables false
set_option linter.unusedSimpArgs false

/-- A slice that reads as a list, its block one of S. -/
def SlS {α : Type} (S : Nat → Prop) (sz : Nat) (enc : α → List Value) (w : World) (A : Option Addr) (xs : List α) : Prop :=
  0 < xs.length → ∃ b off, A = some ⟨b, off, none⟩ ∧ S b ∧ b < w.heap.size ∧ ∀ i x, xs[i]? = some x → ∀ j u, (enc x)[j]? = some u → w.cell? ⟨b, off + i * sz + j, none⟩ = some u
section
variable {α : Type} {S T : Nat → Prop} {sz : Nat} {enc : α → List Value} {w w' : World} {A : Option Addr} {xs : List α}
theorem SlS.nil : SlS S sz enc w A [] := fun h => absurd h (by simp)
theorem SlS.sl (h : SlS S sz enc w A xs) : Sl sz enc w w.heap.size A xs := fun h0 => by
  obtain ⟨b, off, hA, _, hB, hc⟩ := h h0
  exact ⟨b, off, hA, hB, hc⟩
theorem SlS.mono (h : SlS S sz enc w A xs) (hST : ∀ b, b < w.heap.size → S b → T b) : SlS T sz enc w A xs := fun h0 => by
  obtain ⟨b, off, hA, hS, hB, hc⟩ := h h0
  exact ⟨b, off, hA, hST b hB hS, hB, hc⟩
theorem SlS.keep (h : SlS S sz enc w A xs) (hs : w.heap.size ≤ w'.heap.size) (hk : ∀ b, S b → b < w.heap.size → w'.heap[b]? = w.heap[b]?) : SlS S sz enc w' A xs := fun h0 => by
  obtain ⟨b, off, hA, hS, hB, hc⟩ := h h0
  exact ⟨b, off, hA, hS, by omega, fun i x hx j u hu => (World.cell?_of_block (w := w) (a := ⟨b, _, none⟩) (hk b hS hB)).trans (hc i x hx j u hu)⟩
theorem SlS.of_ow {lo : Nat} {e : TypeId} {n c : Nat} (he : ∀ x, (enc x).length = sz) (h : Ow lo e sz enc w (.slice A n c) xs) : SlS (fun b => lo ≤ b) sz enc w A xs := fun h0 => by
  obtain ⟨A', c', hv, _, _, hs⟩ := h.shape he
  cases hv
  obtain ⟨b, off, hA, h1, h2, _, h4⟩ := hs h0
  exact ⟨b, off, hA, h1, h2, h4⟩
end
theorem Row.slS {α : Type} {S : Nat → Prop} {sz : Nat} {enc : α → List Value} (he : ∀ x, (enc x).length = sz) {w : World} {b : Nat} {t : TypeId} {xs : List α} (h : Row w b t (xs.flatMap enc)) (hb : S b) : SlS S sz enc w (some ⟨b, 0, none⟩) xs := fun h0 => by
  obtain ⟨b', off, hA, hB, hc⟩ := (Row.sl' he h) h0
  cases hA
  exact ⟨_, _, rfl, hb, hB, hc⟩

/-- One bound for all of a list. -/
theorem uni {α β : Type} (R : Nat → α → β → Prop) (hm : ∀ n m a b, n ≤ m → R n a b → R m a b) : ∀ (fs : List α) (es : List β), (∀ (i : Nat) (g : α) (x : β), fs[i]? = some g → es[i]? = some x → ∃ n, R n g x) → ∃ n, ∀ (i : Nat) (g : α) (x : β), fs[i]? = some g → es[i]? = some x → R n g x
  | [], _, _ => ⟨0, fun i g x h _ => by simp at h⟩
  | _ :: _, [], _ => ⟨0, fun i g x _ h => by simp at h⟩
  | f :: fs, e :: es, h => by
    obtain ⟨n, hn⟩ := uni R hm fs es fun i g x hg hx => h (i + 1) g x (by simpa using hg) (by simpa using hx)
    obtain ⟨m, hm'⟩ := h 0 f e rfl rfl
    refine ⟨n + m, fun i g x hg hx => ?_⟩
    cases i with
    | zero =>
      simp at hg hx
      subst hg hx
      exact hm _ _ _ _ (by omega) hm'
    | succ i => exact hm _ _ _ _ (by omega) (hn i g x (by simpa using hg) (by simpa using hx))

def ExS (S : Nat → Prop) (w : World) : Nat → FE → Ex → Prop
  | 0, _, _ => False
  | n + 1, f, e => f.kind = e.kind ∧ f.col = e.col ∧ f.val = e.val ∧ f.sv.n = e.kids.length ∧ f.sv.n ≤ f.sv.c ∧ f.sv.c ≤ maxLen ∧ e.kids.length ≤ 1048576 ∧
      ∃ fs : List FE, fs.length = e.kids.length ∧ SlS S 5 feC w f.sv.A fs ∧ ∀ (i : Nat) (g : FE) (x : Ex), fs[i]? = some g → e.kids[i]? = some x → ExS S w n g x
section
variable {S T : Nat → Prop} {w w' : World}
theorem ExS.more : ∀ (n m : Nat) (f : FE) (e : Ex), n ≤ m → ExS S w n f e → ExS S w m f e
  | 0, _, _, _, _, h => h.elim
  | n + 1, 0, _, _, hm, _ => absurd hm (by omega)
  | n + 1, m + 1, f, e, hm, ⟨h1, h2, h3, h4, h5, h6, hb, fs, h7, h8, h9⟩ => ⟨h1, h2, h3, h4, h5, h6, hb, fs, h7, h8, fun i g x hg hx => ExS.more n m g x (by omega) (h9 i g x hg hx)⟩
theorem ExS.map (hf : ∀ A (fs : List FE), SlS S 5 feC w A fs → SlS T 5 feC w' A fs) : ∀ (n : Nat) (f : FE) (e : Ex), ExS S w n f e → ExS T w' n f e
  | 0, _, _, h => h.elim
  | n + 1, f, e, ⟨h1, h2, h3, h4, h5, h6, hb, fs, h7, h8, h9⟩ => ⟨h1, h2, h3, h4, h5, h6, hb, fs, h7, hf _ _ h8, fun i g x hg hx => ExS.map hf n g x (h9 i g x hg hx)⟩
theorem ExS.at_ : ∀ (n : Nat) (f : FE) (e : Ex), ExS S w n f e → ExAt w w.heap.size n f e
  | 0, _, _, h => h.elim
  | n + 1, f, e, ⟨h1, h2, h3, h4, h5, h6, hb, fs, h7, h8, h9⟩ => ⟨h1, h2, h3, h4, h5, h6, fs, h7, h8.sl, fun i g x hg hx => ExS.at_ n g x (h9 i g x hg hx)⟩
/-- Held in blocks of S, however deep. -/
def ExT (S : Nat → Prop) (w : World) (f : FE) (e : Ex) : Prop := ∃ n, ExS S w n f e
theorem ExT.in_ {f : FE} {e : Ex} (h : ExT S w f e) : ExIn w w.heap.size f e := h.imp fun _ h => h.at_
theorem ExT.mono {f : FE} {e : Ex} (h : ExT S w f e) (hST : ∀ b, b < w.heap.size → S b → T b) : ExT T w f e := h.imp fun _ h => ExS.map (fun _ _ h => h.mono hST) _ _ _ h
theorem ExT.keep {f : FE} {e : Ex} (h : ExT S w f e) (hs : w.heap.size ≤ w'.heap.size) (hk : ∀ b, S b → b < w.heap.size → w'.heap[b]? = w.heap[b]?) : ExT S w' f e := h.imp fun _ h => ExS.map (fun _ _ h => h.keep hs hk) _ _ _ h
/-- A list. -/
def ExsT (S : Nat → Prop) (w : World) (A : Option Addr) (es : List Ex) : Prop :=
  ∃ fs : List FE, fs.length = es.length ∧ SlS S 5 feC w A fs ∧ ∀ (i : Nat) (g : FE) (x : Ex), fs[i]? = some g → es[i]? = some x → ExT S w g x
theorem ExsT.in_ {A : Option Addr} {es : List Ex} (h : ExsT S w A es) : ExsIn w w.heap.size A es := by
  obtain ⟨fs, h1, h2, h3⟩ := h
  exact ⟨fs, h1, h2.sl, fun i g x hg hx => (h3 i g x hg hx).in_⟩
theorem ExsT.mono {A : Option Addr} {es : List Ex} (h : ExsT S w A es) (hST : ∀ b, b < w.heap.size → S b → T b) : ExsT T w A es := by
  obtain ⟨fs, h1, h2, h3⟩ := h
  exact ⟨fs, h1, h2.mono hST, fun i g x hg hx => (h3 i g x hg hx).mono hST⟩
theorem ExsT.keep {A : Option Addr} {es : List Ex} (h : ExsT S w A es) (hs : w.heap.size ≤ w'.heap.size) (hk : ∀ b, S b → b < w.heap.size → w'.heap[b]? = w.heap[b]?) : ExsT S w' A es := by
  obtain ⟨fs, h1, h2, h3⟩ := h
  exact ⟨fs, h1, h2.keep hs hk, fun i g x hg hx => (h3 i g x hg hx).keep hs hk⟩
theorem ExsT.nil {A : Option Addr} : ExsT S w A [] := ⟨[], rfl, SlS.nil, fun i g x h _ => by simp at h⟩
/-- An expression from its kids. -/
theorem ExT.make {k c : Int} {v : Val} {A : Option Addr} {n cap : Nat} {es : List Ex} (h : ExsT S w A es) (hn : n = es.length) (h1 : n ≤ cap) (h2 : cap ≤ maxLen) (h3 : es.length ≤ 1048576 := by first | decide | simp | omega) : ExT S w ⟨k, c, v, ⟨A, n, cap⟩⟩ (.mk k c v es) := by
  obtain ⟨fs, e1, e2, e3⟩ := h
  obtain ⟨m, hm⟩ := uni (ExS S w) (fun n m f e => ExS.more n m f e) fs es fun i g x hg hx => e3 i g x hg hx
  exact ⟨m + 1, rfl, rfl, rfl, hn, h1, h2, h3, fs, e1, e2, hm⟩
theorem ExT.leaf {k c : Int} {v : Val} : ExT S w ⟨k, c, v, ⟨none, 0, 0⟩⟩ (.mk k c v []) := ExT.make ExsT.nil rfl (Nat.le_refl _) (by decide)
/-- Other flat cells, the same kids. -/
theorem ExT.flat {f : FE} {e : Ex} (h : ExT S w f e) : f.sv.n = e.kids.length ∧ f.sv.n ≤ f.sv.c ∧ f.sv.c ≤ maxLen ∧ ExsT S w f.sv.A e.kids := by
  obtain ⟨n, h⟩ := h
  cases n with
  | zero => exact h.elim
  | succ n =>
    obtain ⟨h1, h2, h3, h4, h5, h6, hb, fs, h7, h8, h9⟩ := h
    exact ⟨h4, h5, h6, fs, h7, h8, fun i g x hg hx => ⟨n, h9 i g x hg hx⟩⟩
theorem ExT.self {f : FE} {e : Ex} (h : ExT S w f e) : f.kind = e.kind ∧ f.col = e.col ∧ f.val = e.val := by
  obtain ⟨n, h⟩ := h
  cases n with
  | zero => exact h.elim
  | succ n => exact ⟨h.1, h.2.1, h.2.2.1⟩
end

def PlS (S : Nat → Prop) (w : World) : Nat → FP → Pl → Prop
  | 0, _, _ => False
  | n + 1, f, p => f.kind = p.kind ∧ f.table = p.table ∧ SVok f.es p.exprs.length ∧ SVok f.cs p.cols.length ∧ SVok f.ks p.kids.length ∧ ExsT S w f.es.A p.exprs ∧ SlS S 1 intC w f.cs.A p.cols ∧ (p.exprs.length ≤ 1048576 ∧ p.cols.length ≤ 1048576 ∧ p.kids.length ≤ 1048576) ∧
      ∃ fs : List FP, fs.length = p.kids.length ∧ SlS S 5 fpC w f.ks.A fs ∧ ∀ (i : Nat) (g : FP) (x : Pl), fs[i]? = some g → p.kids[i]? = some x → PlS S w n g x
section
variable {S T : Nat → Prop} {w w' : World}
theorem PlS.more : ∀ (n m : Nat) (f : FP) (p : Pl), n ≤ m → PlS S w n f p → PlS S w m f p
  | 0, _, _, _, _, h => h.elim
  | n + 1, 0, _, _, hm, _ => absurd hm (by omega)
  | n + 1, m + 1, f, p, hm, ⟨h1, h2, h3, h4, h5, h6, h7, hb, fs, h8, h9, h10⟩ => ⟨h1, h2, h3, h4, h5, h6, h7, hb, fs, h8, h9, fun i g x hg hx => PlS.more n m g x (by omega) (h10 i g x hg hx)⟩
theorem PlS.map (hs : ∀ A (es : List Ex), ExsT S w A es → ExsT T w' A es) (hi : ∀ A (cs : List Int), SlS S 1 intC w A cs → SlS T 1 intC w' A cs) (hf : ∀ A (fs : List FP), SlS S 5 fpC w A fs → SlS T 5 fpC w' A fs) : ∀ (n : Nat) (f : FP) (p : Pl), PlS S w n f p → PlS T w' n f p
  | 0, _, _, h => h.elim
  | n + 1, f, p, ⟨h1, h2, h3, h4, h5, h6, h7, hb, fs, h8, h9, h10⟩ => ⟨h1, h2, h3, h4, h5, hs _ _ h6, hi _ _ h7, hb, fs, h8, hf _ _ h9, fun i g x hg hx => PlS.map hs hi hf n g x (h10 i g x hg hx)⟩
theorem PlS.at_ : ∀ (n : Nat) (f : FP) (p : Pl), PlS S w n f p → PlAt w w.heap.size n f p
  | 0, _, _, h => h.elim
  | n + 1, f, p, ⟨h1, h2, h3, h4, h5, h6, h7, hb, fs, h8, h9, h10⟩ => ⟨h1, h2, h3, h4, h5, h6.in_, h7.sl, fs, h8, h9.sl, fun i g x hg hx => PlS.at_ n g x (h10 i g x hg hx)⟩
def PlT (S : Nat → Prop) (w : World) (f : FP) (p : Pl) : Prop := ∃ n, PlS S w n f p
theorem PlT.in_ {f : FP} {p : Pl} (h : PlT S w f p) : PlIn w w.heap.size f p := h.imp fun _ h => h.at_
theorem PlT.mono {f : FP} {p : Pl} (h : PlT S w f p) (hST : ∀ b, b < w.heap.size → S b → T b) : PlT T w f p := h.imp fun _ h => PlS.map (fun _ _ h => h.mono hST) (fun _ _ h => h.mono hST) (fun _ _ h => h.mono hST) _ _ _ h
theorem PlT.keep {f : FP} {p : Pl} (h : PlT S w f p) (hs : w.heap.size ≤ w'.heap.size) (hk : ∀ b, S b → b < w.heap.size → w'.heap[b]? = w.heap[b]?) : PlT S w' f p := h.imp fun _ h => PlS.map (fun _ _ h => h.keep hs hk) (fun _ _ h => h.keep hs hk) (fun _ _ h => h.keep hs hk) _ _ _ h
def PlsT (S : Nat → Prop) (w : World) (A : Option Addr) (ps : List Pl) : Prop :=
  ∃ fs : List FP, fs.length = ps.length ∧ SlS S 5 fpC w A fs ∧ ∀ (i : Nat) (g : FP) (x : Pl), fs[i]? = some g → ps[i]? = some x → PlT S w g x
theorem PlsT.nil {A : Option Addr} : PlsT S w A [] := ⟨[], rfl, SlS.nil, fun i g x h _ => by simp at h⟩
theorem PlT.make {k t : Int} {es cs ks : SV} {xs : List Ex} {cols : List Int} {ps : List Pl} (h1 : SVok es xs.length) (h2 : SVok cs cols.length) (h3 : SVok ks ps.length) (h4 : ExsT S w es.A xs) (h5 : SlS S 1 intC w cs.A cols) (h6 : PlsT S w ks.A ps) (h7 : xs.length ≤ 1048576 := by first | decide | simp | omega) (h8 : cols.length ≤ 1048576 := by first | decide | simp | omega) (h9 : ps.length ≤ 1048576 := by first | decide | simp | omega) :
    PlT S w ⟨k, t, es, cs, ks⟩ (.mk k t xs cols ps) := by
  obtain ⟨fs, e1, e2, e3⟩ := h6
  obtain ⟨m, hm⟩ := uni (PlS S w) (fun n m f e => PlS.more n m f e) fs ps fun i g x hg hx => e3 i g x hg hx
  exact ⟨m + 1, rfl, rfl, h1, h2, h3, h4, h5, ⟨h7, h8, h9⟩, fs, e1, e2, hm⟩
theorem PlT.flat {f : FP} {p : Pl} (h : PlT S w f p) : f.kind = p.kind ∧ f.table = p.table ∧ SVok f.es p.exprs.length ∧ SVok f.cs p.cols.length ∧ SVok f.ks p.kids.length ∧ ExsT S w f.es.A p.exprs ∧ SlS S 1 intC w f.cs.A p.cols ∧ PlsT S w f.ks.A p.kids := by
  obtain ⟨n, h⟩ := h
  cases n with
  | zero => exact h.elim
  | succ n =>
    obtain ⟨h1, h2, h3, h4, h5, h6, h7, hb, fs, h8, h9, h10⟩ := h
    exact ⟨h1, h2, h3, h4, h5, h6, h7, fs, h8, h9, fun i g x hg hx => ⟨n, h10 i g x hg hx⟩⟩
theorem SVok.nil : SVok ⟨none, 0, 0⟩ 0 := ⟨rfl, Nat.le_refl _, by decide⟩
theorem SVok.lit {A : Option Addr} {n : Nat} (h : n ≤ maxLen) : SVok ⟨A, n, n⟩ n := ⟨rfl, Nat.le_refl _, h⟩
end
theorem feC_one (f : FE) : ∀ u ∈ feC f, u.oneCell' = true := by intro u hu; simp [feC] at hu; rcases hu with rfl | rfl | rfl | rfl | rfl <;> rfl
theorem fpC_one (f : FP) : ∀ u ∈ fpC f, u.oneCell' = true := by intro u hu; simp [fpC] at hu; rcases hu with rfl | rfl | rfl | rfl | rfl <;> rfl

/-- Trees all of whose lists are short. -/
inductive ExB : Ex → Prop where
  | mk {e : Ex} (h : e.kids.length ≤ 1048576) (hk : ∀ x, x ∈ e.kids → ExB x) : ExB e
theorem ExB.len {e : Ex} (h : ExB e) : e.kids.length ≤ 1048576 := by cases h with | mk h _ => exact h
theorem ExB.kid {e x : Ex} (h : ExB e) (hx : x ∈ e.kids) : ExB x := by cases h with | mk _ hk => exact hk x hx
theorem ExS.bnd {S : Nat → Prop} {w : World} : ∀ (n : Nat) (f : FE) (e : Ex), ExS S w n f e → ExB e
  | 0, _, _, h => h.elim
  | n + 1, f, e, ⟨h1, h2, h3, h4, h5, h6, hb, fs, h7, h8, h9⟩ => .mk hb fun x hx => by
    obtain ⟨i, hi, rfl⟩ := List.getElem_of_mem hx
    exact ExS.bnd n fs[i] _ (h9 i _ _ (List.getElem?_eq_getElem (by omega)) (List.getElem?_eq_getElem hi))
theorem ExT.bnd {S : Nat → Prop} {w : World} {f : FE} {e : Ex} (h : ExT S w f e) : ExB e := by obtain ⟨n, h⟩ := h; exact h.bnd
theorem ExsT.bnd {S : Nat → Prop} {w : World} {A : Option Addr} {es : List Ex} (h : ExsT S w A es) : ∀ x ∈ es, ExB x := fun x hx => by
  obtain ⟨fs, h1, h2, h3⟩ := h
  obtain ⟨i, hi, rfl⟩ := List.getElem_of_mem hx
  exact (h3 i fs[i] _ (List.getElem?_eq_getElem (by omega)) (List.getElem?_eq_getElem hi)).bnd
inductive PlB : Pl → Prop where
  | mk {p : Pl} (h1 : p.exprs.length ≤ 1048576) (h2 : p.cols.length ≤ 1048576) (h3 : p.kids.length ≤ 1048576) (he : ∀ x, x ∈ p.exprs → ExB x) (hk : ∀ x, x ∈ p.kids → PlB x) : PlB p
theorem PlB.all {p : Pl} (h : PlB p) : (p.exprs.length ≤ 1048576 ∧ p.cols.length ≤ 1048576 ∧ p.kids.length ≤ 1048576) ∧ (∀ x ∈ p.exprs, ExB x) ∧ ∀ x ∈ p.kids, PlB x := by cases h with | mk h1 h2 h3 he hk => exact ⟨⟨h1, h2, h3⟩, he, hk⟩
theorem PlS.bnd {S : Nat → Prop} {w : World} : ∀ (n : Nat) (f : FP) (p : Pl), PlS S w n f p → PlB p
  | 0, _, _, h => h.elim
  | n + 1, f, p, ⟨h1, h2, h3, h4, h5, h6, h7, hb, fs, h8, h9, h10⟩ => .mk hb.1 hb.2.1 hb.2.2 h6.bnd fun x hx => by
    obtain ⟨i, hi, rfl⟩ := List.getElem_of_mem hx
    exact PlS.bnd n fs[i] _ (h10 i _ _ (List.getElem?_eq_getElem (by omega)) (List.getElem?_eq_getElem hi))
theorem PlT.bnd {S : Nat → Prop} {w : World} {f : FP} {p : Pl} (h : PlT S w f p) : PlB p := by obtain ⟨n, h⟩ := h; exact h.bnd
end Go.Qo
