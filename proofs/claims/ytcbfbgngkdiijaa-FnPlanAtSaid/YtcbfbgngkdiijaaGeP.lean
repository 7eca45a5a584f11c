/-
  Words for the generators of plans. No program in sight, but for the numbers of two types.
-/
import Derived.Test.YtcbfbgngkdiijaaProg
import Derived.Test.YtcbfbgngkdiijaaGeD
import Derived.Test.YtcbfbgngkdiijaaMemP
namespace Go.Proofs.Ytcbfbgngkdiijaa
open Go.RowKit Go.Qo
set_option linter.unusedVariables false
set_option linter.unusedSimpArgs false

theorem zeroPlT : (Try.prog.info? 27).map (fun i => (i.zero, i.size, i.bytes)) = some (some (.agg #[.int .i64 0, .int .i64 0, .slice none 0 0, .slice none 0 0, .slice none 0 0]), 5, 88) := by kernel_rfl
theorem zeroIntG : (Try.prog.info? 3).map (fun i => (i.zero, i.size, i.bytes)) = some (some (.int .i64 0), 1, 8) := by kernel_rfl
theorem PlsT.mono {S T : Nat → Prop} {w : World} {A : Option Addr} {ps : List Pl} (h : PlsT S w A ps) (hST : ∀ b, b < w.heap.size → S b → T b) : PlsT T w A ps := by
  obtain ⟨fs, h1, h2, h3⟩ := h
  exact ⟨fs, h1, h2.mono hST, fun i g x hg hx => (h3 i g x hg hx).mono hST⟩
theorem PlsT.keep {S : Nat → Prop} {w w' : World} {A : Option Addr} {ps : List Pl} (h : PlsT S w A ps) (hs : w.heap.size ≤ w'.heap.size) (hk : ∀ b, S b → b < w.heap.size → w'.heap[b]? = w.heap[b]?) : PlsT S w' A ps := by
  obtain ⟨fs, h1, h2, h3⟩ := h
  exact ⟨fs, h1, h2.keep hs hk, fun i g x hg hx => (h3 i g x hg hx).keep hs hk⟩
/-- The kids of a plan while they grow: a slice of the call's own, its elements trees beside it. -/
def KdsP (lo : Nat) (w : World) (v : Value) (es : List Pl) : Prop :=
  ∃ fs : List FP, fs.length = es.length ∧ Ow lo 27 5 fpC w v fs ∧ ∀ (i : Nat) (g : FP) (x : Pl), fs[i]? = some g → es[i]? = some x → PlT (fun k => lo ≤ k ∧ v.ownBlock ≠ some k) w g x
theorem KdsP.nil {lo : Nat} {w : World} : KdsP lo w (.slice none 0 0) [] := ⟨[], rfl, Ow.nil, fun i g x h _ => by simp at h⟩
theorem KdsP.only {lo : Nat} {w w' : World} {v : Value} {es : List Pl} {S : Nat → Prop} (h : KdsP lo w v es) (k : Only S w w') (hS : ∀ i, S i → i < lo) : KdsP lo w' v es := by
  obtain ⟨fs, h1, h2, h3⟩ := h
  exact ⟨fs, h1, h2.only k fun i hi => .inl (hS i hi), fun i g x hg hx => (h3 i g x hg hx).keep k.size fun c hc hl => k.block c hl fun hs => by have := hS c hs; omega⟩
theorem KdsP.shape {lo : Nat} {w : World} {v : Value} {es : List Pl} (h : KdsP lo w v es) : ∃ A c, v = .slice A es.length c ∧ es.length ≤ c ∧ c ≤ maxLen := by
  obtain ⟨fs, h1, h2, h3⟩ := h
  obtain ⟨A, c, hv, h4, h5, _⟩ := h2.shape fpC_length
  exact ⟨A, c, by rw [hv, h1], by omega, h5⟩
theorem KdsP.exs {lo : Nat} {w : World} {A : Option Addr} {n c : Nat} {es : List Pl} (h : KdsP lo w (.slice A n c) es) : PlsT (fun k => lo ≤ k) w A es := by
  obtain ⟨fs, h1, h2, h3⟩ := h
  exact ⟨fs, h1, SlS.of_ow fpC_length h2, fun i g x hg hx => (h3 i g x hg hx).mono fun b _ hb => hb.1⟩
/-- One kid more: appended in a world in which it is held beside. -/
theorem KdsP.snoc {lo : Nat} {w w' : World} {v v' : Value} {es : List Pl} {fs : List FP} {f : FP} {x : Pl} (hl : fs.length = es.length)
    (h3 : ∀ (i : Nat) (g : FP) (x : Pl), fs[i]? = some g → es[i]? = some x → PlT (fun k => lo ≤ k ∧ v.ownBlock ≠ some k) w g x) (hx : PlT (fun k => lo ≤ k ∧ v.ownBlock ≠ some k) w f x)
    (how : Ow lo 27 5 fpC w' v' (fs ++ [f])) (hgr : w.grownBy w' v.ownBlock) (hob : v'.ownBlock = v.ownBlock ∨ v'.ownBlock = some w.heap.size) : KdsP lo w' v' (es ++ [x]) := by
  have key : ∀ (g : FP) (y : Pl), PlT (fun k => lo ≤ k ∧ v.ownBlock ≠ some k) w g y → PlT (fun k => lo ≤ k ∧ v'.ownBlock ≠ some k) w' g y := fun g y h => by
    have h' : PlT (fun k => lo ≤ k ∧ v.ownBlock ≠ some k ∧ k < w.heap.size) w g y := h.mono fun b hb hk => ⟨hk.1, hk.2, hb⟩
    refine (h'.keep hgr.size fun c hc hl => hgr.block c hl fun e => hc.2.1 e.symm).mono fun c _ hc => ⟨hc.1, ?_⟩
    rcases hob with e | e
    · rw [e]; exact hc.2.1
    · rw [e]; intro e'; have := Option.some.inj e'; omega
  refine ⟨fs ++ [f], by simp [hl], how, fun i g y hg hy => ?_⟩
  by_cases hi : i < fs.length
  · rw [List.getElem?_append_left hi] at hg
    rw [List.getElem?_append_left (by omega)] at hy
    exact key g y (h3 i g y hg hy)
  · rw [List.getElem?_append_right (by omega)] at hg
    rw [List.getElem?_append_right (by omega)] at hy
    have h0 : i - fs.length = 0 := by
      have := (List.getElem?_eq_some_iff.1 hg).1
      simp at this
      omega
    rw [h0] at hg
    rw [← hl, h0] at hy
    simp at hg hy
    subst hg hy
    exact key _ _ hx
theorem pls_lit1 {S : Nat → Prop} {w : World} {f : FP} {x : Pl} (hx : PlT S w f x) (cs : Array Value) (hcs : cs.toList = fpC f) (hS : S w.heap.size) (t : TypeId) : PlsT S (w.alloc (.cells cs t)) (some ⟨w.heap.size, 0, none⟩) [x] := by
  have hb := balloc (Below.refl w.heap.size w) (.cells cs t)
  refine ⟨[f], rfl, Row.slS (t := t) fpC_length ((Row.new w t cs).of (by rw [hcs]; simp)) hS, fun i g y hg hy => ?_⟩
  have hk : PlT S (w.alloc (.cells cs t)) f x := hx.keep hb.size fun b _ hl => hb.block b hl
  cases i with
  | zero => simp at hg hy; subst hg hy; exact hk
  | succ i => simp at hg
theorem pls_lit2 {S : Nat → Prop} {w : World} {f f' : FP} {x x' : Pl} (hx : PlT S w f x) (hx' : PlT S w f' x') (cs : Array Value) (hcs : cs.toList = fpC f ++ fpC f') (hS : S w.heap.size) (t : TypeId) : PlsT S (w.alloc (.cells cs t)) (some ⟨w.heap.size, 0, none⟩) [x, x'] := by
  have hb := balloc (Below.refl w.heap.size w) (.cells cs t)
  refine ⟨[f, f'], rfl, Row.slS (t := t) fpC_length ((Row.new w t cs).of (by rw [hcs]; simp)) hS, fun i g y hg hy => ?_⟩
  have hk : PlT S (w.alloc (.cells cs t)) f x := hx.keep hb.size fun b _ hl => hb.block b hl
  have hk' : PlT S (w.alloc (.cells cs t)) f' x' := hx'.keep hb.size fun b _ hl => hb.block b hl
  cases i with
  | zero => simp at hg hy; subst hg hy; exact hk
  | succ i => cases i with
    | zero => simp at hg hy; subst hg hy; exact hk'
    | succ i => simp at hg
/-- A plan is handed back from a box of the call's own: the tree beside the box. -/
theorem gotPl_of {D b p : Nat} {w wx : World} {f : FP} {x : Pl} (hx : PlT (fun k => w.heap.size < k) wx f x) (hb : But b w wx) (hR : Rd wx b p) (hlt : b < w.heap.size) (v0 v1 v2 v3 v4 : Value) {e : Ending} (he : e = .returned (fpV f)) (hD : plN x ≤ D) :
    GotPl D b p w e (((((wx.setCell ⟨w.heap.size, 0, none⟩ v0).setCell ⟨w.heap.size, 1, none⟩ v1).setCell ⟨w.heap.size, 2, none⟩ v2).setCell ⟨w.heap.size, 3, none⟩ v3).setCell ⟨w.heap.size, 4, none⟩ v4) := by
  have hs := set5 wx w.heap.size v0 v1 v2 v3 v4
  exact ⟨f, x, he, (hx.keep hs.size fun k hk hl => hs.block k hl (by omega)).mono fun k _ hk => Nat.le_of_lt hk, hb.step hs fun i hi => .inr (by omega), hR.apart hs fun i hi => by omega, hD⟩
end Go.Proofs.Ytcbfbgngkdiijaa
