/-
  Contracts of the drawing of conditions: condition, randomCondition. (Printed by wip/gec.py.)
-/
import Derived.Test.YtmhlpjfijpomkaaDoorProg
import Derived.Test.YtmhlpjfijpomkaaDoorGeE
import Derived.Deep.DeepCutAuto
namespace Go.Proofs.YtmhlpjfijpomkaaDoor
open Go.RowKit Go.Qo
set_option linter.unusedVariables false
set_option linter.unusedSimpArgs false

theorem exs_lit1 {S : Nat → Prop} {w : World} {f : FE} {x : Ex} (hx : ExT S w f x) (cs : Array Value) (hcs : cs.toList = feC f) (hS : S w.heap.size) (t : TypeId) : ExsT S (w.alloc (.cells cs t)) (some ⟨w.heap.size, 0, none⟩) [x] := by
  have hb := balloc (Below.refl w.heap.size w) (.cells cs t)
  refine ⟨[f], rfl, Row.slS (t := t) feC_length ((Row.new w t cs).of (by rw [hcs]; simp)) hS, fun i g y hg hy => ?_⟩
  have hk : ExT S (w.alloc (.cells cs t)) f x := hx.keep hb.size fun b _ hl => hb.block b hl
  cases i with
  | zero => simp at hg hy; subst hg hy; exact hk
  | succ i => simp at hg
theorem exs_lit2 {S : Nat → Prop} {w : World} {f f' : FE} {x x' : Ex} (hx : ExT S w f x) (hx' : ExT S w f' x') (cs : Array Value) (hcs : cs.toList = feC f ++ feC f') (hS : S w.heap.size) (t : TypeId) : ExsT S (w.alloc (.cells cs t)) (some ⟨w.heap.size, 0, none⟩) [x, x'] := by
  have hb := balloc (Below.refl w.heap.size w) (.cells cs t)
  refine ⟨[f, f'], rfl, Row.slS (t := t) feC_length ((Row.new w t cs).of (by rw [hcs]; simp)) hS, fun i g y hg hy => ?_⟩
  have hk : ExT S (w.alloc (.cells cs t)) f x := hx.keep hb.size fun b _ hl => hb.block b hl
  have hk' : ExT S (w.alloc (.cells cs t)) f' x' := hx'.keep hb.size fun b _ hl => hb.block b hl
  cases i with
  | zero => simp at hg hy; subst hg hy; exact hk
  | succ i => cases i with
    | zero => simp at hg hy; subst hg hy; exact hk'
    | succ i => simp at hg
/-- What is handed back from a box of the call's own: the tree beside the box. -/
theorem gotEx_of {b p : Nat} {w wx : World} {f : FE} {x : Ex} (hx : ExT (fun k => w.heap.size < k) wx f x) (hb : But b w wx) (hR : Rd wx b p) (hlt : b < w.heap.size) (v0 v1 v2 v3 v4 : Value) {e : Ending} (he : e = .returned (feV f)) :
    GotEx b p w e (((((wx.setCell ⟨w.heap.size, 0, none⟩ v0).setCell ⟨w.heap.size, 1, none⟩ v1).setCell ⟨w.heap.size, 2, none⟩ v2).setCell ⟨w.heap.size, 3, none⟩ v3).setCell ⟨w.heap.size, 4, none⟩ v4) := by
  have hs := set5 wx w.heap.size v0 v1 v2 v3 v4
  exact ⟨f, x, he, (hx.keep hs.size fun k hk hl => hs.block k hl (by omega)).mono fun k _ hk => Nat.le_of_lt hk, hb.step hs fun i hi => .inr (by omega), hR.apart hs fun i hi => by omega⟩

def coC (d : Nat) : Nat := 30 * (d + 1)
end Go.Proofs.YtmhlpjfijpomkaaDoor
