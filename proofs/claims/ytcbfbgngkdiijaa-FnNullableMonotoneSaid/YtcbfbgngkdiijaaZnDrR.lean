/-
  Contract: DrawRowBound. (Printed by wip/drr.py.)
-/
import Derived.Test.YtcbfbgngkdiijaaProg
import Derived.Test.YtcbfbgngkdiijaaZnPaW
namespace Go.Proofs.Ytcbfbgngkdiijaa
open Go.RowKit Go.Qo
set_option linter.unusedVariables false
set_option linter.unusedSimpArgs false

/-- The plan and the widths that are drawn, in memory of the call's own. -/
def DrPW (lo : Nat) (w : World) (f : FP) (x : Pl) (v : Value) (ws : List Int) : Prop := PlT (fun k => lo ≤ k) w f x ∧ Ow lo 3 1 intC w v ws ∧ (2 ≤ ws.length ∧ ws.length ≤ 3) ∧ ∀ y ∈ ws, 0 ≤ y ∧ y ≤ 7
theorem DrPW.only {lo b : Nat} {w w' : World} {f : FP} {x : Pl} {v : Value} {ws : List Int} {S : Nat → Prop} (h : DrPW lo w f x v ws) (hb : Only S w w') (hS : ∀ k, S k → k < lo) : DrPW lo w' f x v ws :=
  ⟨h.1.keep hb.size fun k hk hl => hb.block k hl fun e => by have := hS k e; omega, h.2.1.only hb fun k hk => .inl (hS k hk), h.2.2⟩
theorem DrPW.low {lo lo' : Nat} {w : World} {f : FP} {x : Pl} {v : Value} {ws : List Int} (h : DrPW lo w f x v ws) (hl : lo' ≤ lo) : DrPW lo' w f x v ws := ⟨h.1.mono fun k _ hk => by omega, h.2.1.low hl, h.2.2⟩
theorem set5_below {lo g : Nat} {w wx : World} (h : Below lo w wx) (hg : lo ≤ g) (v0 v1 v2 v3 v4 : Value) : Below lo w (((((wx.setCell ⟨g, 0, none⟩ v0).setCell ⟨g, 1, none⟩ v1).setCell ⟨g, 2, none⟩ v2).setCell ⟨g, 3, none⟩ v3).setCell ⟨g, 4, none⟩ v4) :=
  ((((h.setCell (p := ⟨g, 0, none⟩) hg _).setCell (p := ⟨g, 1, none⟩) hg _).setCell (p := ⟨g, 2, none⟩) hg _).setCell (p := ⟨g, 3, none⟩) hg _).setCell (p := ⟨g, 4, none⟩) hg _
theorem pwC_le : pwC ≤ 9000 := by decide

end Go.Proofs.Ytcbfbgngkdiijaa
