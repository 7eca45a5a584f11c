/-
  Arguments opened: bytes, numbers.
-/
import Derived.Test.YtcbfbgngkdiijaaArg
import Derived.Test.YtcbfbgngkdiijaaPln
namespace Go.Qo
open Go.RowKit Go.ChangeShapes Go.WideShapes Go.Deep
set_option linter.unusedVariables false
set_option linter.unusedSimpArgs false

section
variable {H : Type} {enc : TypeId × Value → H} {P : Program} {w : World} {base : Nat} {spare : Nat → Bool} {held : Bool} {t : TypeId}
theorem el_byte (ht : P.underlying t = some (.int .u8)) (fuel : Nat) (cs : List Value) (x : DataW H × List MemPlace) (hl : cs.length = 1) (h : DataW.trod enc P w base spare held fuel t cs = some x) : ∃ el : Int, cs = byteC el ∧ (0 ≤ el ∧ el ≤ 255) := by
  obtain ⟨n, hn, _, wf⟩ := DataW.trod_int ht h
  refine ⟨n, hn, ?_⟩
  simp only [Lit.wf, Bool.and_eq_true, decide_eq_true_eq] at wf
  have h1 : (IntKind.u8.min : Int) = 0 := by decide
  have h2 : (IntKind.u8.max : Int) = 255 := by decide
  omega
theorem el_int (ht : P.underlying t = some (.int .i64)) (fuel : Nat) (cs : List Value) (x : DataW H × List MemPlace) (hl : cs.length = 1) (h : DataW.trod enc P w base spare held fuel t cs = some x) : ∃ el : Int, cs = intC el ∧ (Lit.int .i64 el).wf = true := by
  obtain ⟨n, hn, _, wf⟩ := DataW.trod_int ht h
  exact ⟨n, hn, wf⟩
end
end Go.Qo
