/-
  Contract: the reference's EncodePlan.
-/
import Derived.Test.YtmhlpjfijpomkaaGreatDoorProg
import Derived.Test.YtmhlpjfijpomkaaGreatDoorZqEnG
import Derived.Test.YtmhlpjfijpomkaaGreatDoorZqPlS
namespace Go.Proofs.YtmhlpjfijpomkaaGreatDoor
open Go.RowKit Go.Qo
set_option linter.unusedVariables false
set_option linter.unusedSimpArgs false

theorem widthP_tx {ws : List Int} {p : Pl} (h : widthP ws p ≠ 0) : TxOk 8 p := by
  unfold widthP at h
  split at h
  · rename_i hw
    exact plW_tx hw.1.2 hw.2 8 p h
  · exact absurd rfl h

end Go.Proofs.YtmhlpjfijpomkaaGreatDoor
