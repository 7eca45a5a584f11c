/-
  Contract: the reference's DecodeExpr.
-/
import Derived.Test.YtmhlpjfijpomkaaGreatDoorProg
import Derived.Test.YtmhlpjfijpomkaaGreatDoorZqDcT
import Derived.Test.YtmhlpjfijpomkaaGreatDoorZqEnF
import Derived.Test.YtmhlpjfijpomkaaGreatDoorZqGa
namespace Go.Proofs.YtmhlpjfijpomkaaGreatDoor
open Go.RowKit Go.Qo
set_option linter.unusedVariables false
set_option linter.unusedSimpArgs false

end Go.Proofs.YtmhlpjfijpomkaaGreatDoor
