/-
  Contracts: a copy of a list of numbers, marks in it.
-/
import Derived.Test.YtcbfbgngkdiijaaProg
import Derived.Test.YtcbfbgngkdiijaaZnGc
import Derived.Test.YtcbfbgngkdiijaaZnPln
import Derived.Test.YtcbfbgngkdiijaaZnGb
namespace Go.Proofs.Ytcbfbgngkdiijaa
open Go.RowKit Go.Qo
set_option linter.unusedVariables false
set_option linter.unusedSimpArgs false

theorem zeroIntT : (Try.prog.info? 3).map (fun i => (i.zero, i.size, i.bytes)) = some (some (.int .i64 0), 1, 8) := by kernel_rfl

end Go.Proofs.Ytcbfbgngkdiijaa
