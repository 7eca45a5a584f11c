/-
  Contracts: a copy of a list of numbers, marks in it.
-/
import Derived.Test.YtlhonhacehgooaaGreatProg
import Derived.Test.YtlhonhacehgooaaGreatZgKey
import Derived.Test.YtlhonhacehgooaaGreatZgPln
import Derived.Test.YtlhonhacehgooaaGreatZgInts
namespace Go.Proofs.YtlhonhacehgooaaGreat
open Go.RowKit Go.Qo
set_option linter.unusedVariables false
set_option linter.unusedSimpArgs false

theorem zeroIntT : (Tryz.prog.info? 3).map (fun i => (i.zero, i.size, i.bytes)) = some (some (.int .i64 0), 1, 8) := by kernel_rfl

end Go.Proofs.YtlhonhacehgooaaGreat
