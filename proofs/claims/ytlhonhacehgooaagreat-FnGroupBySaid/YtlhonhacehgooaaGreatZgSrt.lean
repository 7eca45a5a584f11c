/-
  Contracts of IsSorted: the library's IsSortedFunc, the reference's and the program's.
-/
import Derived.Test.YtlhonhacehgooaaGreatProg
import Derived.Test.YtlhonhacehgooaaGreatZgCmpF
import Derived.Test.YtlhonhacehgooaaGreatZgPln
namespace Go.Proofs.YtlhonhacehgooaaGreat
open Go.RowKit Go.Qo
set_option linter.unusedVariables false
set_option linter.unusedSimpArgs false

end Go.Proofs.YtlhonhacehgooaaGreat
