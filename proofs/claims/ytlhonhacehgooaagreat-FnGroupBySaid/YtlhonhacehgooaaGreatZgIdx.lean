/-
  Contract of IndexOf: the program's.
-/
import Derived.Test.YtlhonhacehgooaaGreatProg
import Derived.Test.YtlhonhacehgooaaGreatZgPln
import Derived.Test.YtlhonhacehgooaaGreatZgJsx
import Derived.Test.YtlhonhacehgooaaGreatZgHasC
import Derived.Test.YtlhonhacehgooaaGreatZgRwt
import Derived.Test.YtlhonhacehgooaaGreatZgCol
namespace Go.Proofs.YtlhonhacehgooaaGreat
open Go.RowKit Go.Qo
set_option linter.unusedVariables false
set_option linter.unusedSimpArgs false

end Go.Proofs.YtlhonhacehgooaaGreat
