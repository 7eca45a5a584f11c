/-
  Contract of IndexOf: the program's.
-/
import Derived.Test.YtlhonhacehgooaaGreatProg
import Derived.Test.YtlhonhacehgooaaGreatZrPln
import Derived.Test.YtlhonhacehgooaaGreatZrJsx
import Derived.Test.YtlhonhacehgooaaGreatZrHasC
import Derived.Test.YtlhonhacehgooaaGreatZrRwt
import Derived.Test.YtlhonhacehgooaaGreatZrCol
namespace Go.Proofs.YtlhonhacehgooaaGreat
open Go.RowKit Go.Qo
set_option linter.unusedVariables false
set_option linter.unusedSimpArgs false

end Go.Proofs.YtlhonhacehgooaaGreat
