/-
  Contract of eachMerged: the program's, whatever visits the rows.
-/
import Derived.Test.YtlhonhacehgooaaGreatProg
import Derived.Test.YtlhonhacehgooaaGreatZrCol
import Derived.Test.YtlhonhacehgooaaGreatZrRwt
import Derived.Test.YtlhonhacehgooaaGreatZrPln
namespace Go.Proofs.YtlhonhacehgooaaGreat
open Go.RowKit Go.Qo
set_option linter.unusedVariables false
set_option linter.unusedSimpArgs false

end Go.Proofs.YtlhonhacehgooaaGreat
