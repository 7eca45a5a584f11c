/-
  Contract of eachMerged: the program's, whatever visits the rows.
-/
import Derived.Test.YtlhonhacehgooaaGreatProg
import Derived.Test.YtlhonhacehgooaaGreatZgCol
import Derived.Test.YtlhonhacehgooaaGreatZgRwt
import Derived.Test.YtlhonhacehgooaaGreatZgPln
namespace Go.Proofs.YtlhonhacehgooaaGreat
open Go.RowKit Go.Qo
set_option linter.unusedVariables false
set_option linter.unusedSimpArgs false

end Go.Proofs.YtlhonhacehgooaaGreat
