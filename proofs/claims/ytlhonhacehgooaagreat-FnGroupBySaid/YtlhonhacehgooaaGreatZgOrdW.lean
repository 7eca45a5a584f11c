/-
  Contracts of the functions of sort orders: which keys are valid; the comparison by keys.
-/
import Derived.Test.YtlhonhacehgooaaGreatProg
import Derived.Test.YtlhonhacehgooaaGreatZgRwt
import Derived.Test.YtlhonhacehgooaaGreatZgKey
import Derived.Test.YtlhonhacehgooaaGreatZgPln
namespace Go.Proofs.YtlhonhacehgooaaGreat
open Go.RowKit Go.Qo
set_option linter.unusedVariables false
set_option linter.unusedSimpArgs false

end Go.Proofs.YtlhonhacehgooaaGreat
