/-
  Contracts of IsSorted: the library's IsSortedFunc, the reference's and the program's.
-/
import Derived.Test.YtfhafbincknaeaaProg
import Derived.Test.YtfhafbincknaeaaCmpF
import Derived.Test.YtfhafbincknaeaaPln
namespace Go.Proofs.Ytfhafbincknaeaa
open Go.RowKit Go.Qo
set_option linter.unusedVariables false
set_option linter.unusedSimpArgs false

end Go.Proofs.Ytfhafbincknaeaa
