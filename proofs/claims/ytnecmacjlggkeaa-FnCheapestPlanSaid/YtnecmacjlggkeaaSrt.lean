/-
  Contracts of IsSorted: the library's IsSortedFunc, the reference's and the program's.
-/
import Derived.Test.YtnecmacjlggkeaaProg
import Derived.Test.YtnecmacjlggkeaaCmpF
import Derived.Test.YtnecmacjlggkeaaPln
namespace Go.Proofs.Ytnecmacjlggkeaa
open Go.RowKit Go.Qo
set_option linter.unusedVariables false
set_option linter.unusedSimpArgs false

end Go.Proofs.Ytnecmacjlggkeaa
