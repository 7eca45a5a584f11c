/-
  Contract: two plans that hold one tree are equal (equalPlans).
-/
import Derived.Test.YtmhlpjfijpomkaaDoorProg
import Derived.Test.YtmhlpjfijpomkaaDoorEqE
import Derived.Test.YtmhlpjfijpomkaaDoorIntE
namespace Go.Proofs.YtmhlpjfijpomkaaDoor
open Go.RowKit Go.Qo
set_option linter.unusedVariables false
set_option linter.unusedSimpArgs false

/-- A plan as a value. -/
def fpV (f : FP) : Value := .agg #[.int .i64 f.kind, .int .i64 f.table, .slice f.es.A f.es.n f.es.c, .slice f.cs.A f.cs.n f.cs.c, .slice f.ks.A f.ks.n f.ks.c]

end Go.Proofs.YtmhlpjfijpomkaaDoor
