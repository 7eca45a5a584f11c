/-
  Contracts of the aggregates: the reference's.
-/
import Derived.Test.YtlhonhacehgooaaGreatProg
import Derived.Test.YtlhonhacehgooaaGreatZrAgD
import Derived.Test.YtlhonhacehgooaaGreatZrPln
import Derived.Test.YtlhonhacehgooaaGreatZrVal
namespace Go.Proofs.YtlhonhacehgooaaGreat
open Go.RowKit Go.Qo
set_option linter.unusedVariables false
set_option linter.unusedSimpArgs false

def vAgg (v : Val) : Value := .agg #[.bool v.1, .int .i64 v.2]
theorem below_put {B b : Nat} {a z : World} (h : Below B a z) (hb : B ≤ b) (u u' : Value) : Below B a ((z.setCell ⟨b, 0, none⟩ u).setCell ⟨b, 1, none⟩ u') := (h.setCell hb _).setCell hb _
end Go.Proofs.YtlhonhacehgooaaGreat
