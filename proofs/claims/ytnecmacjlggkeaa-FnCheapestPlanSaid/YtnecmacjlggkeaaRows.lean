/-
  No cell of these rows narrows 'for every input' (looked for: loops, veiled, ifaces, maps, wideKeys, modest, calm, conditions, laid).
  DERIVED. THE GIVEN ROWS OF THIS SEAT. 6 by the template 'for every input the law returns true; each argument reads behind the call as it read before'; 0 by the template 'total and deterministic' (their statements: YtnecmacjlggkeaaTotals.lean).
  GIVEN WITH THE SEED: the statements are not yours to turn. If you find one false, say at which input.
  Laid BY PROGRAM, IN A SANDBOX (cutbox-rows.mjs): the forced cells as the released guide's own fill.sh prints them over the translation 366242d758230b20… (all of the seat's roots in one cut). By AI agents, Wed Nov 11 2026. No macro, syntax, notation, axiom, sorry.
-/
import Derived.Test.YtnecmacjlggkeaaChecked
import GoSem.Claim
import GoSem.ClaimJoined
import GoSem.ClaimMapViews
import Derived.JoinedTies
import Derived.KernelRfl
namespace Go.Proofs.Ytnecmacjlggkeaa
/- THE CELL 'sum', in the pinned program and in every row, IS THE sha256 OF THE DUMP (.gsa) THAT YtnecmacjlggkeaaProg.lean LOADS. Nothing in Lean hashes anything: it is a label: what it is worth is what the hold of that sum in a sandbox is worth. -/
noncomputable def Try.pinned : Pinned := { name := "ytnecmacjlggkeaa", sum := "366242d758230b20ce7bbe7efc5a8e1acab5ca3739f95c71a493cca60ecce998", checked := Try.checked }
namespace Rows
def none {H : Type} : Left H := { results := [], args := [] }

/-- 'laws.FnEstimateScan': WHATEVER THE INPUT: true; the input reads as it did. -/
def fnEstimateScanSpec : ChangeSpec := { name := "fnEstimateScan", fn := fun _ => fun
  | [d] => { results := [.lit (.bool true)], args := [d] }
  | _ => none }
def fnEstimateScanRow : OpenClaim := { program := "ytnecmacjlggkeaa", sum := "366242d758230b20ce7bbe7efc5a8e1acab5ca3739f95c71a493cca60ecce998", func := "loop.example/queryoptimizer/laws.FnEstimateScan", spec := "fnEstimateScan", recurses := true, apart := false }
def FnEstimateScanSaid : Prop := fnEstimateScanRow.holds Try.pinned (OpenSpec.ofChange fnEstimateScanSpec)

/-- ITS FALSE NEIGHBOUR: 'it returns false'. Refute it at one input. -/
def fnEstimateScanWrong : ChangeSpec := { name := "fnEstimateScan", fn := fun _ => fun
  | [d] => { results := [.lit (.bool false)], args := [d] }
  | _ => none }
def FnEstimateScanWrongFalsely : Prop := fnEstimateScanRow.holds Try.pinned (OpenSpec.ofChange fnEstimateScanWrong)

/-- 'laws.FnEstimateFilter': WHATEVER THE INPUT: true; the input reads as it did. -/
def fnEstimateFilterSpec : ChangeSpec := { name := "fnEstimateFilter", fn := fun _ => fun
  | [d] => { results := [.lit (.bool true)], args := [d] }
  | _ => none }
def fnEstimateFilterRow : OpenClaim := { program := "ytnecmacjlggkeaa", sum := "366242d758230b20ce7bbe7efc5a8e1acab5ca3739f95c71a493cca60ecce998", func := "loop.example/queryoptimizer/laws.FnEstimateFilter", spec := "fnEstimateFilter", recurses := true, apart := false }
def FnEstimateFilterSaid : Prop := fnEstimateFilterRow.holds Try.pinned (OpenSpec.ofChange fnEstimateFilterSpec)

/-- ITS FALSE NEIGHBOUR: 'it returns false'. Refute it at one input. -/
def fnEstimateFilterWrong : ChangeSpec := { name := "fnEstimateFilter", fn := fun _ => fun
  | [d] => { results := [.lit (.bool false)], args := [d] }
  | _ => none }
def FnEstimateFilterWrongFalsely : Prop := fnEstimateFilterRow.holds Try.pinned (OpenSpec.ofChange fnEstimateFilterWrong)

/-- 'laws.FnEstimateCost': WHATEVER THE INPUT: true; the input reads as it did. -/
def fnEstimateCostSpec : ChangeSpec := { name := "fnEstimateCost", fn := fun _ => fun
  | [d] => { results := [.lit (.bool true)], args := [d] }
  | _ => none }
def fnEstimateCostRow : OpenClaim := { program := "ytnecmacjlggkeaa", sum := "366242d758230b20ce7bbe7efc5a8e1acab5ca3739f95c71a493cca60ecce998", func := "loop.example/queryoptimizer/laws.FnEstimateCost", spec := "fnEstimateCost", recurses := true, apart := false }
def FnEstimateCostSaid : Prop := fnEstimateCostRow.holds Try.pinned (OpenSpec.ofChange fnEstimateCostSpec)

/-- ITS FALSE NEIGHBOUR: 'it returns false'. Refute it at one input. -/
def fnEstimateCostWrong : ChangeSpec := { name := "fnEstimateCost", fn := fun _ => fun
  | [d] => { results := [.lit (.bool false)], args := [d] }
  | _ => none }
def FnEstimateCostWrongFalsely : Prop := fnEstimateCostRow.holds Try.pinned (OpenSpec.ofChange fnEstimateCostWrong)

/-- 'laws.FnEstimateRows': WHATEVER THE INPUT: true; the input reads as it did. -/
def fnEstimateRowsSpec : ChangeSpec := { name := "fnEstimateRows", fn := fun _ => fun
  | [d] => { results := [.lit (.bool true)], args := [d] }
  | _ => none }
def fnEstimateRowsRow : OpenClaim := { program := "ytnecmacjlggkeaa", sum := "366242d758230b20ce7bbe7efc5a8e1acab5ca3739f95c71a493cca60ecce998", func := "loop.example/queryoptimizer/laws.FnEstimateRows", spec := "fnEstimateRows", recurses := true, apart := false }
def FnEstimateRowsSaid : Prop := fnEstimateRowsRow.holds Try.pinned (OpenSpec.ofChange fnEstimateRowsSpec)

/-- ITS FALSE NEIGHBOUR: 'it returns false'. Refute it at one input. -/
def fnEstimateRowsWrong : ChangeSpec := { name := "fnEstimateRows", fn := fun _ => fun
  | [d] => { results := [.lit (.bool false)], args := [d] }
  | _ => none }
def FnEstimateRowsWrongFalsely : Prop := fnEstimateRowsRow.holds Try.pinned (OpenSpec.ofChange fnEstimateRowsWrong)

/-- 'laws.FnCheapestPlan': WHATEVER THE INPUT: true; the input reads as it did. -/
def fnCheapestPlanSpec : ChangeSpec := { name := "fnCheapestPlan", fn := fun _ => fun
  | [d] => { results := [.lit (.bool true)], args := [d] }
  | _ => none }
def fnCheapestPlanRow : OpenClaim := { program := "ytnecmacjlggkeaa", sum := "366242d758230b20ce7bbe7efc5a8e1acab5ca3739f95c71a493cca60ecce998", func := "loop.example/queryoptimizer/laws.FnCheapestPlan", spec := "fnCheapestPlan", recurses := true, apart := false }
def FnCheapestPlanSaid : Prop := fnCheapestPlanRow.holds Try.pinned (OpenSpec.ofChange fnCheapestPlanSpec)

/-- ITS FALSE NEIGHBOUR: 'it returns false'. Refute it at one input. -/
def fnCheapestPlanWrong : ChangeSpec := { name := "fnCheapestPlan", fn := fun _ => fun
  | [d] => { results := [.lit (.bool false)], args := [d] }
  | _ => none }
def FnCheapestPlanWrongFalsely : Prop := fnCheapestPlanRow.holds Try.pinned (OpenSpec.ofChange fnCheapestPlanWrong)

/-- 'laws.FnNullableMonotone': WHATEVER THE INPUT: true; the input reads as it did. -/
def fnNullableMonotoneSpec : ChangeSpec := { name := "fnNullableMonotone", fn := fun _ => fun
  | [d] => { results := [.lit (.bool true)], args := [d] }
  | _ => none }
def fnNullableMonotoneRow : OpenClaim := { program := "ytnecmacjlggkeaa", sum := "366242d758230b20ce7bbe7efc5a8e1acab5ca3739f95c71a493cca60ecce998", func := "loop.example/queryoptimizer/laws.FnNullableMonotone", spec := "fnNullableMonotone", recurses := true, apart := false }
def FnNullableMonotoneSaid : Prop := fnNullableMonotoneRow.holds Try.pinned (OpenSpec.ofChange fnNullableMonotoneSpec)

/-- ITS FALSE NEIGHBOUR: 'it returns false'. Refute it at one input. -/
def fnNullableMonotoneWrong : ChangeSpec := { name := "fnNullableMonotone", fn := fun _ => fun
  | [d] => { results := [.lit (.bool false)], args := [d] }
  | _ => none }
def FnNullableMonotoneWrongFalsely : Prop := fnNullableMonotoneRow.holds Try.pinned (OpenSpec.ofChange fnNullableMonotoneWrong)

/- THE SECOND FORM. 'bulk': how many values and letters a reading holds, each counted each time it is reached (what is shared counts as often as it is met; a slice's spare places count too). A statement '..UptoSaid' is the law's where the arguments, and the package variables that the reading takes, are together of bulk at most 1048576: NARROWER than '..Said'. Prove '..Said' where nothing that the law and all that it calls make is longer than what came in: it says more and counts as full. Else prove '..UptoSaid'. A law counts once. -/
mutual
def uptoBulk {H : Type} : DataW H → Nat
  | .lit (.string bytes) => bytes.length + 1
  | .lit _ => 1
  | .nil => 1
  | .ptr d => uptoBulk d + 1
  | .slice elems spare => uptoBulkAll elems + uptoBulkAll spare + 1
  | .agg parts => uptoBulkAll parts + 1
  | .iface _ d => uptoBulk d + 1
  | .map entries => uptoBulkEntries entries + 1
  | .held _ => 1
def uptoBulkAll {H : Type} : List (DataW H) → Nat
  | [] => 0
  | d :: r => uptoBulk d + uptoBulkAll r
def uptoBulkEntries {H : Type} : List (Lit × DataW H) → Nat
  | [] => 0
  | x :: r => uptoBulkEntry x + uptoBulkEntries r
def uptoBulkEntry {H : Type} : Lit × DataW H → Nat
  | (.string bytes, d) => bytes.length + uptoBulk d + 1
  | (_, d) => uptoBulk d + 1
 end
def uptoSmall : (H : Type) → List (DataW H) → Bool := fun _ ds => decide (uptoBulkAll ds ≤ 1048576)
def OpenSpec.upto (s : _root_.Go.ChangeSpec) : _root_.Go.OpenSpec := { _root_.Go.OpenSpec.ofChange s with cond := some uptoSmall }

/-- 'laws.FnEstimateScan', WHERE WHAT IT READS IS OF BULK AT MOST 1048576: true; the input reads as it did. -/
def fnEstimateScanUptoRow : OpenClaim := { program := "ytnecmacjlggkeaa", sum := "366242d758230b20ce7bbe7efc5a8e1acab5ca3739f95c71a493cca60ecce998", func := "loop.example/queryoptimizer/laws.FnEstimateScan", spec := "fnEstimateScan", recurses := true, apart := false, narrowed := true }
def FnEstimateScanUptoSaid : Prop := fnEstimateScanUptoRow.holds Try.pinned (OpenSpec.upto fnEstimateScanSpec)

/-- 'laws.FnEstimateFilter', WHERE WHAT IT READS IS OF BULK AT MOST 1048576: true; the input reads as it did. -/
def fnEstimateFilterUptoRow : OpenClaim := { program := "ytnecmacjlggkeaa", sum := "366242d758230b20ce7bbe7efc5a8e1acab5ca3739f95c71a493cca60ecce998", func := "loop.example/queryoptimizer/laws.FnEstimateFilter", spec := "fnEstimateFilter", recurses := true, apart := false, narrowed := true }
def FnEstimateFilterUptoSaid : Prop := fnEstimateFilterUptoRow.holds Try.pinned (OpenSpec.upto fnEstimateFilterSpec)

/-- 'laws.FnEstimateCost', WHERE WHAT IT READS IS OF BULK AT MOST 1048576: true; the input reads as it did. -/
def fnEstimateCostUptoRow : OpenClaim := { program := "ytnecmacjlggkeaa", sum := "366242d758230b20ce7bbe7efc5a8e1acab5ca3739f95c71a493cca60ecce998", func := "loop.example/queryoptimizer/laws.FnEstimateCost", spec := "fnEstimateCost", recurses := true, apart := false, narrowed := true }
def FnEstimateCostUptoSaid : Prop := fnEstimateCostUptoRow.holds Try.pinned (OpenSpec.upto fnEstimateCostSpec)

/-- 'laws.FnEstimateRows', WHERE WHAT IT READS IS OF BULK AT MOST 1048576: true; the input reads as it did. -/
def fnEstimateRowsUptoRow : OpenClaim := { program := "ytnecmacjlggkeaa", sum := "366242d758230b20ce7bbe7efc5a8e1acab5ca3739f95c71a493cca60ecce998", func := "loop.example/queryoptimizer/laws.FnEstimateRows", spec := "fnEstimateRows", recurses := true, apart := false, narrowed := true }
def FnEstimateRowsUptoSaid : Prop := fnEstimateRowsUptoRow.holds Try.pinned (OpenSpec.upto fnEstimateRowsSpec)

/-- 'laws.FnCheapestPlan', WHERE WHAT IT READS IS OF BULK AT MOST 1048576: true; the input reads as it did. -/
def fnCheapestPlanUptoRow : OpenClaim := { program := "ytnecmacjlggkeaa", sum := "366242d758230b20ce7bbe7efc5a8e1acab5ca3739f95c71a493cca60ecce998", func := "loop.example/queryoptimizer/laws.FnCheapestPlan", spec := "fnCheapestPlan", recurses := true, apart := false, narrowed := true }
def FnCheapestPlanUptoSaid : Prop := fnCheapestPlanUptoRow.holds Try.pinned (OpenSpec.upto fnCheapestPlanSpec)

/-- 'laws.FnNullableMonotone', WHERE WHAT IT READS IS OF BULK AT MOST 1048576: true; the input reads as it did. -/
def fnNullableMonotoneUptoRow : OpenClaim := { program := "ytnecmacjlggkeaa", sum := "366242d758230b20ce7bbe7efc5a8e1acab5ca3739f95c71a493cca60ecce998", func := "loop.example/queryoptimizer/laws.FnNullableMonotone", spec := "fnNullableMonotone", recurses := true, apart := false, narrowed := true }
def FnNullableMonotoneUptoSaid : Prop := fnNullableMonotoneUptoRow.holds Try.pinned (OpenSpec.upto fnNullableMonotoneSpec)

end Rows
end Go.Proofs.Ytnecmacjlggkeaa
