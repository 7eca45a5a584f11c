/-
  No cell of these rows narrows 'for every input' (looked for: loops, veiled, ifaces, maps, wideKeys, modest, calm, conditions, laid).
  DERIVED. THE GIVEN ROWS OF THIS SEAT. 6 by the template 'for every input the law returns true; each argument reads behind the call as it read before'; 0 by the template 'total and deterministic' (their statements: YthijkbkhgphcbaaTotals.lean).
  GIVEN WITH THE SEED: the statements are not yours to turn. If you find one false, say at which input.
  Laid BY PROGRAM, IN A SANDBOX (cutbox-rows.mjs): the forced cells as the released guide's own fill.sh prints them over the translation 155f0a31e67bf196… (all of the seat's roots in one cut). By AI agents, Wed Nov 11 2026. No macro, syntax, notation, axiom, sorry.
-/
import Derived.Test.YthijkbkhgphcbaaChecked
import GoSem.Claim
import GoSem.ClaimJoined
import GoSem.ClaimMapViews
import Derived.JoinedTies
import Derived.KernelRfl
namespace Go.Proofs.Ythijkbkhgphcbaa
/- THE CELL 'sum', in the pinned program and in every row, IS THE sha256 OF THE DUMP (.gsa) THAT YthijkbkhgphcbaaProg.lean LOADS. Nothing in Lean hashes anything: it is a label: what it is worth is what the hold of that sum in a sandbox is worth. -/
noncomputable def Try.pinned : Pinned := { name := "ythijkbkhgphcbaa", sum := "155f0a31e67bf1969fc659ee059298215dfe7c6c40272a6a8cbf41feadd4fb5f", checked := Try.checked }
namespace Rows
def none {H : Type} : Left H := { results := [], args := [] }

/-- 'laws.FnExactOrderCovers': WHATEVER THE INPUT: true; the input reads as it did. -/
def fnExactOrderCoversSpec : ChangeSpec := { name := "fnExactOrderCovers", fn := fun _ => fun
  | [d1, d2] => { results := [.lit (.bool true)], args := [d1, d2] }
  | _ => none }
def fnExactOrderCoversRow : OpenClaim := { program := "ythijkbkhgphcbaa", sum := "155f0a31e67bf1969fc659ee059298215dfe7c6c40272a6a8cbf41feadd4fb5f", func := "loop.example/queryoptimizer/laws.FnExactOrderCovers", spec := "fnExactOrderCovers", apart := false }
def FnExactOrderCoversSaid : Prop := fnExactOrderCoversRow.holds Try.pinned (OpenSpec.ofChange fnExactOrderCoversSpec)

/-- ITS FALSE NEIGHBOUR: 'it returns false'. Refute it at one input. -/
def fnExactOrderCoversWrong : ChangeSpec := { name := "fnExactOrderCovers", fn := fun _ => fun
  | [d1, d2] => { results := [.lit (.bool false)], args := [d1, d2] }
  | _ => none }
def FnExactOrderCoversWrongFalsely : Prop := fnExactOrderCoversRow.holds Try.pinned (OpenSpec.ofChange fnExactOrderCoversWrong)

/-- 'laws.FnExactIsSubtable': WHATEVER THE INPUT: true; the input reads as it did. -/
def fnExactIsSubtableSpec : ChangeSpec := { name := "fnExactIsSubtable", fn := fun _ => fun
  | [d1, d2] => { results := [.lit (.bool true)], args := [d1, d2] }
  | _ => none }
def fnExactIsSubtableRow : OpenClaim := { program := "ythijkbkhgphcbaa", sum := "155f0a31e67bf1969fc659ee059298215dfe7c6c40272a6a8cbf41feadd4fb5f", func := "loop.example/queryoptimizer/laws.FnExactIsSubtable", spec := "fnExactIsSubtable", unfollowed := true, recurses := true, apart := false }
def FnExactIsSubtableSaid : Prop := fnExactIsSubtableRow.holds Try.pinned (OpenSpec.ofChange fnExactIsSubtableSpec)

/-- ITS FALSE NEIGHBOUR: 'it returns false'. Refute it at one input. -/
def fnExactIsSubtableWrong : ChangeSpec := { name := "fnExactIsSubtable", fn := fun _ => fun
  | [d1, d2] => { results := [.lit (.bool false)], args := [d1, d2] }
  | _ => none }
def FnExactIsSubtableWrongFalsely : Prop := fnExactIsSubtableRow.holds Try.pinned (OpenSpec.ofChange fnExactIsSubtableWrong)

/-- 'laws.FnExactIsSorted': WHATEVER THE INPUT: true; the input reads as it did. -/
def fnExactIsSortedSpec : ChangeSpec := { name := "fnExactIsSorted", fn := fun _ => fun
  | [d1, d2] => { results := [.lit (.bool true)], args := [d1, d2] }
  | _ => none }
def fnExactIsSortedRow : OpenClaim := { program := "ythijkbkhgphcbaa", sum := "155f0a31e67bf1969fc659ee059298215dfe7c6c40272a6a8cbf41feadd4fb5f", func := "loop.example/queryoptimizer/laws.FnExactIsSorted", spec := "fnExactIsSorted", unfollowed := true, recurses := true, apart := false }
def FnExactIsSortedSaid : Prop := fnExactIsSortedRow.holds Try.pinned (OpenSpec.ofChange fnExactIsSortedSpec)

/-- ITS FALSE NEIGHBOUR: 'it returns false'. Refute it at one input. -/
def fnExactIsSortedWrong : ChangeSpec := { name := "fnExactIsSorted", fn := fun _ => fun
  | [d1, d2] => { results := [.lit (.bool false)], args := [d1, d2] }
  | _ => none }
def FnExactIsSortedWrongFalsely : Prop := fnExactIsSortedRow.holds Try.pinned (OpenSpec.ofChange fnExactIsSortedWrong)

/-- 'laws.FnExactBucketSizes': WHATEVER THE INPUT: true; the input reads as it did. -/
def fnExactBucketSizesSpec : ChangeSpec := { name := "fnExactBucketSizes", fn := fun _ => fun
  | [d1, d2, d3] => { results := [.lit (.bool true)], args := [d1, d2, d3] }
  | _ => none }
def fnExactBucketSizesRow : OpenClaim := { program := "ythijkbkhgphcbaa", sum := "155f0a31e67bf1969fc659ee059298215dfe7c6c40272a6a8cbf41feadd4fb5f", func := "loop.example/queryoptimizer/laws.FnExactBucketSizes", spec := "fnExactBucketSizes", unfollowed := true, recurses := true, apart := false }
def FnExactBucketSizesSaid : Prop := fnExactBucketSizesRow.holds Try.pinned (OpenSpec.ofChange fnExactBucketSizesSpec)

/-- ITS FALSE NEIGHBOUR: 'it returns false'. Refute it at one input. -/
def fnExactBucketSizesWrong : ChangeSpec := { name := "fnExactBucketSizes", fn := fun _ => fun
  | [d1, d2, d3] => { results := [.lit (.bool false)], args := [d1, d2, d3] }
  | _ => none }
def FnExactBucketSizesWrongFalsely : Prop := fnExactBucketSizesRow.holds Try.pinned (OpenSpec.ofChange fnExactBucketSizesWrong)

/-- 'laws.FnIsSorted': WHATEVER THE INPUT: true; the input reads as it did. -/
def fnIsSortedSpec : ChangeSpec := { name := "fnIsSorted", fn := fun _ => fun
  | [d1, d2] => { results := [.lit (.bool true)], args := [d1, d2] }
  | _ => none }
def fnIsSortedRow : OpenClaim := { program := "ythijkbkhgphcbaa", sum := "155f0a31e67bf1969fc659ee059298215dfe7c6c40272a6a8cbf41feadd4fb5f", func := "loop.example/queryoptimizer/laws.FnIsSorted", spec := "fnIsSorted", unfollowed := true, recurses := true, apart := false }
def FnIsSortedSaid : Prop := fnIsSortedRow.holds Try.pinned (OpenSpec.ofChange fnIsSortedSpec)

/-- ITS FALSE NEIGHBOUR: 'it returns false'. Refute it at one input. -/
def fnIsSortedWrong : ChangeSpec := { name := "fnIsSorted", fn := fun _ => fun
  | [d1, d2] => { results := [.lit (.bool false)], args := [d1, d2] }
  | _ => none }
def FnIsSortedWrongFalsely : Prop := fnIsSortedRow.holds Try.pinned (OpenSpec.ofChange fnIsSortedWrong)

/-- 'laws.FnPlanAt': WHATEVER THE INPUT: true; the input reads as it did. -/
def fnPlanAtSpec : ChangeSpec := { name := "fnPlanAt", fn := fun _ => fun
  | [d1, d2] => { results := [.lit (.bool true)], args := [d1, d2] }
  | _ => none }
def fnPlanAtRow : OpenClaim := { program := "ythijkbkhgphcbaa", sum := "155f0a31e67bf1969fc659ee059298215dfe7c6c40272a6a8cbf41feadd4fb5f", func := "loop.example/queryoptimizer/laws.FnPlanAt", spec := "fnPlanAt", recurses := true, apart := false }
def FnPlanAtSaid : Prop := fnPlanAtRow.holds Try.pinned (OpenSpec.ofChange fnPlanAtSpec)

/-- ITS FALSE NEIGHBOUR: 'it returns false'. Refute it at one input. -/
def fnPlanAtWrong : ChangeSpec := { name := "fnPlanAt", fn := fun _ => fun
  | [d1, d2] => { results := [.lit (.bool false)], args := [d1, d2] }
  | _ => none }
def FnPlanAtWrongFalsely : Prop := fnPlanAtRow.holds Try.pinned (OpenSpec.ofChange fnPlanAtWrong)

/- THE SECOND FORM. 'bulk': how many values and letters a reading holds, each counted each time it is reached (what is shared counts as often as it is met; a slice's spare places count too). A statement '..UptoSaid' is the law's where the arguments, and the package variables that the reading takes, are together of bulk at most 1048576: NARROWER than '..Said'. Prove '..Said' where nothing that the law and all that it calls make is longer than what came in: it says more and counts as full. Else prove '..UptoSaid'. A law counts once. -/
mutual
def uptoBulk {H : Type} : DataW H → Nat
  | .lit (.string bytes) => bytes.length + 1
  | .lit _ => 1
  | .nil => 1
  | .ptr d => uptoBulk d + 1
  | .slice elems spare => uptoBulkAll elems + uptoBulkAll spare + 1
  | .agg parts => uptoBulkAll parts + 1
  | .iface _ d => uptoBulk d + 1
  | .map entries => uptoBulkEntries entries + 1
  | .held _ => 1
def uptoBulkAll {H : Type} : List (DataW H) → Nat
  | [] => 0
  | d :: r => uptoBulk d + uptoBulkAll r
def uptoBulkEntries {H : Type} : List (Lit × DataW H) → Nat
  | [] => 0
  | x :: r => uptoBulkEntry x + uptoBulkEntries r
def uptoBulkEntry {H : Type} : Lit × DataW H → Nat
  | (.string bytes, d) => bytes.length + uptoBulk d + 1
  | (_, d) => uptoBulk d + 1
 end
def uptoSmall : (H : Type) → List (DataW H) → Bool := fun _ ds => decide (uptoBulkAll ds ≤ 1048576)
def OpenSpec.upto (s : _root_.Go.ChangeSpec) : _root_.Go.OpenSpec := { _root_.Go.OpenSpec.ofChange s with cond := some uptoSmall }

/-- 'laws.FnExactOrderCovers', WHERE WHAT IT READS IS OF BULK AT MOST 1048576: true; the input reads as it did. -/
def fnExactOrderCoversUptoRow : OpenClaim := { program := "ythijkbkhgphcbaa", sum := "155f0a31e67bf1969fc659ee059298215dfe7c6c40272a6a8cbf41feadd4fb5f", func := "loop.example/queryoptimizer/laws.FnExactOrderCovers", spec := "fnExactOrderCovers", apart := false, narrowed := true }
def FnExactOrderCoversUptoSaid : Prop := fnExactOrderCoversUptoRow.holds Try.pinned (OpenSpec.upto fnExactOrderCoversSpec)

/-- 'laws.FnExactIsSubtable', WHERE WHAT IT READS IS OF BULK AT MOST 1048576: true; the input reads as it did. -/
def fnExactIsSubtableUptoRow : OpenClaim := { program := "ythijkbkhgphcbaa", sum := "155f0a31e67bf1969fc659ee059298215dfe7c6c40272a6a8cbf41feadd4fb5f", func := "loop.example/queryoptimizer/laws.FnExactIsSubtable", spec := "fnExactIsSubtable", unfollowed := true, recurses := true, apart := false, narrowed := true }
def FnExactIsSubtableUptoSaid : Prop := fnExactIsSubtableUptoRow.holds Try.pinned (OpenSpec.upto fnExactIsSubtableSpec)

/-- 'laws.FnExactIsSorted', WHERE WHAT IT READS IS OF BULK AT MOST 1048576: true; the input reads as it did. -/
def fnExactIsSortedUptoRow : OpenClaim := { program := "ythijkbkhgphcbaa", sum := "155f0a31e67bf1969fc659ee059298215dfe7c6c40272a6a8cbf41feadd4fb5f", func := "loop.example/queryoptimizer/laws.FnExactIsSorted", spec := "fnExactIsSorted", unfollowed := true, recurses := true, apart := false, narrowed := true }
def FnExactIsSortedUptoSaid : Prop := fnExactIsSortedUptoRow.holds Try.pinned (OpenSpec.upto fnExactIsSortedSpec)

/-- 'laws.FnExactBucketSizes', WHERE WHAT IT READS IS OF BULK AT MOST 1048576: true; the input reads as it did. -/
def fnExactBucketSizesUptoRow : OpenClaim := { program := "ythijkbkhgphcbaa", sum := "155f0a31e67bf1969fc659ee059298215dfe7c6c40272a6a8cbf41feadd4fb5f", func := "loop.example/queryoptimizer/laws.FnExactBucketSizes", spec := "fnExactBucketSizes", unfollowed := true, recurses := true, apart := false, narrowed := true }
def FnExactBucketSizesUptoSaid : Prop := fnExactBucketSizesUptoRow.holds Try.pinned (OpenSpec.upto fnExactBucketSizesSpec)

/-- 'laws.FnIsSorted', WHERE WHAT IT READS IS OF BULK AT MOST 1048576: true; the input reads as it did. -/
def fnIsSortedUptoRow : OpenClaim := { program := "ythijkbkhgphcbaa", sum := "155f0a31e67bf1969fc659ee059298215dfe7c6c40272a6a8cbf41feadd4fb5f", func := "loop.example/queryoptimizer/laws.FnIsSorted", spec := "fnIsSorted", unfollowed := true, recurses := true, apart := false, narrowed := true }
def FnIsSortedUptoSaid : Prop := fnIsSortedUptoRow.holds Try.pinned (OpenSpec.upto fnIsSortedSpec)

/-- 'laws.FnPlanAt', WHERE WHAT IT READS IS OF BULK AT MOST 1048576: true; the input reads as it did. -/
def fnPlanAtUptoRow : OpenClaim := { program := "ythijkbkhgphcbaa", sum := "155f0a31e67bf1969fc659ee059298215dfe7c6c40272a6a8cbf41feadd4fb5f", func := "loop.example/queryoptimizer/laws.FnPlanAt", spec := "fnPlanAt", recurses := true, apart := false, narrowed := true }
def FnPlanAtUptoSaid : Prop := fnPlanAtUptoRow.holds Try.pinned (OpenSpec.upto fnPlanAtSpec)

end Rows
end Go.Proofs.Ythijkbkhgphcbaa
