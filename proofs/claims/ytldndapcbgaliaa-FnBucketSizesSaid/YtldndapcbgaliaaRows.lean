/-
  No cell of these rows narrows 'for every input' (looked for: loops, veiled, ifaces, maps, wideKeys, modest, calm, conditions, laid).
  DERIVED. THE GIVEN ROWS OF THIS SEAT. 9 by the template 'for every input the law returns true; each argument reads behind the call as it read before'; 0 by the template 'total and deterministic' (their statements: YtldndapcbgaliaaTotals.lean).
  GIVEN WITH THE SEED: the statements are not yours to turn. If you find one false, say at which input.
  Laid BY PROGRAM, IN A SANDBOX (cutbox-rows.mjs): the forced cells as the released guide's own fill.sh prints them over the translation 61e293f5ddb04932… (all of the seat's roots in one cut). By AI agents, Wed Nov 11 2026. No macro, syntax, notation, axiom, sorry.
-/
import Derived.Test.YtldndapcbgaliaaChecked
import GoSem.Claim
import GoSem.ClaimJoined
import GoSem.ClaimMapViews
import Derived.JoinedTies
import Derived.KernelRfl
namespace Go.Proofs.Ytldndapcbgaliaa
/- THE CELL 'sum', in the pinned program and in every row, IS THE sha256 OF THE DUMP (.gsa) THAT YtldndapcbgaliaaProg.lean LOADS. Nothing in Lean hashes anything: it is a label: what it is worth is what the hold of that sum in a sandbox is worth. -/
noncomputable def Try.pinned : Pinned := { name := "ytldndapcbgaliaa", sum := "61e293f5ddb049324acc6291dd42f0658218aace2e06ca898d5f8a469abacd94", checked := Try.checked }
namespace Rows
def none {H : Type} : Left H := { results := [], args := [] }

/-- 'laws.FnSortRows': WHATEVER THE INPUT: true; the input reads as it did. -/
def fnSortRowsSpec : ChangeSpec := { name := "fnSortRows", fn := fun _ => fun
  | [d] => { results := [.lit (.bool true)], args := [d] }
  | _ => none }
def fnSortRowsRow : OpenClaim := { program := "ytldndapcbgaliaa", sum := "61e293f5ddb049324acc6291dd42f0658218aace2e06ca898d5f8a469abacd94", func := "loop.example/queryoptimizer/laws.FnSortRows", spec := "fnSortRows", unfollowed := true, recurses := true, apart := false }
def FnSortRowsSaid : Prop := fnSortRowsRow.holds Try.pinned (OpenSpec.ofChange fnSortRowsSpec)

/-- ITS FALSE NEIGHBOUR: 'it returns false'. Refute it at one input. -/
def fnSortRowsWrong : ChangeSpec := { name := "fnSortRows", fn := fun _ => fun
  | [d] => { results := [.lit (.bool false)], args := [d] }
  | _ => none }
def FnSortRowsWrongFalsely : Prop := fnSortRowsRow.holds Try.pinned (OpenSpec.ofChange fnSortRowsWrong)

/-- 'laws.FnNotIn': WHATEVER THE INPUT: true; the input reads as it did. -/
def fnNotInSpec : ChangeSpec := { name := "fnNotIn", fn := fun _ => fun
  | [d] => { results := [.lit (.bool true)], args := [d] }
  | _ => none }
def fnNotInRow : OpenClaim := { program := "ytldndapcbgaliaa", sum := "61e293f5ddb049324acc6291dd42f0658218aace2e06ca898d5f8a469abacd94", func := "loop.example/queryoptimizer/laws.FnNotIn", spec := "fnNotIn", unfollowed := true, recurses := true, apart := false }
def FnNotInSaid : Prop := fnNotInRow.holds Try.pinned (OpenSpec.ofChange fnNotInSpec)

/-- ITS FALSE NEIGHBOUR: 'it returns false'. Refute it at one input. -/
def fnNotInWrong : ChangeSpec := { name := "fnNotIn", fn := fun _ => fun
  | [d] => { results := [.lit (.bool false)], args := [d] }
  | _ => none }
def FnNotInWrongFalsely : Prop := fnNotInRow.holds Try.pinned (OpenSpec.ofChange fnNotInWrong)

/-- 'laws.FnNotInExact': WHATEVER THE INPUT: true; the input reads as it did. -/
def fnNotInExactSpec : ChangeSpec := { name := "fnNotInExact", fn := fun _ => fun
  | [d] => { results := [.lit (.bool true)], args := [d] }
  | _ => none }
def fnNotInExactRow : OpenClaim := { program := "ytldndapcbgaliaa", sum := "61e293f5ddb049324acc6291dd42f0658218aace2e06ca898d5f8a469abacd94", func := "loop.example/queryoptimizer/laws.FnNotInExact", spec := "fnNotInExact", unfollowed := true, recurses := true, apart := false }
def FnNotInExactSaid : Prop := fnNotInExactRow.holds Try.pinned (OpenSpec.ofChange fnNotInExactSpec)

/-- ITS FALSE NEIGHBOUR: 'it returns false'. Refute it at one input. -/
def fnNotInExactWrong : ChangeSpec := { name := "fnNotInExact", fn := fun _ => fun
  | [d] => { results := [.lit (.bool false)], args := [d] }
  | _ => none }
def FnNotInExactWrongFalsely : Prop := fnNotInExactRow.holds Try.pinned (OpenSpec.ofChange fnNotInExactWrong)

/-- 'laws.FnJoinNulls': WHATEVER THE INPUT: true; the input reads as it did. -/
def fnJoinNullsSpec : ChangeSpec := { name := "fnJoinNulls", fn := fun _ => fun
  | [d] => { results := [.lit (.bool true)], args := [d] }
  | _ => none }
def fnJoinNullsRow : OpenClaim := { program := "ytldndapcbgaliaa", sum := "61e293f5ddb049324acc6291dd42f0658218aace2e06ca898d5f8a469abacd94", func := "loop.example/queryoptimizer/laws.FnJoinNulls", spec := "fnJoinNulls", unfollowed := true, recurses := true, apart := false }
def FnJoinNullsSaid : Prop := fnJoinNullsRow.holds Try.pinned (OpenSpec.ofChange fnJoinNullsSpec)

/-- ITS FALSE NEIGHBOUR: 'it returns false'. Refute it at one input. -/
def fnJoinNullsWrong : ChangeSpec := { name := "fnJoinNulls", fn := fun _ => fun
  | [d] => { results := [.lit (.bool false)], args := [d] }
  | _ => none }
def FnJoinNullsWrongFalsely : Prop := fnJoinNullsRow.holds Try.pinned (OpenSpec.ofChange fnJoinNullsWrong)

/-- 'laws.FnMergeJoinSwap': WHATEVER THE INPUT: true; the input reads as it did. -/
def fnMergeJoinSwapSpec : ChangeSpec := { name := "fnMergeJoinSwap", fn := fun _ => fun
  | [d] => { results := [.lit (.bool true)], args := [d] }
  | _ => none }
def fnMergeJoinSwapRow : OpenClaim := { program := "ytldndapcbgaliaa", sum := "61e293f5ddb049324acc6291dd42f0658218aace2e06ca898d5f8a469abacd94", func := "loop.example/queryoptimizer/laws.FnMergeJoinSwap", spec := "fnMergeJoinSwap", unfollowed := true, recurses := true, apart := false }
def FnMergeJoinSwapSaid : Prop := fnMergeJoinSwapRow.holds Try.pinned (OpenSpec.ofChange fnMergeJoinSwapSpec)

/-- ITS FALSE NEIGHBOUR: 'it returns false'. Refute it at one input. -/
def fnMergeJoinSwapWrong : ChangeSpec := { name := "fnMergeJoinSwap", fn := fun _ => fun
  | [d] => { results := [.lit (.bool false)], args := [d] }
  | _ => none }
def FnMergeJoinSwapWrongFalsely : Prop := fnMergeJoinSwapRow.holds Try.pinned (OpenSpec.ofChange fnMergeJoinSwapWrong)

/-- 'laws.FnExactMergeJoin': WHATEVER THE INPUT: true; the input reads as it did. -/
def fnExactMergeJoinSpec : ChangeSpec := { name := "fnExactMergeJoin", fn := fun _ => fun
  | [d1, d2, d3, d4] => { results := [.lit (.bool true)], args := [d1, d2, d3, d4] }
  | _ => none }
def fnExactMergeJoinRow : OpenClaim := { program := "ytldndapcbgaliaa", sum := "61e293f5ddb049324acc6291dd42f0658218aace2e06ca898d5f8a469abacd94", func := "loop.example/queryoptimizer/laws.FnExactMergeJoin", spec := "fnExactMergeJoin", unfollowed := true, recurses := true, apart := false }
def FnExactMergeJoinSaid : Prop := fnExactMergeJoinRow.holds Try.pinned (OpenSpec.ofChange fnExactMergeJoinSpec)

/-- ITS FALSE NEIGHBOUR: 'it returns false'. Refute it at one input. -/
def fnExactMergeJoinWrong : ChangeSpec := { name := "fnExactMergeJoin", fn := fun _ => fun
  | [d1, d2, d3, d4] => { results := [.lit (.bool false)], args := [d1, d2, d3, d4] }
  | _ => none }
def FnExactMergeJoinWrongFalsely : Prop := fnExactMergeJoinRow.holds Try.pinned (OpenSpec.ofChange fnExactMergeJoinWrong)

/-- 'laws.FnBucketSizes': WHATEVER THE INPUT: true; the input reads as it did. -/
def fnBucketSizesSpec : ChangeSpec := { name := "fnBucketSizes", fn := fun _ => fun
  | [d] => { results := [.lit (.bool true)], args := [d] }
  | _ => none }
def fnBucketSizesRow : OpenClaim := { program := "ytldndapcbgaliaa", sum := "61e293f5ddb049324acc6291dd42f0658218aace2e06ca898d5f8a469abacd94", func := "loop.example/queryoptimizer/laws.FnBucketSizes", spec := "fnBucketSizes", unfollowed := true, recurses := true, apart := false }
def FnBucketSizesSaid : Prop := fnBucketSizesRow.holds Try.pinned (OpenSpec.ofChange fnBucketSizesSpec)

/-- ITS FALSE NEIGHBOUR: 'it returns false'. Refute it at one input. -/
def fnBucketSizesWrong : ChangeSpec := { name := "fnBucketSizes", fn := fun _ => fun
  | [d] => { results := [.lit (.bool false)], args := [d] }
  | _ => none }
def FnBucketSizesWrongFalsely : Prop := fnBucketSizesRow.holds Try.pinned (OpenSpec.ofChange fnBucketSizesWrong)

/-- 'laws.FnExactTopRows': WHATEVER THE INPUT: true; the input reads as it did. -/
def fnExactTopRowsSpec : ChangeSpec := { name := "fnExactTopRows", fn := fun _ => fun
  | [d1, d2, d3] => { results := [.lit (.bool true)], args := [d1, d2, d3] }
  | _ => none }
def fnExactTopRowsRow : OpenClaim := { program := "ytldndapcbgaliaa", sum := "61e293f5ddb049324acc6291dd42f0658218aace2e06ca898d5f8a469abacd94", func := "loop.example/queryoptimizer/laws.FnExactTopRows", spec := "fnExactTopRows", unfollowed := true, recurses := true, apart := false }
def FnExactTopRowsSaid : Prop := fnExactTopRowsRow.holds Try.pinned (OpenSpec.ofChange fnExactTopRowsSpec)

/-- ITS FALSE NEIGHBOUR: 'it returns false'. Refute it at one input. -/
def fnExactTopRowsWrong : ChangeSpec := { name := "fnExactTopRows", fn := fun _ => fun
  | [d1, d2, d3] => { results := [.lit (.bool false)], args := [d1, d2, d3] }
  | _ => none }
def FnExactTopRowsWrongFalsely : Prop := fnExactTopRowsRow.holds Try.pinned (OpenSpec.ofChange fnExactTopRowsWrong)

/-- 'laws.FnExactSortRows': WHATEVER THE INPUT: true; the input reads as it did. -/
def fnExactSortRowsSpec : ChangeSpec := { name := "fnExactSortRows", fn := fun _ => fun
  | [d1, d2] => { results := [.lit (.bool true)], args := [d1, d2] }
  | _ => none }
def fnExactSortRowsRow : OpenClaim := { program := "ytldndapcbgaliaa", sum := "61e293f5ddb049324acc6291dd42f0658218aace2e06ca898d5f8a469abacd94", func := "loop.example/queryoptimizer/laws.FnExactSortRows", spec := "fnExactSortRows", unfollowed := true, recurses := true, apart := false }
def FnExactSortRowsSaid : Prop := fnExactSortRowsRow.holds Try.pinned (OpenSpec.ofChange fnExactSortRowsSpec)

/-- ITS FALSE NEIGHBOUR: 'it returns false'. Refute it at one input. -/
def fnExactSortRowsWrong : ChangeSpec := { name := "fnExactSortRows", fn := fun _ => fun
  | [d1, d2] => { results := [.lit (.bool false)], args := [d1, d2] }
  | _ => none }
def FnExactSortRowsWrongFalsely : Prop := fnExactSortRowsRow.holds Try.pinned (OpenSpec.ofChange fnExactSortRowsWrong)

/- THE SECOND FORM. 'bulk': how many values and letters a reading holds, each counted each time it is reached (what is shared counts as often as it is met; a slice's spare places count too). A statement '..UptoSaid' is the law's where the arguments, and the package variables that the reading takes, are together of bulk at most 1048576: NARROWER than '..Said'. Prove '..Said' where nothing that the law and all that it calls make is longer than what came in: it says more and counts as full. Else prove '..UptoSaid'. A law counts once. -/
mutual
def uptoBulk {H : Type} : DataW H → Nat
  | .lit (.string bytes) => bytes.length + 1
  | .lit _ => 1
  | .nil => 1
  | .ptr d => uptoBulk d + 1
  | .slice elems spare => uptoBulkAll elems + uptoBulkAll spare + 1
  | .agg parts => uptoBulkAll parts + 1
  | .iface _ d => uptoBulk d + 1
  | .map entries => uptoBulkEntries entries + 1
  | .held _ => 1
def uptoBulkAll {H : Type} : List (DataW H) → Nat
  | [] => 0
  | d :: r => uptoBulk d + uptoBulkAll r
def uptoBulkEntries {H : Type} : List (Lit × DataW H) → Nat
  | [] => 0
  | x :: r => uptoBulkEntry x + uptoBulkEntries r
def uptoBulkEntry {H : Type} : Lit × DataW H → Nat
  | (.string bytes, d) => bytes.length + uptoBulk d + 1
  | (_, d) => uptoBulk d + 1
 end
def uptoSmall : (H : Type) → List (DataW H) → Bool := fun _ ds => decide (uptoBulkAll ds ≤ 1048576)
def OpenSpec.upto (s : _root_.Go.ChangeSpec) : _root_.Go.OpenSpec := { _root_.Go.OpenSpec.ofChange s with cond := some uptoSmall }

/-- 'laws.FnSortRows', WHERE WHAT IT READS IS OF BULK AT MOST 1048576: true; the input reads as it did. -/
def fnSortRowsUptoRow : OpenClaim := { program := "ytldndapcbgaliaa", sum := "61e293f5ddb049324acc6291dd42f0658218aace2e06ca898d5f8a469abacd94", func := "loop.example/queryoptimizer/laws.FnSortRows", spec := "fnSortRows", unfollowed := true, recurses := true, apart := false, narrowed := true }
def FnSortRowsUptoSaid : Prop := fnSortRowsUptoRow.holds Try.pinned (OpenSpec.upto fnSortRowsSpec)

/-- 'laws.FnNotIn', WHERE WHAT IT READS IS OF BULK AT MOST 1048576: true; the input reads as it did. -/
def fnNotInUptoRow : OpenClaim := { program := "ytldndapcbgaliaa", sum := "61e293f5ddb049324acc6291dd42f0658218aace2e06ca898d5f8a469abacd94", func := "loop.example/queryoptimizer/laws.FnNotIn", spec := "fnNotIn", unfollowed := true, recurses := true, apart := false, narrowed := true }
def FnNotInUptoSaid : Prop := fnNotInUptoRow.holds Try.pinned (OpenSpec.upto fnNotInSpec)

/-- 'laws.FnNotInExact', WHERE WHAT IT READS IS OF BULK AT MOST 1048576: true; the input reads as it did. -/
def fnNotInExactUptoRow : OpenClaim := { program := "ytldndapcbgaliaa", sum := "61e293f5ddb049324acc6291dd42f0658218aace2e06ca898d5f8a469abacd94", func := "loop.example/queryoptimizer/laws.FnNotInExact", spec := "fnNotInExact", unfollowed := true, recurses := true, apart := false, narrowed := true }
def FnNotInExactUptoSaid : Prop := fnNotInExactUptoRow.holds Try.pinned (OpenSpec.upto fnNotInExactSpec)

/-- 'laws.FnJoinNulls', WHERE WHAT IT READS IS OF BULK AT MOST 1048576: true; the input reads as it did. -/
def fnJoinNullsUptoRow : OpenClaim := { program := "ytldndapcbgaliaa", sum := "61e293f5ddb049324acc6291dd42f0658218aace2e06ca898d5f8a469abacd94", func := "loop.example/queryoptimizer/laws.FnJoinNulls", spec := "fnJoinNulls", unfollowed := true, recurses := true, apart := false, narrowed := true }
def FnJoinNullsUptoSaid : Prop := fnJoinNullsUptoRow.holds Try.pinned (OpenSpec.upto fnJoinNullsSpec)

/-- 'laws.FnMergeJoinSwap', WHERE WHAT IT READS IS OF BULK AT MOST 1048576: true; the input reads as it did. -/
def fnMergeJoinSwapUptoRow : OpenClaim := { program := "ytldndapcbgaliaa", sum := "61e293f5ddb049324acc6291dd42f0658218aace2e06ca898d5f8a469abacd94", func := "loop.example/queryoptimizer/laws.FnMergeJoinSwap", spec := "fnMergeJoinSwap", unfollowed := true, recurses := true, apart := false, narrowed := true }
def FnMergeJoinSwapUptoSaid : Prop := fnMergeJoinSwapUptoRow.holds Try.pinned (OpenSpec.upto fnMergeJoinSwapSpec)

/-- 'laws.FnExactMergeJoin', WHERE WHAT IT READS IS OF BULK AT MOST 1048576: true; the input reads as it did. -/
def fnExactMergeJoinUptoRow : OpenClaim := { program := "ytldndapcbgaliaa", sum := "61e293f5ddb049324acc6291dd42f0658218aace2e06ca898d5f8a469abacd94", func := "loop.example/queryoptimizer/laws.FnExactMergeJoin", spec := "fnExactMergeJoin", unfollowed := true, recurses := true, apart := false, narrowed := true }
def FnExactMergeJoinUptoSaid : Prop := fnExactMergeJoinUptoRow.holds Try.pinned (OpenSpec.upto fnExactMergeJoinSpec)

/-- 'laws.FnBucketSizes', WHERE WHAT IT READS IS OF BULK AT MOST 1048576: true; the input reads as it did. -/
def fnBucketSizesUptoRow : OpenClaim := { program := "ytldndapcbgaliaa", sum := "61e293f5ddb049324acc6291dd42f0658218aace2e06ca898d5f8a469abacd94", func := "loop.example/queryoptimizer/laws.FnBucketSizes", spec := "fnBucketSizes", unfollowed := true, recurses := true, apart := false, narrowed := true }
def FnBucketSizesUptoSaid : Prop := fnBucketSizesUptoRow.holds Try.pinned (OpenSpec.upto fnBucketSizesSpec)

/-- 'laws.FnExactTopRows', WHERE WHAT IT READS IS OF BULK AT MOST 1048576: true; the input reads as it did. -/
def fnExactTopRowsUptoRow : OpenClaim := { program := "ytldndapcbgaliaa", sum := "61e293f5ddb049324acc6291dd42f0658218aace2e06ca898d5f8a469abacd94", func := "loop.example/queryoptimizer/laws.FnExactTopRows", spec := "fnExactTopRows", unfollowed := true, recurses := true, apart := false, narrowed := true }
def FnExactTopRowsUptoSaid : Prop := fnExactTopRowsUptoRow.holds Try.pinned (OpenSpec.upto fnExactTopRowsSpec)

/-- 'laws.FnExactSortRows', WHERE WHAT IT READS IS OF BULK AT MOST 1048576: true; the input reads as it did. -/
def fnExactSortRowsUptoRow : OpenClaim := { program := "ytldndapcbgaliaa", sum := "61e293f5ddb049324acc6291dd42f0658218aace2e06ca898d5f8a469abacd94", func := "loop.example/queryoptimizer/laws.FnExactSortRows", spec := "fnExactSortRows", unfollowed := true, recurses := true, apart := false, narrowed := true }
def FnExactSortRowsUptoSaid : Prop := fnExactSortRowsUptoRow.holds Try.pinned (OpenSpec.upto fnExactSortRowsSpec)

end Rows
end Go.Proofs.Ytldndapcbgaliaa
