/-
  No cell of these rows narrows 'for every input' (looked for: loops, veiled, ifaces, maps, wideKeys, modest, calm, conditions, laid).
  DERIVED. THE GIVEN ROWS OF THIS SEAT. 12 by the template 'for every input the law returns true; each argument reads behind the call as it read before'; 0 by the template 'total and deterministic' (their statements: YtfjpmifdmpoocaaTotals.lean).
  GIVEN WITH THE SEED: the statements are not yours to turn. If you find one false, say at which input.
  Laid BY PROGRAM, IN A SANDBOX (cutbox-rows.mjs): the forced cells as the released guide's own fill.sh prints them over the translation eef89a6976f6c4c3… (all of the seat's roots in one cut). By AI agents, Wed Nov 11 2026. No macro, syntax, notation, axiom, sorry.
-/
import Derived.Test.YtfjpmifdmpoocaaChecked
import GoSem.Claim
import GoSem.ClaimJoined
import GoSem.ClaimMapViews
import Derived.JoinedTies
import Derived.KernelRfl
namespace Go.Proofs.Ytfjpmifdmpoocaa
/- THE CELL 'sum', in the pinned program and in every row, IS THE sha256 OF THE DUMP (.gsa) THAT YtfjpmifdmpoocaaProg.lean LOADS. Nothing in Lean hashes anything: it is a label: what it is worth is what the hold of that sum in a sandbox is worth. -/
noncomputable def Try.pinned : Pinned := { name := "ytfjpmifdmpoocaa", sum := "eef89a6976f6c4c3696257eed7571f458db2dcca65d4e44ebb60b4d18ad18945", checked := Try.checked }
namespace Rows
def none {H : Type} : Left H := { results := [], args := [] }

/-- 'laws.FnIsSubtable': WHATEVER THE INPUT: true; the input reads as it did. -/
def fnIsSubtableSpec : ChangeSpec := { name := "fnIsSubtable", fn := fun _ => fun
  | [d] => { results := [.lit (.bool true)], args := [d] }
  | _ => none }
def fnIsSubtableRow : OpenClaim := { program := "ytfjpmifdmpoocaa", sum := "eef89a6976f6c4c3696257eed7571f458db2dcca65d4e44ebb60b4d18ad18945", func := "loop.example/queryoptimizer/laws.FnIsSubtable", spec := "fnIsSubtable", unfollowed := true, recurses := true, apart := false }
def FnIsSubtableSaid : Prop := fnIsSubtableRow.holds Try.pinned (OpenSpec.ofChange fnIsSubtableSpec)

/-- ITS FALSE NEIGHBOUR: 'it returns false'. Refute it at one input. -/
def fnIsSubtableWrong : ChangeSpec := { name := "fnIsSubtable", fn := fun _ => fun
  | [d] => { results := [.lit (.bool false)], args := [d] }
  | _ => none }
def FnIsSubtableWrongFalsely : Prop := fnIsSubtableRow.holds Try.pinned (OpenSpec.ofChange fnIsSubtableWrong)

/-- 'laws.FnExactExceptAll': WHATEVER THE INPUT: true; the input reads as it did. -/
def fnExactExceptAllSpec : ChangeSpec := { name := "fnExactExceptAll", fn := fun _ => fun
  | [d1, d2] => { results := [.lit (.bool true)], args := [d1, d2] }
  | _ => none }
def fnExactExceptAllRow : OpenClaim := { program := "ytfjpmifdmpoocaa", sum := "eef89a6976f6c4c3696257eed7571f458db2dcca65d4e44ebb60b4d18ad18945", func := "loop.example/queryoptimizer/laws.FnExactExceptAll", spec := "fnExactExceptAll", unfollowed := true, recurses := true, apart := false }
def FnExactExceptAllSaid : Prop := fnExactExceptAllRow.holds Try.pinned (OpenSpec.ofChange fnExactExceptAllSpec)

/-- ITS FALSE NEIGHBOUR: 'it returns false'. Refute it at one input. -/
def fnExactExceptAllWrong : ChangeSpec := { name := "fnExactExceptAll", fn := fun _ => fun
  | [d1, d2] => { results := [.lit (.bool false)], args := [d1, d2] }
  | _ => none }
def FnExactExceptAllWrongFalsely : Prop := fnExactExceptAllRow.holds Try.pinned (OpenSpec.ofChange fnExactExceptAllWrong)

/-- 'laws.FnExactIntersectAll': WHATEVER THE INPUT: true; the input reads as it did. -/
def fnExactIntersectAllSpec : ChangeSpec := { name := "fnExactIntersectAll", fn := fun _ => fun
  | [d1, d2] => { results := [.lit (.bool true)], args := [d1, d2] }
  | _ => none }
def fnExactIntersectAllRow : OpenClaim := { program := "ytfjpmifdmpoocaa", sum := "eef89a6976f6c4c3696257eed7571f458db2dcca65d4e44ebb60b4d18ad18945", func := "loop.example/queryoptimizer/laws.FnExactIntersectAll", spec := "fnExactIntersectAll", unfollowed := true, recurses := true, apart := false }
def FnExactIntersectAllSaid : Prop := fnExactIntersectAllRow.holds Try.pinned (OpenSpec.ofChange fnExactIntersectAllSpec)

/-- ITS FALSE NEIGHBOUR: 'it returns false'. Refute it at one input. -/
def fnExactIntersectAllWrong : ChangeSpec := { name := "fnExactIntersectAll", fn := fun _ => fun
  | [d1, d2] => { results := [.lit (.bool false)], args := [d1, d2] }
  | _ => none }
def FnExactIntersectAllWrongFalsely : Prop := fnExactIntersectAllRow.holds Try.pinned (OpenSpec.ofChange fnExactIntersectAllWrong)

/-- 'laws.FnExceptAll': WHATEVER THE INPUT: true; the input reads as it did. -/
def fnExceptAllSpec : ChangeSpec := { name := "fnExceptAll", fn := fun _ => fun
  | [d] => { results := [.lit (.bool true)], args := [d] }
  | _ => none }
def fnExceptAllRow : OpenClaim := { program := "ytfjpmifdmpoocaa", sum := "eef89a6976f6c4c3696257eed7571f458db2dcca65d4e44ebb60b4d18ad18945", func := "loop.example/queryoptimizer/laws.FnExceptAll", spec := "fnExceptAll", unfollowed := true, recurses := true, apart := false }
def FnExceptAllSaid : Prop := fnExceptAllRow.holds Try.pinned (OpenSpec.ofChange fnExceptAllSpec)

/-- ITS FALSE NEIGHBOUR: 'it returns false'. Refute it at one input. -/
def fnExceptAllWrong : ChangeSpec := { name := "fnExceptAll", fn := fun _ => fun
  | [d] => { results := [.lit (.bool false)], args := [d] }
  | _ => none }
def FnExceptAllWrongFalsely : Prop := fnExceptAllRow.holds Try.pinned (OpenSpec.ofChange fnExceptAllWrong)

/-- 'laws.FnIntersectAll': WHATEVER THE INPUT: true; the input reads as it did. -/
def fnIntersectAllSpec : ChangeSpec := { name := "fnIntersectAll", fn := fun _ => fun
  | [d] => { results := [.lit (.bool true)], args := [d] }
  | _ => none }
def fnIntersectAllRow : OpenClaim := { program := "ytfjpmifdmpoocaa", sum := "eef89a6976f6c4c3696257eed7571f458db2dcca65d4e44ebb60b4d18ad18945", func := "loop.example/queryoptimizer/laws.FnIntersectAll", spec := "fnIntersectAll", unfollowed := true, recurses := true, apart := false }
def FnIntersectAllSaid : Prop := fnIntersectAllRow.holds Try.pinned (OpenSpec.ofChange fnIntersectAllSpec)

/-- ITS FALSE NEIGHBOUR: 'it returns false'. Refute it at one input. -/
def fnIntersectAllWrong : ChangeSpec := { name := "fnIntersectAll", fn := fun _ => fun
  | [d] => { results := [.lit (.bool false)], args := [d] }
  | _ => none }
def FnIntersectAllWrongFalsely : Prop := fnIntersectAllRow.holds Try.pinned (OpenSpec.ofChange fnIntersectAllWrong)

/-- 'laws.FnUnionExcept': WHATEVER THE INPUT: true; the input reads as it did. -/
def fnUnionExceptSpec : ChangeSpec := { name := "fnUnionExcept", fn := fun _ => fun
  | [d] => { results := [.lit (.bool true)], args := [d] }
  | _ => none }
def fnUnionExceptRow : OpenClaim := { program := "ytfjpmifdmpoocaa", sum := "eef89a6976f6c4c3696257eed7571f458db2dcca65d4e44ebb60b4d18ad18945", func := "loop.example/queryoptimizer/laws.FnUnionExcept", spec := "fnUnionExcept", unfollowed := true, recurses := true, apart := false }
def FnUnionExceptSaid : Prop := fnUnionExceptRow.holds Try.pinned (OpenSpec.ofChange fnUnionExceptSpec)

/-- ITS FALSE NEIGHBOUR: 'it returns false'. Refute it at one input. -/
def fnUnionExceptWrong : ChangeSpec := { name := "fnUnionExcept", fn := fun _ => fun
  | [d] => { results := [.lit (.bool false)], args := [d] }
  | _ => none }
def FnUnionExceptWrongFalsely : Prop := fnUnionExceptRow.holds Try.pinned (OpenSpec.ofChange fnUnionExceptWrong)

/-- 'laws.FnExceptIntersect': WHATEVER THE INPUT: true; the input reads as it did. -/
def fnExceptIntersectSpec : ChangeSpec := { name := "fnExceptIntersect", fn := fun _ => fun
  | [d] => { results := [.lit (.bool true)], args := [d] }
  | _ => none }
def fnExceptIntersectRow : OpenClaim := { program := "ytfjpmifdmpoocaa", sum := "eef89a6976f6c4c3696257eed7571f458db2dcca65d4e44ebb60b4d18ad18945", func := "loop.example/queryoptimizer/laws.FnExceptIntersect", spec := "fnExceptIntersect", unfollowed := true, recurses := true, apart := false }
def FnExceptIntersectSaid : Prop := fnExceptIntersectRow.holds Try.pinned (OpenSpec.ofChange fnExceptIntersectSpec)

/-- ITS FALSE NEIGHBOUR: 'it returns false'. Refute it at one input. -/
def fnExceptIntersectWrong : ChangeSpec := { name := "fnExceptIntersect", fn := fun _ => fun
  | [d] => { results := [.lit (.bool false)], args := [d] }
  | _ => none }
def FnExceptIntersectWrongFalsely : Prop := fnExceptIntersectRow.holds Try.pinned (OpenSpec.ofChange fnExceptIntersectWrong)

/-- 'laws.FnExactSemiJoin': WHATEVER THE INPUT: true; the input reads as it did. -/
def fnExactSemiJoinSpec : ChangeSpec := { name := "fnExactSemiJoin", fn := fun _ => fun
  | [d1, d2, d3, d4] => { results := [.lit (.bool true)], args := [d1, d2, d3, d4] }
  | _ => none }
def fnExactSemiJoinRow : OpenClaim := { program := "ytfjpmifdmpoocaa", sum := "eef89a6976f6c4c3696257eed7571f458db2dcca65d4e44ebb60b4d18ad18945", func := "loop.example/queryoptimizer/laws.FnExactSemiJoin", spec := "fnExactSemiJoin", unfollowed := true, recurses := true, apart := false }
def FnExactSemiJoinSaid : Prop := fnExactSemiJoinRow.holds Try.pinned (OpenSpec.ofChange fnExactSemiJoinSpec)

/-- ITS FALSE NEIGHBOUR: 'it returns false'. Refute it at one input. -/
def fnExactSemiJoinWrong : ChangeSpec := { name := "fnExactSemiJoin", fn := fun _ => fun
  | [d1, d2, d3, d4] => { results := [.lit (.bool false)], args := [d1, d2, d3, d4] }
  | _ => none }
def FnExactSemiJoinWrongFalsely : Prop := fnExactSemiJoinRow.holds Try.pinned (OpenSpec.ofChange fnExactSemiJoinWrong)

/-- 'laws.FnExactAntiJoin': WHATEVER THE INPUT: true; the input reads as it did. -/
def fnExactAntiJoinSpec : ChangeSpec := { name := "fnExactAntiJoin", fn := fun _ => fun
  | [d1, d2, d3, d4] => { results := [.lit (.bool true)], args := [d1, d2, d3, d4] }
  | _ => none }
def fnExactAntiJoinRow : OpenClaim := { program := "ytfjpmifdmpoocaa", sum := "eef89a6976f6c4c3696257eed7571f458db2dcca65d4e44ebb60b4d18ad18945", func := "loop.example/queryoptimizer/laws.FnExactAntiJoin", spec := "fnExactAntiJoin", unfollowed := true, recurses := true, apart := false }
def FnExactAntiJoinSaid : Prop := fnExactAntiJoinRow.holds Try.pinned (OpenSpec.ofChange fnExactAntiJoinSpec)

/-- ITS FALSE NEIGHBOUR: 'it returns false'. Refute it at one input. -/
def fnExactAntiJoinWrong : ChangeSpec := { name := "fnExactAntiJoin", fn := fun _ => fun
  | [d1, d2, d3, d4] => { results := [.lit (.bool false)], args := [d1, d2, d3, d4] }
  | _ => none }
def FnExactAntiJoinWrongFalsely : Prop := fnExactAntiJoinRow.holds Try.pinned (OpenSpec.ofChange fnExactAntiJoinWrong)

/-- 'laws.FnExactNotIn': WHATEVER THE INPUT: true; the input reads as it did. -/
def fnExactNotInSpec : ChangeSpec := { name := "fnExactNotIn", fn := fun _ => fun
  | [d1, d2, d3, d4] => { results := [.lit (.bool true)], args := [d1, d2, d3, d4] }
  | _ => none }
def fnExactNotInRow : OpenClaim := { program := "ytfjpmifdmpoocaa", sum := "eef89a6976f6c4c3696257eed7571f458db2dcca65d4e44ebb60b4d18ad18945", func := "loop.example/queryoptimizer/laws.FnExactNotIn", spec := "fnExactNotIn", unfollowed := true, recurses := true, apart := false }
def FnExactNotInSaid : Prop := fnExactNotInRow.holds Try.pinned (OpenSpec.ofChange fnExactNotInSpec)

/-- ITS FALSE NEIGHBOUR: 'it returns false'. Refute it at one input. -/
def fnExactNotInWrong : ChangeSpec := { name := "fnExactNotIn", fn := fun _ => fun
  | [d1, d2, d3, d4] => { results := [.lit (.bool false)], args := [d1, d2, d3, d4] }
  | _ => none }
def FnExactNotInWrongFalsely : Prop := fnExactNotInRow.holds Try.pinned (OpenSpec.ofChange fnExactNotInWrong)

/-- 'laws.FnSemiJoin': WHATEVER THE INPUT: true; the input reads as it did. -/
def fnSemiJoinSpec : ChangeSpec := { name := "fnSemiJoin", fn := fun _ => fun
  | [d] => { results := [.lit (.bool true)], args := [d] }
  | _ => none }
def fnSemiJoinRow : OpenClaim := { program := "ytfjpmifdmpoocaa", sum := "eef89a6976f6c4c3696257eed7571f458db2dcca65d4e44ebb60b4d18ad18945", func := "loop.example/queryoptimizer/laws.FnSemiJoin", spec := "fnSemiJoin", unfollowed := true, recurses := true, apart := false }
def FnSemiJoinSaid : Prop := fnSemiJoinRow.holds Try.pinned (OpenSpec.ofChange fnSemiJoinSpec)

/-- ITS FALSE NEIGHBOUR: 'it returns false'. Refute it at one input. -/
def fnSemiJoinWrong : ChangeSpec := { name := "fnSemiJoin", fn := fun _ => fun
  | [d] => { results := [.lit (.bool false)], args := [d] }
  | _ => none }
def FnSemiJoinWrongFalsely : Prop := fnSemiJoinRow.holds Try.pinned (OpenSpec.ofChange fnSemiJoinWrong)

/-- 'laws.FnAntiJoin': WHATEVER THE INPUT: true; the input reads as it did. -/
def fnAntiJoinSpec : ChangeSpec := { name := "fnAntiJoin", fn := fun _ => fun
  | [d] => { results := [.lit (.bool true)], args := [d] }
  | _ => none }
def fnAntiJoinRow : OpenClaim := { program := "ytfjpmifdmpoocaa", sum := "eef89a6976f6c4c3696257eed7571f458db2dcca65d4e44ebb60b4d18ad18945", func := "loop.example/queryoptimizer/laws.FnAntiJoin", spec := "fnAntiJoin", unfollowed := true, recurses := true, apart := false }
def FnAntiJoinSaid : Prop := fnAntiJoinRow.holds Try.pinned (OpenSpec.ofChange fnAntiJoinSpec)

/-- ITS FALSE NEIGHBOUR: 'it returns false'. Refute it at one input. -/
def fnAntiJoinWrong : ChangeSpec := { name := "fnAntiJoin", fn := fun _ => fun
  | [d] => { results := [.lit (.bool false)], args := [d] }
  | _ => none }
def FnAntiJoinWrongFalsely : Prop := fnAntiJoinRow.holds Try.pinned (OpenSpec.ofChange fnAntiJoinWrong)

/- THE SECOND FORM. 'bulk': how many values and letters a reading holds, each counted each time it is reached (what is shared counts as often as it is met; a slice's spare places count too). A statement '..UptoSaid' is the law's where the arguments, and the package variables that the reading takes, are together of bulk at most 1048576: NARROWER than '..Said'. Prove '..Said' where nothing that the law and all that it calls make is longer than what came in: it says more and counts as full. Else prove '..UptoSaid'. A law counts once. -/
mutual
def uptoBulk {H : Type} : DataW H → Nat
  | .lit (.string bytes) => bytes.length + 1
  | .lit _ => 1
  | .nil => 1
  | .ptr d => uptoBulk d + 1
  | .slice elems spare => uptoBulkAll elems + uptoBulkAll spare + 1
  | .agg parts => uptoBulkAll parts + 1
  | .iface _ d => uptoBulk d + 1
  | .map entries => uptoBulkEntries entries + 1
  | .held _ => 1
def uptoBulkAll {H : Type} : List (DataW H) → Nat
  | [] => 0
  | d :: r => uptoBulk d + uptoBulkAll r
def uptoBulkEntries {H : Type} : List (Lit × DataW H) → Nat
  | [] => 0
  | x :: r => uptoBulkEntry x + uptoBulkEntries r
def uptoBulkEntry {H : Type} : Lit × DataW H → Nat
  | (.string bytes, d) => bytes.length + uptoBulk d + 1
  | (_, d) => uptoBulk d + 1
 end
def uptoSmall : (H : Type) → List (DataW H) → Bool := fun _ ds => decide (uptoBulkAll ds ≤ 1048576)
def OpenSpec.upto (s : _root_.Go.ChangeSpec) : _root_.Go.OpenSpec := { _root_.Go.OpenSpec.ofChange s with cond := some uptoSmall }

/-- 'laws.FnIsSubtable', WHERE WHAT IT READS IS OF BULK AT MOST 1048576: true; the input reads as it did. -/
def fnIsSubtableUptoRow : OpenClaim := { program := "ytfjpmifdmpoocaa", sum := "eef89a6976f6c4c3696257eed7571f458db2dcca65d4e44ebb60b4d18ad18945", func := "loop.example/queryoptimizer/laws.FnIsSubtable", spec := "fnIsSubtable", unfollowed := true, recurses := true, apart := false, narrowed := true }
def FnIsSubtableUptoSaid : Prop := fnIsSubtableUptoRow.holds Try.pinned (OpenSpec.upto fnIsSubtableSpec)

/-- 'laws.FnExactExceptAll', WHERE WHAT IT READS IS OF BULK AT MOST 1048576: true; the input reads as it did. -/
def fnExactExceptAllUptoRow : OpenClaim := { program := "ytfjpmifdmpoocaa", sum := "eef89a6976f6c4c3696257eed7571f458db2dcca65d4e44ebb60b4d18ad18945", func := "loop.example/queryoptimizer/laws.FnExactExceptAll", spec := "fnExactExceptAll", unfollowed := true, recurses := true, apart := false, narrowed := true }
def FnExactExceptAllUptoSaid : Prop := fnExactExceptAllUptoRow.holds Try.pinned (OpenSpec.upto fnExactExceptAllSpec)

/-- 'laws.FnExactIntersectAll', WHERE WHAT IT READS IS OF BULK AT MOST 1048576: true; the input reads as it did. -/
def fnExactIntersectAllUptoRow : OpenClaim := { program := "ytfjpmifdmpoocaa", sum := "eef89a6976f6c4c3696257eed7571f458db2dcca65d4e44ebb60b4d18ad18945", func := "loop.example/queryoptimizer/laws.FnExactIntersectAll", spec := "fnExactIntersectAll", unfollowed := true, recurses := true, apart := false, narrowed := true }
def FnExactIntersectAllUptoSaid : Prop := fnExactIntersectAllUptoRow.holds Try.pinned (OpenSpec.upto fnExactIntersectAllSpec)

/-- 'laws.FnExceptAll', WHERE WHAT IT READS IS OF BULK AT MOST 1048576: true; the input reads as it did. -/
def fnExceptAllUptoRow : OpenClaim := { program := "ytfjpmifdmpoocaa", sum := "eef89a6976f6c4c3696257eed7571f458db2dcca65d4e44ebb60b4d18ad18945", func := "loop.example/queryoptimizer/laws.FnExceptAll", spec := "fnExceptAll", unfollowed := true, recurses := true, apart := false, narrowed := true }
def FnExceptAllUptoSaid : Prop := fnExceptAllUptoRow.holds Try.pinned (OpenSpec.upto fnExceptAllSpec)

/-- 'laws.FnIntersectAll', WHERE WHAT IT READS IS OF BULK AT MOST 1048576: true; the input reads as it did. -/
def fnIntersectAllUptoRow : OpenClaim := { program := "ytfjpmifdmpoocaa", sum := "eef89a6976f6c4c3696257eed7571f458db2dcca65d4e44ebb60b4d18ad18945", func := "loop.example/queryoptimizer/laws.FnIntersectAll", spec := "fnIntersectAll", unfollowed := true, recurses := true, apart := false, narrowed := true }
def FnIntersectAllUptoSaid : Prop := fnIntersectAllUptoRow.holds Try.pinned (OpenSpec.upto fnIntersectAllSpec)

/-- 'laws.FnUnionExcept', WHERE WHAT IT READS IS OF BULK AT MOST 1048576: true; the input reads as it did. -/
def fnUnionExceptUptoRow : OpenClaim := { program := "ytfjpmifdmpoocaa", sum := "eef89a6976f6c4c3696257eed7571f458db2dcca65d4e44ebb60b4d18ad18945", func := "loop.example/queryoptimizer/laws.FnUnionExcept", spec := "fnUnionExcept", unfollowed := true, recurses := true, apart := false, narrowed := true }
def FnUnionExceptUptoSaid : Prop := fnUnionExceptUptoRow.holds Try.pinned (OpenSpec.upto fnUnionExceptSpec)

/-- 'laws.FnExceptIntersect', WHERE WHAT IT READS IS OF BULK AT MOST 1048576: true; the input reads as it did. -/
def fnExceptIntersectUptoRow : OpenClaim := { program := "ytfjpmifdmpoocaa", sum := "eef89a6976f6c4c3696257eed7571f458db2dcca65d4e44ebb60b4d18ad18945", func := "loop.example/queryoptimizer/laws.FnExceptIntersect", spec := "fnExceptIntersect", unfollowed := true, recurses := true, apart := false, narrowed := true }
def FnExceptIntersectUptoSaid : Prop := fnExceptIntersectUptoRow.holds Try.pinned (OpenSpec.upto fnExceptIntersectSpec)

/-- 'laws.FnExactSemiJoin', WHERE WHAT IT READS IS OF BULK AT MOST 1048576: true; the input reads as it did. -/
def fnExactSemiJoinUptoRow : OpenClaim := { program := "ytfjpmifdmpoocaa", sum := "eef89a6976f6c4c3696257eed7571f458db2dcca65d4e44ebb60b4d18ad18945", func := "loop.example/queryoptimizer/laws.FnExactSemiJoin", spec := "fnExactSemiJoin", unfollowed := true, recurses := true, apart := false, narrowed := true }
def FnExactSemiJoinUptoSaid : Prop := fnExactSemiJoinUptoRow.holds Try.pinned (OpenSpec.upto fnExactSemiJoinSpec)

/-- 'laws.FnExactAntiJoin', WHERE WHAT IT READS IS OF BULK AT MOST 1048576: true; the input reads as it did. -/
def fnExactAntiJoinUptoRow : OpenClaim := { program := "ytfjpmifdmpoocaa", sum := "eef89a6976f6c4c3696257eed7571f458db2dcca65d4e44ebb60b4d18ad18945", func := "loop.example/queryoptimizer/laws.FnExactAntiJoin", spec := "fnExactAntiJoin", unfollowed := true, recurses := true, apart := false, narrowed := true }
def FnExactAntiJoinUptoSaid : Prop := fnExactAntiJoinUptoRow.holds Try.pinned (OpenSpec.upto fnExactAntiJoinSpec)

/-- 'laws.FnExactNotIn', WHERE WHAT IT READS IS OF BULK AT MOST 1048576: true; the input reads as it did. -/
def fnExactNotInUptoRow : OpenClaim := { program := "ytfjpmifdmpoocaa", sum := "eef89a6976f6c4c3696257eed7571f458db2dcca65d4e44ebb60b4d18ad18945", func := "loop.example/queryoptimizer/laws.FnExactNotIn", spec := "fnExactNotIn", unfollowed := true, recurses := true, apart := false, narrowed := true }
def FnExactNotInUptoSaid : Prop := fnExactNotInUptoRow.holds Try.pinned (OpenSpec.upto fnExactNotInSpec)

/-- 'laws.FnSemiJoin', WHERE WHAT IT READS IS OF BULK AT MOST 1048576: true; the input reads as it did. -/
def fnSemiJoinUptoRow : OpenClaim := { program := "ytfjpmifdmpoocaa", sum := "eef89a6976f6c4c3696257eed7571f458db2dcca65d4e44ebb60b4d18ad18945", func := "loop.example/queryoptimizer/laws.FnSemiJoin", spec := "fnSemiJoin", unfollowed := true, recurses := true, apart := false, narrowed := true }
def FnSemiJoinUptoSaid : Prop := fnSemiJoinUptoRow.holds Try.pinned (OpenSpec.upto fnSemiJoinSpec)

/-- 'laws.FnAntiJoin', WHERE WHAT IT READS IS OF BULK AT MOST 1048576: true; the input reads as it did. -/
def fnAntiJoinUptoRow : OpenClaim := { program := "ytfjpmifdmpoocaa", sum := "eef89a6976f6c4c3696257eed7571f458db2dcca65d4e44ebb60b4d18ad18945", func := "loop.example/queryoptimizer/laws.FnAntiJoin", spec := "fnAntiJoin", unfollowed := true, recurses := true, apart := false, narrowed := true }
def FnAntiJoinUptoSaid : Prop := fnAntiJoinUptoRow.holds Try.pinned (OpenSpec.upto fnAntiJoinSpec)

end Rows
end Go.Proofs.Ytfjpmifdmpoocaa
