/-
  No cell of these rows narrows 'for every input' (looked for: loops, veiled, ifaces, maps, wideKeys, modest, calm, conditions, laid).
  DERIVED. THE GIVEN ROWS OF THIS SEAT. 12 by the template 'for every input the law returns true; each argument reads behind the call as it read before'; 0 by the template 'total and deterministic' (their statements: YtmljhkoabhjiaaaTotals.lean).
  GIVEN WITH THE SEED: the statements are not yours to turn. If you find one false, say at which input.
  Laid BY PROGRAM, IN A SANDBOX (cutbox-rows.mjs): the forced cells as the released guide's own fill.sh prints them over the translation e067f7039d4fe45f… (all of the seat's roots in one cut). By AI agents, Wed Nov 11 2026. No macro, syntax, notation, axiom, sorry.
-/
import Derived.Test.YtmljhkoabhjiaaaChecked
import GoSem.Claim
import GoSem.ClaimJoined
import GoSem.ClaimMapViews
import Derived.JoinedTies
import Derived.KernelRfl
namespace Go.Proofs.Ytmljhkoabhjiaaa
/- THE CELL 'sum', in the pinned program and in every row, IS THE sha256 OF THE DUMP (.gsa) THAT YtmljhkoabhjiaaaProg.lean LOADS. Nothing in Lean hashes anything: it is a label: what it is worth is what the hold of that sum in a sandbox is worth. -/
noncomputable def Try.pinned : Pinned := { name := "ytmljhkoabhjiaaa", sum := "e067f7039d4fe45fbc55aa16d5d37876d8f711783328361d404a09d6c16e5289", checked := Try.checked }
namespace Rows
def none {H : Type} : Left H := { results := [], args := [] }

/-- 'laws.FnExactAggregate': WHATEVER THE INPUT: true; the input reads as it did. -/
def fnExactAggregateSpec : ChangeSpec := { name := "fnExactAggregate", fn := fun _ => fun
  | [d1, d2] => { results := [.lit (.bool true)], args := [d1, d2] }
  | _ => none }
def fnExactAggregateRow : OpenClaim := { program := "ytmljhkoabhjiaaa", sum := "e067f7039d4fe45fbc55aa16d5d37876d8f711783328361d404a09d6c16e5289", func := "loop.example/queryoptimizer/laws.FnExactAggregate", spec := "fnExactAggregate", unfollowed := true, recurses := true, apart := false }
def FnExactAggregateSaid : Prop := fnExactAggregateRow.holds Try.pinned (OpenSpec.ofChange fnExactAggregateSpec)

/-- ITS FALSE NEIGHBOUR: 'it returns false'. Refute it at one input. -/
def fnExactAggregateWrong : ChangeSpec := { name := "fnExactAggregate", fn := fun _ => fun
  | [d1, d2] => { results := [.lit (.bool false)], args := [d1, d2] }
  | _ => none }
def FnExactAggregateWrongFalsely : Prop := fnExactAggregateRow.holds Try.pinned (OpenSpec.ofChange fnExactAggregateWrong)

/-- 'laws.FnExactMergeAggregates': WHATEVER THE INPUT: true; the input reads as it did. -/
def fnExactMergeAggregatesSpec : ChangeSpec := { name := "fnExactMergeAggregates", fn := fun _ => fun
  | [d1, d2, d3] => { results := [.lit (.bool true)], args := [d1, d2, d3] }
  | _ => none }
def fnExactMergeAggregatesRow : OpenClaim := { program := "ytmljhkoabhjiaaa", sum := "e067f7039d4fe45fbc55aa16d5d37876d8f711783328361d404a09d6c16e5289", func := "loop.example/queryoptimizer/laws.FnExactMergeAggregates", spec := "fnExactMergeAggregates", unfollowed := true, recurses := true, apart := false }
def FnExactMergeAggregatesSaid : Prop := fnExactMergeAggregatesRow.holds Try.pinned (OpenSpec.ofChange fnExactMergeAggregatesSpec)

/-- ITS FALSE NEIGHBOUR: 'it returns false'. Refute it at one input. -/
def fnExactMergeAggregatesWrong : ChangeSpec := { name := "fnExactMergeAggregates", fn := fun _ => fun
  | [d1, d2, d3] => { results := [.lit (.bool false)], args := [d1, d2, d3] }
  | _ => none }
def FnExactMergeAggregatesWrongFalsely : Prop := fnExactMergeAggregatesRow.holds Try.pinned (OpenSpec.ofChange fnExactMergeAggregatesWrong)

/-- 'laws.FnAggregate': WHATEVER THE INPUT: true; the input reads as it did. -/
def fnAggregateSpec : ChangeSpec := { name := "fnAggregate", fn := fun _ => fun
  | [d] => { results := [.lit (.bool true)], args := [d] }
  | _ => none }
def fnAggregateRow : OpenClaim := { program := "ytmljhkoabhjiaaa", sum := "e067f7039d4fe45fbc55aa16d5d37876d8f711783328361d404a09d6c16e5289", func := "loop.example/queryoptimizer/laws.FnAggregate", spec := "fnAggregate", unfollowed := true, recurses := true, apart := false }
def FnAggregateSaid : Prop := fnAggregateRow.holds Try.pinned (OpenSpec.ofChange fnAggregateSpec)

/-- ITS FALSE NEIGHBOUR: 'it returns false'. Refute it at one input. -/
def fnAggregateWrong : ChangeSpec := { name := "fnAggregate", fn := fun _ => fun
  | [d] => { results := [.lit (.bool false)], args := [d] }
  | _ => none }
def FnAggregateWrongFalsely : Prop := fnAggregateRow.holds Try.pinned (OpenSpec.ofChange fnAggregateWrong)

/-- 'laws.FnAggregateBounds': WHATEVER THE INPUT: true; the input reads as it did. -/
def fnAggregateBoundsSpec : ChangeSpec := { name := "fnAggregateBounds", fn := fun _ => fun
  | [d] => { results := [.lit (.bool true)], args := [d] }
  | _ => none }
def fnAggregateBoundsRow : OpenClaim := { program := "ytmljhkoabhjiaaa", sum := "e067f7039d4fe45fbc55aa16d5d37876d8f711783328361d404a09d6c16e5289", func := "loop.example/queryoptimizer/laws.FnAggregateBounds", spec := "fnAggregateBounds", unfollowed := true, recurses := true, apart := false }
def FnAggregateBoundsSaid : Prop := fnAggregateBoundsRow.holds Try.pinned (OpenSpec.ofChange fnAggregateBoundsSpec)

/-- ITS FALSE NEIGHBOUR: 'it returns false'. Refute it at one input. -/
def fnAggregateBoundsWrong : ChangeSpec := { name := "fnAggregateBounds", fn := fun _ => fun
  | [d] => { results := [.lit (.bool false)], args := [d] }
  | _ => none }
def FnAggregateBoundsWrongFalsely : Prop := fnAggregateBoundsRow.holds Try.pinned (OpenSpec.ofChange fnAggregateBoundsWrong)

/-- 'laws.FnMergeAggregates': WHATEVER THE INPUT: true; the input reads as it did. -/
def fnMergeAggregatesSpec : ChangeSpec := { name := "fnMergeAggregates", fn := fun _ => fun
  | [d1, d2] => { results := [.lit (.bool true)], args := [d1, d2] }
  | _ => none }
def fnMergeAggregatesRow : OpenClaim := { program := "ytmljhkoabhjiaaa", sum := "e067f7039d4fe45fbc55aa16d5d37876d8f711783328361d404a09d6c16e5289", func := "loop.example/queryoptimizer/laws.FnMergeAggregates", spec := "fnMergeAggregates", unfollowed := true, recurses := true, apart := false }
def FnMergeAggregatesSaid : Prop := fnMergeAggregatesRow.holds Try.pinned (OpenSpec.ofChange fnMergeAggregatesSpec)

/-- ITS FALSE NEIGHBOUR: 'it returns false'. Refute it at one input. -/
def fnMergeAggregatesWrong : ChangeSpec := { name := "fnMergeAggregates", fn := fun _ => fun
  | [d1, d2] => { results := [.lit (.bool false)], args := [d1, d2] }
  | _ => none }
def FnMergeAggregatesWrongFalsely : Prop := fnMergeAggregatesRow.holds Try.pinned (OpenSpec.ofChange fnMergeAggregatesWrong)

/-- 'laws.FnMergeSymmetric': WHATEVER THE INPUT: true; the input reads as it did. -/
def fnMergeSymmetricSpec : ChangeSpec := { name := "fnMergeSymmetric", fn := fun _ => fun
  | [d] => { results := [.lit (.bool true)], args := [d] }
  | _ => none }
def fnMergeSymmetricRow : OpenClaim := { program := "ytmljhkoabhjiaaa", sum := "e067f7039d4fe45fbc55aa16d5d37876d8f711783328361d404a09d6c16e5289", func := "loop.example/queryoptimizer/laws.FnMergeSymmetric", spec := "fnMergeSymmetric", unfollowed := true, recurses := true, apart := false }
def FnMergeSymmetricSaid : Prop := fnMergeSymmetricRow.holds Try.pinned (OpenSpec.ofChange fnMergeSymmetricSpec)

/-- ITS FALSE NEIGHBOUR: 'it returns false'. Refute it at one input. -/
def fnMergeSymmetricWrong : ChangeSpec := { name := "fnMergeSymmetric", fn := fun _ => fun
  | [d] => { results := [.lit (.bool false)], args := [d] }
  | _ => none }
def FnMergeSymmetricWrongFalsely : Prop := fnMergeSymmetricRow.holds Try.pinned (OpenSpec.ofChange fnMergeSymmetricWrong)

/-- 'laws.FnOrderCovers': WHATEVER THE INPUT: true; the input reads as it did. -/
def fnOrderCoversSpec : ChangeSpec := { name := "fnOrderCovers", fn := fun _ => fun
  | [d1, d2] => { results := [.lit (.bool true)], args := [d1, d2] }
  | _ => none }
def fnOrderCoversRow : OpenClaim := { program := "ytmljhkoabhjiaaa", sum := "e067f7039d4fe45fbc55aa16d5d37876d8f711783328361d404a09d6c16e5289", func := "loop.example/queryoptimizer/laws.FnOrderCovers", spec := "fnOrderCovers", unfollowed := true, recurses := true, apart := false }
def FnOrderCoversSaid : Prop := fnOrderCoversRow.holds Try.pinned (OpenSpec.ofChange fnOrderCoversSpec)

/-- ITS FALSE NEIGHBOUR: 'it returns false'. Refute it at one input. -/
def fnOrderCoversWrong : ChangeSpec := { name := "fnOrderCovers", fn := fun _ => fun
  | [d1, d2] => { results := [.lit (.bool false)], args := [d1, d2] }
  | _ => none }
def FnOrderCoversWrongFalsely : Prop := fnOrderCoversRow.holds Try.pinned (OpenSpec.ofChange fnOrderCoversWrong)

/-- 'laws.FnTopRows': WHATEVER THE INPUT: true; the input reads as it did. -/
def fnTopRowsSpec : ChangeSpec := { name := "fnTopRows", fn := fun _ => fun
  | [d] => { results := [.lit (.bool true)], args := [d] }
  | _ => none }
def fnTopRowsRow : OpenClaim := { program := "ytmljhkoabhjiaaa", sum := "e067f7039d4fe45fbc55aa16d5d37876d8f711783328361d404a09d6c16e5289", func := "loop.example/queryoptimizer/laws.FnTopRows", spec := "fnTopRows", unfollowed := true, recurses := true, apart := false }
def FnTopRowsSaid : Prop := fnTopRowsRow.holds Try.pinned (OpenSpec.ofChange fnTopRowsSpec)

/-- ITS FALSE NEIGHBOUR: 'it returns false'. Refute it at one input. -/
def fnTopRowsWrong : ChangeSpec := { name := "fnTopRows", fn := fun _ => fun
  | [d] => { results := [.lit (.bool false)], args := [d] }
  | _ => none }
def FnTopRowsWrongFalsely : Prop := fnTopRowsRow.holds Try.pinned (OpenSpec.ofChange fnTopRowsWrong)

/-- 'laws.FnExactTopRows': WHATEVER THE INPUT: true; the input reads as it did. -/
def fnExactTopRowsSpec : ChangeSpec := { name := "fnExactTopRows", fn := fun _ => fun
  | [d1, d2, d3] => { results := [.lit (.bool true)], args := [d1, d2, d3] }
  | _ => none }
def fnExactTopRowsRow : OpenClaim := { program := "ytmljhkoabhjiaaa", sum := "e067f7039d4fe45fbc55aa16d5d37876d8f711783328361d404a09d6c16e5289", func := "loop.example/queryoptimizer/laws.FnExactTopRows", spec := "fnExactTopRows", unfollowed := true, recurses := true, apart := false }
def FnExactTopRowsSaid : Prop := fnExactTopRowsRow.holds Try.pinned (OpenSpec.ofChange fnExactTopRowsSpec)

/-- ITS FALSE NEIGHBOUR: 'it returns false'. Refute it at one input. -/
def fnExactTopRowsWrong : ChangeSpec := { name := "fnExactTopRows", fn := fun _ => fun
  | [d1, d2, d3] => { results := [.lit (.bool false)], args := [d1, d2, d3] }
  | _ => none }
def FnExactTopRowsWrongFalsely : Prop := fnExactTopRowsRow.holds Try.pinned (OpenSpec.ofChange fnExactTopRowsWrong)

/-- 'laws.FnExactSortRows': WHATEVER THE INPUT: true; the input reads as it did. -/
def fnExactSortRowsSpec : ChangeSpec := { name := "fnExactSortRows", fn := fun _ => fun
  | [d1, d2] => { results := [.lit (.bool true)], args := [d1, d2] }
  | _ => none }
def fnExactSortRowsRow : OpenClaim := { program := "ytmljhkoabhjiaaa", sum := "e067f7039d4fe45fbc55aa16d5d37876d8f711783328361d404a09d6c16e5289", func := "loop.example/queryoptimizer/laws.FnExactSortRows", spec := "fnExactSortRows", unfollowed := true, recurses := true, apart := false }
def FnExactSortRowsSaid : Prop := fnExactSortRowsRow.holds Try.pinned (OpenSpec.ofChange fnExactSortRowsSpec)

/-- ITS FALSE NEIGHBOUR: 'it returns false'. Refute it at one input. -/
def fnExactSortRowsWrong : ChangeSpec := { name := "fnExactSortRows", fn := fun _ => fun
  | [d1, d2] => { results := [.lit (.bool false)], args := [d1, d2] }
  | _ => none }
def FnExactSortRowsWrongFalsely : Prop := fnExactSortRowsRow.holds Try.pinned (OpenSpec.ofChange fnExactSortRowsWrong)

/-- 'laws.FnSortRows': WHATEVER THE INPUT: true; the input reads as it did. -/
def fnSortRowsSpec : ChangeSpec := { name := "fnSortRows", fn := fun _ => fun
  | [d] => { results := [.lit (.bool true)], args := [d] }
  | _ => none }
def fnSortRowsRow : OpenClaim := { program := "ytmljhkoabhjiaaa", sum := "e067f7039d4fe45fbc55aa16d5d37876d8f711783328361d404a09d6c16e5289", func := "loop.example/queryoptimizer/laws.FnSortRows", spec := "fnSortRows", unfollowed := true, recurses := true, apart := false }
def FnSortRowsSaid : Prop := fnSortRowsRow.holds Try.pinned (OpenSpec.ofChange fnSortRowsSpec)

/-- ITS FALSE NEIGHBOUR: 'it returns false'. Refute it at one input. -/
def fnSortRowsWrong : ChangeSpec := { name := "fnSortRows", fn := fun _ => fun
  | [d] => { results := [.lit (.bool false)], args := [d] }
  | _ => none }
def FnSortRowsWrongFalsely : Prop := fnSortRowsRow.holds Try.pinned (OpenSpec.ofChange fnSortRowsWrong)

/-- 'laws.FnIsSubtable': WHATEVER THE INPUT: true; the input reads as it did. -/
def fnIsSubtableSpec : ChangeSpec := { name := "fnIsSubtable", fn := fun _ => fun
  | [d] => { results := [.lit (.bool true)], args := [d] }
  | _ => none }
def fnIsSubtableRow : OpenClaim := { program := "ytmljhkoabhjiaaa", sum := "e067f7039d4fe45fbc55aa16d5d37876d8f711783328361d404a09d6c16e5289", func := "loop.example/queryoptimizer/laws.FnIsSubtable", spec := "fnIsSubtable", unfollowed := true, recurses := true, apart := false }
def FnIsSubtableSaid : Prop := fnIsSubtableRow.holds Try.pinned (OpenSpec.ofChange fnIsSubtableSpec)

/-- ITS FALSE NEIGHBOUR: 'it returns false'. Refute it at one input. -/
def fnIsSubtableWrong : ChangeSpec := { name := "fnIsSubtable", fn := fun _ => fun
  | [d] => { results := [.lit (.bool false)], args := [d] }
  | _ => none }
def FnIsSubtableWrongFalsely : Prop := fnIsSubtableRow.holds Try.pinned (OpenSpec.ofChange fnIsSubtableWrong)

/- THE SECOND FORM. 'bulk': how many values and letters a reading holds, each counted each time it is reached (what is shared counts as often as it is met; a slice's spare places count too). A statement '..UptoSaid' is the law's where the arguments, and the package variables that the reading takes, are together of bulk at most 1048576: NARROWER than '..Said'. Prove '..Said' where nothing that the law and all that it calls make is longer than what came in: it says more and counts as full. Else prove '..UptoSaid'. A law counts once. -/
mutual
def uptoBulk {H : Type} : DataW H → Nat
  | .lit (.string bytes) => bytes.length + 1
  | .lit _ => 1
  | .nil => 1
  | .ptr d => uptoBulk d + 1
  | .slice elems spare => uptoBulkAll elems + uptoBulkAll spare + 1
  | .agg parts => uptoBulkAll parts + 1
  | .iface _ d => uptoBulk d + 1
  | .map entries => uptoBulkEntries entries + 1
  | .held _ => 1
def uptoBulkAll {H : Type} : List (DataW H) → Nat
  | [] => 0
  | d :: r => uptoBulk d + uptoBulkAll r
def uptoBulkEntries {H : Type} : List (Lit × DataW H) → Nat
  | [] => 0
  | x :: r => uptoBulkEntry x + uptoBulkEntries r
def uptoBulkEntry {H : Type} : Lit × DataW H → Nat
  | (.string bytes, d) => bytes.length + uptoBulk d + 1
  | (_, d) => uptoBulk d + 1
 end
def uptoSmall : (H : Type) → List (DataW H) → Bool := fun _ ds => decide (uptoBulkAll ds ≤ 1048576)
def OpenSpec.upto (s : _root_.Go.ChangeSpec) : _root_.Go.OpenSpec := { _root_.Go.OpenSpec.ofChange s with cond := some uptoSmall }

/-- 'laws.FnExactAggregate', WHERE WHAT IT READS IS OF BULK AT MOST 1048576: true; the input reads as it did. -/
def fnExactAggregateUptoRow : OpenClaim := { program := "ytmljhkoabhjiaaa", sum := "e067f7039d4fe45fbc55aa16d5d37876d8f711783328361d404a09d6c16e5289", func := "loop.example/queryoptimizer/laws.FnExactAggregate", spec := "fnExactAggregate", unfollowed := true, recurses := true, apart := false, narrowed := true }
def FnExactAggregateUptoSaid : Prop := fnExactAggregateUptoRow.holds Try.pinned (OpenSpec.upto fnExactAggregateSpec)

/-- 'laws.FnExactMergeAggregates', WHERE WHAT IT READS IS OF BULK AT MOST 1048576: true; the input reads as it did. -/
def fnExactMergeAggregatesUptoRow : OpenClaim := { program := "ytmljhkoabhjiaaa", sum := "e067f7039d4fe45fbc55aa16d5d37876d8f711783328361d404a09d6c16e5289", func := "loop.example/queryoptimizer/laws.FnExactMergeAggregates", spec := "fnExactMergeAggregates", unfollowed := true, recurses := true, apart := false, narrowed := true }
def FnExactMergeAggregatesUptoSaid : Prop := fnExactMergeAggregatesUptoRow.holds Try.pinned (OpenSpec.upto fnExactMergeAggregatesSpec)

/-- 'laws.FnAggregate', WHERE WHAT IT READS IS OF BULK AT MOST 1048576: true; the input reads as it did. -/
def fnAggregateUptoRow : OpenClaim := { program := "ytmljhkoabhjiaaa", sum := "e067f7039d4fe45fbc55aa16d5d37876d8f711783328361d404a09d6c16e5289", func := "loop.example/queryoptimizer/laws.FnAggregate", spec := "fnAggregate", unfollowed := true, recurses := true, apart := false, narrowed := true }
def FnAggregateUptoSaid : Prop := fnAggregateUptoRow.holds Try.pinned (OpenSpec.upto fnAggregateSpec)

/-- 'laws.FnAggregateBounds', WHERE WHAT IT READS IS OF BULK AT MOST 1048576: true; the input reads as it did. -/
def fnAggregateBoundsUptoRow : OpenClaim := { program := "ytmljhkoabhjiaaa", sum := "e067f7039d4fe45fbc55aa16d5d37876d8f711783328361d404a09d6c16e5289", func := "loop.example/queryoptimizer/laws.FnAggregateBounds", spec := "fnAggregateBounds", unfollowed := true, recurses := true, apart := false, narrowed := true }
def FnAggregateBoundsUptoSaid : Prop := fnAggregateBoundsUptoRow.holds Try.pinned (OpenSpec.upto fnAggregateBoundsSpec)

/-- 'laws.FnMergeAggregates', WHERE WHAT IT READS IS OF BULK AT MOST 1048576: true; the input reads as it did. -/
def fnMergeAggregatesUptoRow : OpenClaim := { program := "ytmljhkoabhjiaaa", sum := "e067f7039d4fe45fbc55aa16d5d37876d8f711783328361d404a09d6c16e5289", func := "loop.example/queryoptimizer/laws.FnMergeAggregates", spec := "fnMergeAggregates", unfollowed := true, recurses := true, apart := false, narrowed := true }
def FnMergeAggregatesUptoSaid : Prop := fnMergeAggregatesUptoRow.holds Try.pinned (OpenSpec.upto fnMergeAggregatesSpec)

/-- 'laws.FnMergeSymmetric', WHERE WHAT IT READS IS OF BULK AT MOST 1048576: true; the input reads as it did. -/
def fnMergeSymmetricUptoRow : OpenClaim := { program := "ytmljhkoabhjiaaa", sum := "e067f7039d4fe45fbc55aa16d5d37876d8f711783328361d404a09d6c16e5289", func := "loop.example/queryoptimizer/laws.FnMergeSymmetric", spec := "fnMergeSymmetric", unfollowed := true, recurses := true, apart := false, narrowed := true }
def FnMergeSymmetricUptoSaid : Prop := fnMergeSymmetricUptoRow.holds Try.pinned (OpenSpec.upto fnMergeSymmetricSpec)

/-- 'laws.FnOrderCovers', WHERE WHAT IT READS IS OF BULK AT MOST 1048576: true; the input reads as it did. -/
def fnOrderCoversUptoRow : OpenClaim := { program := "ytmljhkoabhjiaaa", sum := "e067f7039d4fe45fbc55aa16d5d37876d8f711783328361d404a09d6c16e5289", func := "loop.example/queryoptimizer/laws.FnOrderCovers", spec := "fnOrderCovers", unfollowed := true, recurses := true, apart := false, narrowed := true }
def FnOrderCoversUptoSaid : Prop := fnOrderCoversUptoRow.holds Try.pinned (OpenSpec.upto fnOrderCoversSpec)

/-- 'laws.FnTopRows', WHERE WHAT IT READS IS OF BULK AT MOST 1048576: true; the input reads as it did. -/
def fnTopRowsUptoRow : OpenClaim := { program := "ytmljhkoabhjiaaa", sum := "e067f7039d4fe45fbc55aa16d5d37876d8f711783328361d404a09d6c16e5289", func := "loop.example/queryoptimizer/laws.FnTopRows", spec := "fnTopRows", unfollowed := true, recurses := true, apart := false, narrowed := true }
def FnTopRowsUptoSaid : Prop := fnTopRowsUptoRow.holds Try.pinned (OpenSpec.upto fnTopRowsSpec)

/-- 'laws.FnExactTopRows', WHERE WHAT IT READS IS OF BULK AT MOST 1048576: true; the input reads as it did. -/
def fnExactTopRowsUptoRow : OpenClaim := { program := "ytmljhkoabhjiaaa", sum := "e067f7039d4fe45fbc55aa16d5d37876d8f711783328361d404a09d6c16e5289", func := "loop.example/queryoptimizer/laws.FnExactTopRows", spec := "fnExactTopRows", unfollowed := true, recurses := true, apart := false, narrowed := true }
def FnExactTopRowsUptoSaid : Prop := fnExactTopRowsUptoRow.holds Try.pinned (OpenSpec.upto fnExactTopRowsSpec)

/-- 'laws.FnExactSortRows', WHERE WHAT IT READS IS OF BULK AT MOST 1048576: true; the input reads as it did. -/
def fnExactSortRowsUptoRow : OpenClaim := { program := "ytmljhkoabhjiaaa", sum := "e067f7039d4fe45fbc55aa16d5d37876d8f711783328361d404a09d6c16e5289", func := "loop.example/queryoptimizer/laws.FnExactSortRows", spec := "fnExactSortRows", unfollowed := true, recurses := true, apart := false, narrowed := true }
def FnExactSortRowsUptoSaid : Prop := fnExactSortRowsUptoRow.holds Try.pinned (OpenSpec.upto fnExactSortRowsSpec)

/-- 'laws.FnSortRows', WHERE WHAT IT READS IS OF BULK AT MOST 1048576: true; the input reads as it did. -/
def fnSortRowsUptoRow : OpenClaim := { program := "ytmljhkoabhjiaaa", sum := "e067f7039d4fe45fbc55aa16d5d37876d8f711783328361d404a09d6c16e5289", func := "loop.example/queryoptimizer/laws.FnSortRows", spec := "fnSortRows", unfollowed := true, recurses := true, apart := false, narrowed := true }
def FnSortRowsUptoSaid : Prop := fnSortRowsUptoRow.holds Try.pinned (OpenSpec.upto fnSortRowsSpec)

/-- 'laws.FnIsSubtable', WHERE WHAT IT READS IS OF BULK AT MOST 1048576: true; the input reads as it did. -/
def fnIsSubtableUptoRow : OpenClaim := { program := "ytmljhkoabhjiaaa", sum := "e067f7039d4fe45fbc55aa16d5d37876d8f711783328361d404a09d6c16e5289", func := "loop.example/queryoptimizer/laws.FnIsSubtable", spec := "fnIsSubtable", unfollowed := true, recurses := true, apart := false, narrowed := true }
def FnIsSubtableUptoSaid : Prop := fnIsSubtableUptoRow.holds Try.pinned (OpenSpec.upto fnIsSubtableSpec)

end Rows
end Go.Proofs.Ytmljhkoabhjiaaa
