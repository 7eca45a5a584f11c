/-
  DERIVED. GIVEN WITH THE SEED: THE CARDS: each row of YtmhlpjfijpomkaaGreatDoorRows.lean that lists a variable, with what it lists TIED to the program's text (the seventh form; the later family's looks); each row that meets fmt, with fmt's text TOLD by the authors' own Lean function (tested against real Go, not proved from fmt's source: count such statements apart). THE CARD IS WHAT COUNTS. Prove the row's statement (the work); the ties are given (YtmhlpjfijpomkaaGreatDoorTie.lean); close each card by the builder's one call (the guide's Derived/Test/ToyasCard.lean, 'card_holds'). Laid BY PROGRAM, IN A SANDBOX (cutbox-door.mjs). By AI agents, Wed Nov 11 2026. No macro, syntax, notation, axiom, sorry.
-/
import Derived.Test.YtmhlpjfijpomkaaGreatDoorRows
import GoSem.ClaimSeven
namespace Go.Proofs.YtmhlpjfijpomkaaGreatDoor
namespace Rows

/-- THE TIED CARD OF 'laws.FnExactDecodePlan'. -/
def fnExactDecodePlanCard : Claim7 := { stood := { row := fnExactDecodePlanRow, standIns := [], harness := (true, "f2cf36acbe916a5a0992a6001403908a9b2d7c10659152f80fc946ee52b40d87"), looks := true }, kinds := [], alts := [], laidByText := true, laidKinds := [.data, .data, .data, .sentinel, .sentinel], laidTests := true, laidLooks := .later }
def FnExactDecodePlanCardSaid : Prop := Claim7.holds Tryz.pinned (.plain (OpenSpec.ofChange fnExactDecodePlanSpec)) fnExactDecodePlanCard

end Rows
end Go.Proofs.YtmhlpjfijpomkaaGreatDoor
