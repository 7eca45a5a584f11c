/-
  DERIVED. GIVEN WITH THE SEED: THE CARDS: each row of YtmhlpjfijpomkaaDoorRows.lean that lists a variable, with what it lists TIED to the program's text (the seventh form; the later family's looks); each row that meets fmt, with fmt's text TOLD by the authors' own Lean function (tested against real Go, not proved from fmt's source: count such statements apart). THE CARD IS WHAT COUNTS. Prove the row's statement (the work); the ties are given (YtmhlpjfijpomkaaDoorTie.lean); close each card by the builder's one call (the guide's Derived/Test/ToyasCard.lean, 'card_holds'). Laid BY PROGRAM, IN A SANDBOX (cutbox-door.mjs). By AI agents, Wed Nov 11 2026. No macro, syntax, notation, axiom, sorry.
-/
import Derived.Test.YtmhlpjfijpomkaaDoorRows
import GoSem.ClaimSeven
namespace Go.Proofs.YtmhlpjfijpomkaaDoor
namespace Rows

/-- THE TIED CARD OF 'laws.FnExactEncodeExpr'. -/
def fnExactEncodeExprCard : Claim7 := { stood := { row := fnExactEncodeExprRow, standIns := [], harness := (true, "37cc3cb056cd60f422675197e9c65cfa9eb7522200445b0686829c3554b22187"), looks := true }, kinds := [], alts := [], laidByText := true, laidKinds := [.data, .data, .data], laidTests := true, laidLooks := .later }
def FnExactEncodeExprCardSaid : Prop := Claim7.holds Tryd.pinned (.plain (OpenSpec.ofChange fnExactEncodeExprSpec)) fnExactEncodeExprCard

/-- THE TIED CARD OF 'laws.FnExactEncodePlan'. -/
def fnExactEncodePlanCard : Claim7 := { stood := { row := fnExactEncodePlanRow, standIns := [], harness := (true, "37cc3cb056cd60f422675197e9c65cfa9eb7522200445b0686829c3554b22187"), looks := true }, kinds := [], alts := [], laidByText := true, laidKinds := [.data, .data, .data], laidTests := true, laidLooks := .later }
def FnExactEncodePlanCardSaid : Prop := Claim7.holds Tryd.pinned (.plain (OpenSpec.ofChange fnExactEncodePlanSpec)) fnExactEncodePlanCard

/-- THE TIED CARD OF 'laws.FnExactDecodeExpr'. -/
def fnExactDecodeExprCard : Claim7 := { stood := { row := fnExactDecodeExprRow, standIns := [], harness := (true, "37cc3cb056cd60f422675197e9c65cfa9eb7522200445b0686829c3554b22187"), looks := true }, kinds := [], alts := [], laidByText := true, laidKinds := [.data, .data, .data, .sentinel, .sentinel], laidTests := true, laidLooks := .later }
def FnExactDecodeExprCardSaid : Prop := Claim7.holds Tryd.pinned (.plain (OpenSpec.ofChange fnExactDecodeExprSpec)) fnExactDecodeExprCard

/-- THE TIED CARD OF 'laws.FnExprRoundTrip'. -/
def fnExprRoundTripCard : Claim7 := { stood := { row := fnExprRoundTripRow, standIns := [], harness := (true, "37cc3cb056cd60f422675197e9c65cfa9eb7522200445b0686829c3554b22187"), looks := true }, kinds := [], alts := [], laidByText := true, laidKinds := [.data, .data, .data, .sentinel, .sentinel], laidTests := true, laidLooks := .later }
def FnExprRoundTripCardSaid : Prop := Claim7.holds Tryd.pinned (.plain (OpenSpec.ofChange fnExprRoundTripSpec)) fnExprRoundTripCard

/-- THE SECOND FORM's CARD OF 'laws.FnExactEncodeExpr'. -/
def fnExactEncodeExprUptoCard : Claim7 := { stood := { row := fnExactEncodeExprUptoRow, standIns := [], harness := (true, "37cc3cb056cd60f422675197e9c65cfa9eb7522200445b0686829c3554b22187"), looks := true }, kinds := [], alts := [], laidByText := true, laidKinds := [.data, .data, .data], laidTests := true, laidLooks := .later }
def FnExactEncodeExprUptoCardSaid : Prop := Claim7.holds Tryd.pinned (.plain (OpenSpec.upto fnExactEncodeExprSpec)) fnExactEncodeExprUptoCard

/-- THE SECOND FORM's CARD OF 'laws.FnExactEncodePlan'. -/
def fnExactEncodePlanUptoCard : Claim7 := { stood := { row := fnExactEncodePlanUptoRow, standIns := [], harness := (true, "37cc3cb056cd60f422675197e9c65cfa9eb7522200445b0686829c3554b22187"), looks := true }, kinds := [], alts := [], laidByText := true, laidKinds := [.data, .data, .data], laidTests := true, laidLooks := .later }
def FnExactEncodePlanUptoCardSaid : Prop := Claim7.holds Tryd.pinned (.plain (OpenSpec.upto fnExactEncodePlanSpec)) fnExactEncodePlanUptoCard

/-- THE SECOND FORM's CARD OF 'laws.FnExactDecodeExpr'. -/
def fnExactDecodeExprUptoCard : Claim7 := { stood := { row := fnExactDecodeExprUptoRow, standIns := [], harness := (true, "37cc3cb056cd60f422675197e9c65cfa9eb7522200445b0686829c3554b22187"), looks := true }, kinds := [], alts := [], laidByText := true, laidKinds := [.data, .data, .data, .sentinel, .sentinel], laidTests := true, laidLooks := .later }
def FnExactDecodeExprUptoCardSaid : Prop := Claim7.holds Tryd.pinned (.plain (OpenSpec.upto fnExactDecodeExprSpec)) fnExactDecodeExprUptoCard

/-- THE SECOND FORM's CARD OF 'laws.FnExprRoundTrip'. -/
def fnExprRoundTripUptoCard : Claim7 := { stood := { row := fnExprRoundTripUptoRow, standIns := [], harness := (true, "37cc3cb056cd60f422675197e9c65cfa9eb7522200445b0686829c3554b22187"), looks := true }, kinds := [], alts := [], laidByText := true, laidKinds := [.data, .data, .data, .sentinel, .sentinel], laidTests := true, laidLooks := .later }
def FnExprRoundTripUptoCardSaid : Prop := Claim7.holds Tryd.pinned (.plain (OpenSpec.upto fnExprRoundTripSpec)) fnExprRoundTripUptoCard
end Rows
end Go.Proofs.YtmhlpjfijpomkaaDoor
