/-
  DERIVED. GIVEN WITH THE SEED: THE CARDS: each row of YthgegghdkoeofaaGreatDoorRows.lean that lists a variable, with what it lists TIED to the program's text (the seventh form; the later family's looks); each row that meets fmt, with fmt's text TOLD by the authors' own Lean function (tested against real Go, not proved from fmt's source: count such statements apart). THE CARD IS WHAT COUNTS. Prove the row's statement (the work); the ties are given (YthgegghdkoeofaaGreatDoorTie.lean); close each card by the builder's one call (the guide's Derived/Test/ToyasCard.lean, 'card_holds'). Laid BY PROGRAM, IN A SANDBOX (cutbox-door.mjs). By AI agents, Wed Nov 11 2026. No macro, syntax, notation, axiom, sorry.
-/
import Derived.Test.YthgegghdkoeofaaGreatDoorRows
import GoSem.ClaimSeven
namespace Go.Proofs.YthgegghdkoeofaaGreatDoor
namespace Rows

/-- THE TIED CARD OF 'laws.FnAppliances'. -/
def fnAppliancesCard : Claim7 := { stood := { row := fnAppliancesRow, standIns := [], harness := (true, "f41f2f2c6166569e6b27909773d464513d99209cbde5924a61d2768dd8e6cc1f"), looks := true }, kinds := [], alts := [], laidByText := true, laidKinds := [.data, .data, .data, .data, .sentinel, .sentinel, .pinned], laidTests := true, laidLooks := .later }
def FnAppliancesCardSaid : Prop := Claim7.holds Tryz.pinned (.plain (OpenSpec.ofChange fnAppliancesSpec)) fnAppliancesCard

/-- THE TIED CARD OF 'laws.FnSending'. -/
def fnSendingCard : Claim7 := { stood := { row := fnSendingRow, standIns := [], harness := (true, "f41f2f2c6166569e6b27909773d464513d99209cbde5924a61d2768dd8e6cc1f"), looks := true }, kinds := [], alts := [], laidByText := true, laidKinds := [.data, .data, .data], laidTests := true, laidLooks := .later }
def FnSendingCardSaid : Prop := Claim7.holds Tryz.pinned (.plain (OpenSpec.ofChange fnSendingSpec)) fnSendingCard

/-- THE SECOND FORM's CARD OF 'laws.FnAppliances'. -/
def fnAppliancesUptoCard : Claim7 := { stood := { row := fnAppliancesUptoRow, standIns := [], harness := (true, "f41f2f2c6166569e6b27909773d464513d99209cbde5924a61d2768dd8e6cc1f"), looks := true }, kinds := [], alts := [], laidByText := true, laidKinds := [.data, .data, .data, .data, .sentinel, .sentinel, .pinned], laidTests := true, laidLooks := .later }
def FnAppliancesUptoCardSaid : Prop := Claim7.holds Tryz.pinned (.plain (OpenSpec.upto fnAppliancesSpec)) fnAppliancesUptoCard

/-- THE SECOND FORM's CARD OF 'laws.FnSending'. -/
def fnSendingUptoCard : Claim7 := { stood := { row := fnSendingUptoRow, standIns := [], harness := (true, "f41f2f2c6166569e6b27909773d464513d99209cbde5924a61d2768dd8e6cc1f"), looks := true }, kinds := [], alts := [], laidByText := true, laidKinds := [.data, .data, .data], laidTests := true, laidLooks := .later }
def FnSendingUptoCardSaid : Prop := Claim7.holds Tryz.pinned (.plain (OpenSpec.upto fnSendingSpec)) fnSendingUptoCard
end Rows
end Go.Proofs.YthgegghdkoeofaaGreatDoor
