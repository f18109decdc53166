/-
  DERIVED. GIVEN WITH THE SEED: THE CARDS: each row of YtgcdgcidjjdhmaaGreatDoorRows.lean that lists a variable, with what it lists TIED to the program's text (the seventh form; the later family's looks); each row that meets fmt, with fmt's text TOLD by the authors' own Lean function (tested against real Go, not proved from fmt's source: count such statements apart). THE CARD IS WHAT COUNTS. Prove the row's statement (the work); the ties are given (YtgcdgcidjjdhmaaGreatDoorTie.lean); close each card by the builder's one call (the guide's Derived/Test/ToyasCard.lean, 'card_holds'). Laid BY PROGRAM, IN A SANDBOX (cutbox-door.mjs). By AI agents, Wed Nov 11 2026. No macro, syntax, notation, axiom, sorry.
-/
import Derived.Test.YtgcdgcidjjdhmaaGreatDoorRows
import GoSem.ClaimSeven
namespace Go.Proofs.YtgcdgcidjjdhmaaGreatDoor
namespace Rows

/-- THE TIED CARD OF 'laws.FnAppliances'. -/
def fnAppliancesCard : Claim7 := { stood := { row := fnAppliancesRow, standIns := [], harness := (true, "4cc98a066d1bd0bc98b20bd217fab6fd116553d04c56d24bc2c487cc6ef67aad"), looks := true }, kinds := [], alts := [], laidByText := true, laidKinds := [.data, .data, .data, .data, .sentinel, .sentinel, .pinned], laidTests := true, laidLooks := .later }
def FnAppliancesCardSaid : Prop := Claim7.holds Tryz.pinned (.plain (OpenSpec.ofChange fnAppliancesSpec)) fnAppliancesCard

/-- THE SECOND FORM's CARD OF 'laws.FnAppliances'. -/
def fnAppliancesUptoCard : Claim7 := { stood := { row := fnAppliancesUptoRow, standIns := [], harness := (true, "4cc98a066d1bd0bc98b20bd217fab6fd116553d04c56d24bc2c487cc6ef67aad"), looks := true }, kinds := [], alts := [], laidByText := true, laidKinds := [.data, .data, .data, .data, .sentinel, .sentinel, .pinned], laidTests := true, laidLooks := .later }
def FnAppliancesUptoCardSaid : Prop := Claim7.holds Tryz.pinned (.plain (OpenSpec.upto fnAppliancesSpec)) fnAppliancesUptoCard
end Rows
end Go.Proofs.YtgcdgcidjjdhmaaGreatDoor
