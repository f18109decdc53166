/-
  DERIVED. GIVEN WITH THE SEED: THE CARDS: each row of YtahehdgkbhjpoaaGreatDoorRows.lean that lists a variable, with what it lists TIED to the program's text (the seventh form; the later family's looks); each row that meets fmt, with fmt's text TOLD by the authors' own Lean function (tested against real Go, not proved from fmt's source: count such statements apart). THE CARD IS WHAT COUNTS. Prove the row's statement (the work); the ties are given (YtahehdgkbhjpoaaGreatDoorTie.lean); close each card by the builder's one call (the guide's Derived/Test/ToyasCard.lean, 'card_holds'). Laid BY PROGRAM, IN A SANDBOX (cutbox-door.mjs). By AI agents, Wed Nov 11 2026. No macro, syntax, notation, axiom, sorry.
-/
import Derived.Test.YtahehdgkbhjpoaaGreatDoorRows
import GoSem.ClaimSeven
namespace Go.Proofs.YtahehdgkbhjpoaaGreatDoor
namespace Rows

/-- THE TIED CARD OF 'laws.FnFillings'. -/
def fnFillingsCard : Claim7 := { stood := { row := fnFillingsRow, standIns := [], harness := (true, "b509c4158763fd24c38d25885cfc691dd41ec62bb032ddc22c7306c885f34e80"), looks := false }, kinds := [], alts := [], laidByText := true, laidKinds := [.data, .data, .data], laidTests := true, laidLooks := .later }
def FnFillingsCardSaid : Prop := Claim7.holds Tryz.pinned (.plain (OpenSpec.ofChange fnFillingsSpec)) fnFillingsCard

/-- THE SECOND FORM's CARD OF 'laws.FnFillings'. -/
def fnFillingsUptoCard : Claim7 := { stood := { row := fnFillingsUptoRow, standIns := [], harness := (true, "b509c4158763fd24c38d25885cfc691dd41ec62bb032ddc22c7306c885f34e80"), looks := false }, kinds := [], alts := [], laidByText := true, laidKinds := [.data, .data, .data], laidTests := true, laidLooks := .later }
def FnFillingsUptoCardSaid : Prop := Claim7.holds Tryz.pinned (.plain (OpenSpec.upto fnFillingsSpec)) fnFillingsUptoCard
end Rows
end Go.Proofs.YtahehdgkbhjpoaaGreatDoor
