/-
  DERIVED. GIVEN WITH THE SEED: THE CARDS: each row of YtddccjdppbcnbaaDoorRows.lean that lists a variable, with what it lists TIED to the program's text (the seventh form; the later family's looks); each row that meets fmt, with fmt's text TOLD by the authors' own Lean function (tested against real Go, not proved from fmt's source: count such statements apart). THE CARD IS WHAT COUNTS. Prove the row's statement (the work); the ties are given (YtddccjdppbcnbaaDoorTie.lean); close each card by the builder's one call (the guide's Derived/Test/ToyasCard.lean, 'card_holds'). Laid BY PROGRAM, IN A SANDBOX (cutbox-door.mjs). By AI agents, Wed Nov 11 2026. No macro, syntax, notation, axiom, sorry.
-/
import Derived.Test.YtddccjdppbcnbaaDoorRows
import GoSem.ClaimSeven
namespace Go.Proofs.YtddccjdppbcnbaaDoor
namespace Rows

/-- THE TIED CARD OF 'laws.FnExactChoiceText'. -/
def fnExactChoiceTextCard : Claim7 := { stood := { row := fnExactChoiceTextRow, standIns := [], harness := (true, "759ceb1e70c2d1d722e6cdfb5d95ea47cafa079af0620f7f97ad779c2a5c6379"), looks := false }, kinds := [], alts := [], laidByText := true, laidKinds := [.data, .data, .data], laidTests := true, laidLooks := .later }
def FnExactChoiceTextCardSaid : Prop := Claim7.holds Tryd.pinned (.plain (OpenSpec.ofChange fnExactChoiceTextSpec)) fnExactChoiceTextCard

/-- THE SECOND FORM's CARD OF 'laws.FnExactChoiceText'. -/
def fnExactChoiceTextUptoCard : Claim7 := { stood := { row := fnExactChoiceTextUptoRow, standIns := [], harness := (true, "759ceb1e70c2d1d722e6cdfb5d95ea47cafa079af0620f7f97ad779c2a5c6379"), looks := false }, kinds := [], alts := [], laidByText := true, laidKinds := [.data, .data, .data], laidTests := true, laidLooks := .later }
def FnExactChoiceTextUptoCardSaid : Prop := Claim7.holds Tryd.pinned (.plain (OpenSpec.upto fnExactChoiceTextSpec)) fnExactChoiceTextUptoCard
end Rows
end Go.Proofs.YtddccjdppbcnbaaDoor
