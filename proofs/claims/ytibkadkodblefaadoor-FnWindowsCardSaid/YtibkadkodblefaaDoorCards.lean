/-
  DERIVED. GIVEN WITH THE SEED: THE CARDS: each row of YtibkadkodblefaaDoorRows.lean that lists a variable, with what it lists TIED to the program's text (the seventh form; the later family's looks); each row that meets fmt, with fmt's text TOLD by the authors' own Lean function (tested against real Go, not proved from fmt's source: count such statements apart). THE CARD IS WHAT COUNTS. Prove the row's statement (the work); the ties are given (YtibkadkodblefaaDoorTie.lean); close each card by the builder's one call (the guide's Derived/Test/ToyasCard.lean, 'card_holds'). Laid BY PROGRAM, IN A SANDBOX (cutbox-door.mjs). By AI agents, Wed Nov 11 2026. No macro, syntax, notation, axiom, sorry.
-/
import Derived.Test.YtibkadkodblefaaDoorRows
import GoSem.ClaimSeven
namespace Go.Proofs.YtibkadkodblefaaDoor
namespace Rows

/-- THE TIED CARD OF 'laws.FnExactSineTable'. -/
def fnExactSineTableCard : Claim7 := { stood := { row := fnExactSineTableRow, standIns := [], harness := (true, "cabc23d0b28cdce2144182d8171dfc0141b7e34042b28d5ac29f5a8c53ce36b0"), looks := false }, kinds := [], alts := [], laidByText := true, laidKinds := [.data, .data, .data], laidTests := true, laidLooks := .later }
def FnExactSineTableCardSaid : Prop := Claim7.holds Tryd.pinned (.plain (OpenSpec.ofChange fnExactSineTableSpec)) fnExactSineTableCard

/-- THE TIED CARD OF 'laws.FnExactTipOf'. -/
def fnExactTipOfCard : Claim7 := { stood := { row := fnExactTipOfRow, standIns := [], harness := (true, "cabc23d0b28cdce2144182d8171dfc0141b7e34042b28d5ac29f5a8c53ce36b0"), looks := false }, kinds := [], alts := [], laidByText := true, laidKinds := [.data, .data, .data], laidTests := true, laidLooks := .later }
def FnExactTipOfCardSaid : Prop := Claim7.holds Tryd.pinned (.plain (OpenSpec.ofChange fnExactTipOfSpec)) fnExactTipOfCard

/-- THE TIED CARD OF 'laws.FnExactFarthestFor'. -/
def fnExactFarthestForCard : Claim7 := { stood := { row := fnExactFarthestForRow, standIns := [], harness := (true, "cabc23d0b28cdce2144182d8171dfc0141b7e34042b28d5ac29f5a8c53ce36b0"), looks := false }, kinds := [], alts := [], laidByText := true, laidKinds := [.data, .data, .data], laidTests := true, laidLooks := .later }
def FnExactFarthestForCardSaid : Prop := Claim7.holds Tryd.pinned (.plain (OpenSpec.ofChange fnExactFarthestForSpec)) fnExactFarthestForCard

/-- THE TIED CARD OF 'laws.FnExactHighestAt'. -/
def fnExactHighestAtCard : Claim7 := { stood := { row := fnExactHighestAtRow, standIns := [], harness := (true, "cabc23d0b28cdce2144182d8171dfc0141b7e34042b28d5ac29f5a8c53ce36b0"), looks := false }, kinds := [], alts := [], laidByText := true, laidKinds := [.data, .data, .data], laidTests := true, laidLooks := .later }
def FnExactHighestAtCardSaid : Prop := Claim7.holds Tryd.pinned (.plain (OpenSpec.ofChange fnExactHighestAtSpec)) fnExactHighestAtCard

/-- THE TIED CARD OF 'laws.FnExactCanReach'. -/
def fnExactCanReachCard : Claim7 := { stood := { row := fnExactCanReachRow, standIns := [], harness := (true, "cabc23d0b28cdce2144182d8171dfc0141b7e34042b28d5ac29f5a8c53ce36b0"), looks := false }, kinds := [], alts := [], laidByText := true, laidKinds := [.data, .data, .data], laidTests := true, laidLooks := .later }
def FnExactCanReachCardSaid : Prop := Claim7.holds Tryd.pinned (.plain (OpenSpec.ofChange fnExactCanReachSpec)) fnExactCanReachCard

/-- THE TIED CARD OF 'laws.FnExactAngleFor'. -/
def fnExactAngleForCard : Claim7 := { stood := { row := fnExactAngleForRow, standIns := [], harness := (true, "cabc23d0b28cdce2144182d8171dfc0141b7e34042b28d5ac29f5a8c53ce36b0"), looks := false }, kinds := [], alts := [], laidByText := true, laidKinds := [.data, .data, .data], laidTests := true, laidLooks := .later }
def FnExactAngleForCardSaid : Prop := Claim7.holds Tryd.pinned (.plain (OpenSpec.ofChange fnExactAngleForSpec)) fnExactAngleForCard

/-- THE TIED CARD OF 'laws.FnExactReachedFrom'. -/
def fnExactReachedFromCard : Claim7 := { stood := { row := fnExactReachedFromRow, standIns := [], harness := (true, "cabc23d0b28cdce2144182d8171dfc0141b7e34042b28d5ac29f5a8c53ce36b0"), looks := false }, kinds := [], alts := [], laidByText := true, laidKinds := [.data, .data, .data], laidTests := true, laidLooks := .later }
def FnExactReachedFromCardSaid : Prop := Claim7.holds Tryd.pinned (.plain (OpenSpec.ofChange fnExactReachedFromSpec)) fnExactReachedFromCard

/-- THE TIED CARD OF 'laws.FnExactBestPlace'. -/
def fnExactBestPlaceCard : Claim7 := { stood := { row := fnExactBestPlaceRow, standIns := [], harness := (true, "cabc23d0b28cdce2144182d8171dfc0141b7e34042b28d5ac29f5a8c53ce36b0"), looks := false }, kinds := [], alts := [], laidByText := true, laidKinds := [.data, .data, .data], laidTests := true, laidLooks := .later }
def FnExactBestPlaceCardSaid : Prop := Claim7.holds Tryd.pinned (.plain (OpenSpec.ofChange fnExactBestPlaceSpec)) fnExactBestPlaceCard

/-- THE TIED CARD OF 'laws.FnLadders'. -/
def fnLaddersCard : Claim7 := { stood := { row := fnLaddersRow, standIns := [], harness := (true, "cabc23d0b28cdce2144182d8171dfc0141b7e34042b28d5ac29f5a8c53ce36b0"), looks := false }, kinds := [], alts := [], laidByText := true, laidKinds := [.data, .data, .data], laidTests := true, laidLooks := .later }
def FnLaddersCardSaid : Prop := Claim7.holds Tryd.pinned (.plain (OpenSpec.ofChange fnLaddersSpec)) fnLaddersCard

/-- THE TIED CARD OF 'laws.FnExactFewestPlaces'. -/
def fnExactFewestPlacesCard : Claim7 := { stood := { row := fnExactFewestPlacesRow, standIns := [], harness := (true, "cabc23d0b28cdce2144182d8171dfc0141b7e34042b28d5ac29f5a8c53ce36b0"), looks := false }, kinds := [], alts := [], laidByText := true, laidKinds := [.data, .data, .data], laidTests := true, laidLooks := .later }
def FnExactFewestPlacesCardSaid : Prop := Claim7.holds Tryd.pinned (.plain (OpenSpec.ofChange fnExactFewestPlacesSpec)) fnExactFewestPlacesCard

/-- THE TIED CARD OF 'laws.FnWindows'. -/
def fnWindowsCard : Claim7 := { stood := { row := fnWindowsRow, standIns := [], harness := (true, "cabc23d0b28cdce2144182d8171dfc0141b7e34042b28d5ac29f5a8c53ce36b0"), looks := false }, kinds := [], alts := [], laidByText := true, laidKinds := [.data, .data, .data], laidTests := true, laidLooks := .later }
def FnWindowsCardSaid : Prop := Claim7.holds Tryd.pinned (.plain (OpenSpec.ofChange fnWindowsSpec)) fnWindowsCard

/-- THE SECOND FORM's CARD OF 'laws.FnExactSineTable'. -/
def fnExactSineTableUptoCard : Claim7 := { stood := { row := fnExactSineTableUptoRow, standIns := [], harness := (true, "cabc23d0b28cdce2144182d8171dfc0141b7e34042b28d5ac29f5a8c53ce36b0"), looks := false }, kinds := [], alts := [], laidByText := true, laidKinds := [.data, .data, .data], laidTests := true, laidLooks := .later }
def FnExactSineTableUptoCardSaid : Prop := Claim7.holds Tryd.pinned (.plain (OpenSpec.upto fnExactSineTableSpec)) fnExactSineTableUptoCard

/-- THE SECOND FORM's CARD OF 'laws.FnExactTipOf'. -/
def fnExactTipOfUptoCard : Claim7 := { stood := { row := fnExactTipOfUptoRow, standIns := [], harness := (true, "cabc23d0b28cdce2144182d8171dfc0141b7e34042b28d5ac29f5a8c53ce36b0"), looks := false }, kinds := [], alts := [], laidByText := true, laidKinds := [.data, .data, .data], laidTests := true, laidLooks := .later }
def FnExactTipOfUptoCardSaid : Prop := Claim7.holds Tryd.pinned (.plain (OpenSpec.upto fnExactTipOfSpec)) fnExactTipOfUptoCard

/-- THE SECOND FORM's CARD OF 'laws.FnExactFarthestFor'. -/
def fnExactFarthestForUptoCard : Claim7 := { stood := { row := fnExactFarthestForUptoRow, standIns := [], harness := (true, "cabc23d0b28cdce2144182d8171dfc0141b7e34042b28d5ac29f5a8c53ce36b0"), looks := false }, kinds := [], alts := [], laidByText := true, laidKinds := [.data, .data, .data], laidTests := true, laidLooks := .later }
def FnExactFarthestForUptoCardSaid : Prop := Claim7.holds Tryd.pinned (.plain (OpenSpec.upto fnExactFarthestForSpec)) fnExactFarthestForUptoCard

/-- THE SECOND FORM's CARD OF 'laws.FnExactHighestAt'. -/
def fnExactHighestAtUptoCard : Claim7 := { stood := { row := fnExactHighestAtUptoRow, standIns := [], harness := (true, "cabc23d0b28cdce2144182d8171dfc0141b7e34042b28d5ac29f5a8c53ce36b0"), looks := false }, kinds := [], alts := [], laidByText := true, laidKinds := [.data, .data, .data], laidTests := true, laidLooks := .later }
def FnExactHighestAtUptoCardSaid : Prop := Claim7.holds Tryd.pinned (.plain (OpenSpec.upto fnExactHighestAtSpec)) fnExactHighestAtUptoCard

/-- THE SECOND FORM's CARD OF 'laws.FnExactCanReach'. -/
def fnExactCanReachUptoCard : Claim7 := { stood := { row := fnExactCanReachUptoRow, standIns := [], harness := (true, "cabc23d0b28cdce2144182d8171dfc0141b7e34042b28d5ac29f5a8c53ce36b0"), looks := false }, kinds := [], alts := [], laidByText := true, laidKinds := [.data, .data, .data], laidTests := true, laidLooks := .later }
def FnExactCanReachUptoCardSaid : Prop := Claim7.holds Tryd.pinned (.plain (OpenSpec.upto fnExactCanReachSpec)) fnExactCanReachUptoCard

/-- THE SECOND FORM's CARD OF 'laws.FnExactAngleFor'. -/
def fnExactAngleForUptoCard : Claim7 := { stood := { row := fnExactAngleForUptoRow, standIns := [], harness := (true, "cabc23d0b28cdce2144182d8171dfc0141b7e34042b28d5ac29f5a8c53ce36b0"), looks := false }, kinds := [], alts := [], laidByText := true, laidKinds := [.data, .data, .data], laidTests := true, laidLooks := .later }
def FnExactAngleForUptoCardSaid : Prop := Claim7.holds Tryd.pinned (.plain (OpenSpec.upto fnExactAngleForSpec)) fnExactAngleForUptoCard

/-- THE SECOND FORM's CARD OF 'laws.FnExactReachedFrom'. -/
def fnExactReachedFromUptoCard : Claim7 := { stood := { row := fnExactReachedFromUptoRow, standIns := [], harness := (true, "cabc23d0b28cdce2144182d8171dfc0141b7e34042b28d5ac29f5a8c53ce36b0"), looks := false }, kinds := [], alts := [], laidByText := true, laidKinds := [.data, .data, .data], laidTests := true, laidLooks := .later }
def FnExactReachedFromUptoCardSaid : Prop := Claim7.holds Tryd.pinned (.plain (OpenSpec.upto fnExactReachedFromSpec)) fnExactReachedFromUptoCard

/-- THE SECOND FORM's CARD OF 'laws.FnExactBestPlace'. -/
def fnExactBestPlaceUptoCard : Claim7 := { stood := { row := fnExactBestPlaceUptoRow, standIns := [], harness := (true, "cabc23d0b28cdce2144182d8171dfc0141b7e34042b28d5ac29f5a8c53ce36b0"), looks := false }, kinds := [], alts := [], laidByText := true, laidKinds := [.data, .data, .data], laidTests := true, laidLooks := .later }
def FnExactBestPlaceUptoCardSaid : Prop := Claim7.holds Tryd.pinned (.plain (OpenSpec.upto fnExactBestPlaceSpec)) fnExactBestPlaceUptoCard

/-- THE SECOND FORM's CARD OF 'laws.FnLadders'. -/
def fnLaddersUptoCard : Claim7 := { stood := { row := fnLaddersUptoRow, standIns := [], harness := (true, "cabc23d0b28cdce2144182d8171dfc0141b7e34042b28d5ac29f5a8c53ce36b0"), looks := false }, kinds := [], alts := [], laidByText := true, laidKinds := [.data, .data, .data], laidTests := true, laidLooks := .later }
def FnLaddersUptoCardSaid : Prop := Claim7.holds Tryd.pinned (.plain (OpenSpec.upto fnLaddersSpec)) fnLaddersUptoCard

/-- THE SECOND FORM's CARD OF 'laws.FnExactFewestPlaces'. -/
def fnExactFewestPlacesUptoCard : Claim7 := { stood := { row := fnExactFewestPlacesUptoRow, standIns := [], harness := (true, "cabc23d0b28cdce2144182d8171dfc0141b7e34042b28d5ac29f5a8c53ce36b0"), looks := false }, kinds := [], alts := [], laidByText := true, laidKinds := [.data, .data, .data], laidTests := true, laidLooks := .later }
def FnExactFewestPlacesUptoCardSaid : Prop := Claim7.holds Tryd.pinned (.plain (OpenSpec.upto fnExactFewestPlacesSpec)) fnExactFewestPlacesUptoCard

/-- THE SECOND FORM's CARD OF 'laws.FnWindows'. -/
def fnWindowsUptoCard : Claim7 := { stood := { row := fnWindowsUptoRow, standIns := [], harness := (true, "cabc23d0b28cdce2144182d8171dfc0141b7e34042b28d5ac29f5a8c53ce36b0"), looks := false }, kinds := [], alts := [], laidByText := true, laidKinds := [.data, .data, .data], laidTests := true, laidLooks := .later }
def FnWindowsUptoCardSaid : Prop := Claim7.holds Tryd.pinned (.plain (OpenSpec.upto fnWindowsSpec)) fnWindowsUptoCard
end Rows
end Go.Proofs.YtibkadkodblefaaDoor
