/-
  No cell of these rows narrows 'for every input' (looked for: loops, veiled, ifaces, maps, wideKeys, modest, calm, conditions, laid).
  DERIVED. THE GIVEN ROWS OF THIS SEAT. 8 by the template 'for every input the law returns true; each argument reads behind the call as it read before'; 0 by the template 'total and deterministic' (their statements: YtgdigcnpjkkmfaaTotals.lean).
  GIVEN WITH THE SEED: the statements are not yours to turn. If you find one false, say at which input.
  Laid BY PROGRAM, IN A SANDBOX (cutbox-rows.mjs): the forced cells as the released guide's own fill.sh prints them over the translation 96992ac8ef8bd199… (all of the seat's roots in one cut). By AI agents, Wed Nov 11 2026. No macro, syntax, notation, axiom, sorry.
-/
import Derived.Test.YtgdigcnpjkkmfaaChecked
import GoSem.Claim
import GoSem.ClaimJoined
import GoSem.ClaimMapViews
import Derived.JoinedTies
import Derived.KernelRfl
namespace Go.Proofs.Ytgdigcnpjkkmfaa
/- THE CELL 'sum', in the pinned program and in every row, IS THE sha256 OF THE DUMP (.gsa) THAT YtgdigcnpjkkmfaaProg.lean LOADS. Nothing in Lean hashes anything: it is a label: what it is worth is what the hold of that sum in a sandbox is worth. -/
noncomputable def Try.pinned : Pinned := { name := "ytgdigcnpjkkmfaa", sum := "96992ac8ef8bd199a5c6d3721ed2435dbbb2cc9febd52481bf9cbe518f946bcc", checked := Try.checked }
namespace Rows
def none {H : Type} : Left H := { results := [], args := [] }

/-- 'laws.FnExactSlowestMove': WHATEVER THE INPUT: true; the input reads as it did. -/
def fnExactSlowestMoveSpec : ChangeSpec := { name := "fnExactSlowestMove", fn := fun _ => fun
  | [d1, d2, d3, d4] => { results := [.lit (.bool true)], args := [d1, d2, d3, d4] }
  | _ => none }
def fnExactSlowestMoveRow : OpenClaim := { program := "ytgdigcnpjkkmfaa", sum := "96992ac8ef8bd199a5c6d3721ed2435dbbb2cc9febd52481bf9cbe518f946bcc", func := "loop.example/g01020/laws.FnExactSlowestMove", spec := "fnExactSlowestMove", unfollowed := true, recurses := true, apart := false }
def FnExactSlowestMoveSaid : Prop := fnExactSlowestMoveRow.holds Try.pinned (OpenSpec.ofChange fnExactSlowestMoveSpec)

/-- ITS FALSE NEIGHBOUR: 'it returns false'. Refute it at one input. -/
def fnExactSlowestMoveWrong : ChangeSpec := { name := "fnExactSlowestMove", fn := fun _ => fun
  | [d1, d2, d3, d4] => { results := [.lit (.bool false)], args := [d1, d2, d3, d4] }
  | _ => none }
def FnExactSlowestMoveWrongFalsely : Prop := fnExactSlowestMoveRow.holds Try.pinned (OpenSpec.ofChange fnExactSlowestMoveWrong)

/-- 'laws.FnExactMostFilled': WHATEVER THE INPUT: true; the input reads as it did. -/
def fnExactMostFilledSpec : ChangeSpec := { name := "fnExactMostFilled", fn := fun _ => fun
  | [d1, d2, d3, d4] => { results := [.lit (.bool true)], args := [d1, d2, d3, d4] }
  | _ => none }
def fnExactMostFilledRow : OpenClaim := { program := "ytgdigcnpjkkmfaa", sum := "96992ac8ef8bd199a5c6d3721ed2435dbbb2cc9febd52481bf9cbe518f946bcc", func := "loop.example/g01020/laws.FnExactMostFilled", spec := "fnExactMostFilled", unfollowed := true, recurses := true, apart := false }
def FnExactMostFilledSaid : Prop := fnExactMostFilledRow.holds Try.pinned (OpenSpec.ofChange fnExactMostFilledSpec)

/-- ITS FALSE NEIGHBOUR: 'it returns false'. Refute it at one input. -/
def fnExactMostFilledWrong : ChangeSpec := { name := "fnExactMostFilled", fn := fun _ => fun
  | [d1, d2, d3, d4] => { results := [.lit (.bool false)], args := [d1, d2, d3, d4] }
  | _ => none }
def FnExactMostFilledWrongFalsely : Prop := fnExactMostFilledRow.holds Try.pinned (OpenSpec.ofChange fnExactMostFilledWrong)

/-- 'laws.FnExactReachTable': WHATEVER THE INPUT: true; the input reads as it did. -/
def fnExactReachTableSpec : ChangeSpec := { name := "fnExactReachTable", fn := fun _ => fun
  | [d1, d2, d3, d4] => { results := [.lit (.bool true)], args := [d1, d2, d3, d4] }
  | _ => none }
def fnExactReachTableRow : OpenClaim := { program := "ytgdigcnpjkkmfaa", sum := "96992ac8ef8bd199a5c6d3721ed2435dbbb2cc9febd52481bf9cbe518f946bcc", func := "loop.example/g01020/laws.FnExactReachTable", spec := "fnExactReachTable", unfollowed := true, recurses := true, apart := false }
def FnExactReachTableSaid : Prop := fnExactReachTableRow.holds Try.pinned (OpenSpec.ofChange fnExactReachTableSpec)

/-- ITS FALSE NEIGHBOUR: 'it returns false'. Refute it at one input. -/
def fnExactReachTableWrong : ChangeSpec := { name := "fnExactReachTable", fn := fun _ => fun
  | [d1, d2, d3, d4] => { results := [.lit (.bool false)], args := [d1, d2, d3, d4] }
  | _ => none }
def FnExactReachTableWrongFalsely : Prop := fnExactReachTableRow.holds Try.pinned (OpenSpec.ofChange fnExactReachTableWrong)

/-- 'laws.FnExactIsFilling': WHATEVER THE INPUT: true; the input reads as it did. -/
def fnExactIsFillingSpec : ChangeSpec := { name := "fnExactIsFilling", fn := fun _ => fun
  | [d1, d2, d3, d4, d5] => { results := [.lit (.bool true)], args := [d1, d2, d3, d4, d5] }
  | _ => none }
def fnExactIsFillingRow : OpenClaim := { program := "ytgdigcnpjkkmfaa", sum := "96992ac8ef8bd199a5c6d3721ed2435dbbb2cc9febd52481bf9cbe518f946bcc", func := "loop.example/g01020/laws.FnExactIsFilling", spec := "fnExactIsFilling", unfollowed := true, recurses := true, apart := false }
def FnExactIsFillingSaid : Prop := fnExactIsFillingRow.holds Try.pinned (OpenSpec.ofChange fnExactIsFillingSpec)

/-- ITS FALSE NEIGHBOUR: 'it returns false'. Refute it at one input. -/
def fnExactIsFillingWrong : ChangeSpec := { name := "fnExactIsFilling", fn := fun _ => fun
  | [d1, d2, d3, d4, d5] => { results := [.lit (.bool false)], args := [d1, d2, d3, d4, d5] }
  | _ => none }
def FnExactIsFillingWrongFalsely : Prop := fnExactIsFillingRow.holds Try.pinned (OpenSpec.ofChange fnExactIsFillingWrong)

/-- 'laws.FnExactBlockedStations': WHATEVER THE INPUT: true; the input reads as it did. -/
def fnExactBlockedStationsSpec : ChangeSpec := { name := "fnExactBlockedStations", fn := fun _ => fun
  | [d1, d2, d3, d4] => { results := [.lit (.bool true)], args := [d1, d2, d3, d4] }
  | _ => none }
def fnExactBlockedStationsRow : OpenClaim := { program := "ytgdigcnpjkkmfaa", sum := "96992ac8ef8bd199a5c6d3721ed2435dbbb2cc9febd52481bf9cbe518f946bcc", func := "loop.example/g01020/laws.FnExactBlockedStations", spec := "fnExactBlockedStations", unfollowed := true, recurses := true, apart := false }
def FnExactBlockedStationsSaid : Prop := fnExactBlockedStationsRow.holds Try.pinned (OpenSpec.ofChange fnExactBlockedStationsSpec)

/-- ITS FALSE NEIGHBOUR: 'it returns false'. Refute it at one input. -/
def fnExactBlockedStationsWrong : ChangeSpec := { name := "fnExactBlockedStations", fn := fun _ => fun
  | [d1, d2, d3, d4] => { results := [.lit (.bool false)], args := [d1, d2, d3, d4] }
  | _ => none }
def FnExactBlockedStationsWrongFalsely : Prop := fnExactBlockedStationsRow.holds Try.pinned (OpenSpec.ofChange fnExactBlockedStationsWrong)

/-- 'laws.FnExactFillStations': WHATEVER THE INPUT: true; the input reads as it did. -/
def fnExactFillStationsSpec : ChangeSpec := { name := "fnExactFillStations", fn := fun _ => fun
  | [d1, d2, d3, d4] => { results := [.lit (.bool true)], args := [d1, d2, d3, d4] }
  | _ => none }
def fnExactFillStationsRow : OpenClaim := { program := "ytgdigcnpjkkmfaa", sum := "96992ac8ef8bd199a5c6d3721ed2435dbbb2cc9febd52481bf9cbe518f946bcc", func := "loop.example/g01020/laws.FnExactFillStations", spec := "fnExactFillStations", unfollowed := true, recurses := true, apart := false }
def FnExactFillStationsSaid : Prop := fnExactFillStationsRow.holds Try.pinned (OpenSpec.ofChange fnExactFillStationsSpec)

/-- ITS FALSE NEIGHBOUR: 'it returns false'. Refute it at one input. -/
def fnExactFillStationsWrong : ChangeSpec := { name := "fnExactFillStations", fn := fun _ => fun
  | [d1, d2, d3, d4] => { results := [.lit (.bool false)], args := [d1, d2, d3, d4] }
  | _ => none }
def FnExactFillStationsWrongFalsely : Prop := fnExactFillStationsRow.holds Try.pinned (OpenSpec.ofChange fnExactFillStationsWrong)

/-- 'laws.FnExactCoveredAfter': WHATEVER THE INPUT: true; the input reads as it did. -/
def fnExactCoveredAfterSpec : ChangeSpec := { name := "fnExactCoveredAfter", fn := fun _ => fun
  | [d1, d2, d3, d4, d5] => { results := [.lit (.bool true)], args := [d1, d2, d3, d4, d5] }
  | _ => none }
def fnExactCoveredAfterRow : OpenClaim := { program := "ytgdigcnpjkkmfaa", sum := "96992ac8ef8bd199a5c6d3721ed2435dbbb2cc9febd52481bf9cbe518f946bcc", func := "loop.example/g01020/laws.FnExactCoveredAfter", spec := "fnExactCoveredAfter", unfollowed := true, recurses := true, apart := false }
def FnExactCoveredAfterSaid : Prop := fnExactCoveredAfterRow.holds Try.pinned (OpenSpec.ofChange fnExactCoveredAfterSpec)

/-- ITS FALSE NEIGHBOUR: 'it returns false'. Refute it at one input. -/
def fnExactCoveredAfterWrong : ChangeSpec := { name := "fnExactCoveredAfter", fn := fun _ => fun
  | [d1, d2, d3, d4, d5] => { results := [.lit (.bool false)], args := [d1, d2, d3, d4, d5] }
  | _ => none }
def FnExactCoveredAfterWrongFalsely : Prop := fnExactCoveredAfterRow.holds Try.pinned (OpenSpec.ofChange fnExactCoveredAfterWrong)

/-- 'laws.FnExactLeastFillLimit': WHATEVER THE INPUT: true; the input reads as it did. -/
def fnExactLeastFillLimitSpec : ChangeSpec := { name := "fnExactLeastFillLimit", fn := fun _ => fun
  | [d1, d2, d3] => { results := [.lit (.bool true)], args := [d1, d2, d3] }
  | _ => none }
def fnExactLeastFillLimitRow : OpenClaim := { program := "ytgdigcnpjkkmfaa", sum := "96992ac8ef8bd199a5c6d3721ed2435dbbb2cc9febd52481bf9cbe518f946bcc", func := "loop.example/g01020/laws.FnExactLeastFillLimit", spec := "fnExactLeastFillLimit", unfollowed := true, recurses := true, apart := false }
def FnExactLeastFillLimitSaid : Prop := fnExactLeastFillLimitRow.holds Try.pinned (OpenSpec.ofChange fnExactLeastFillLimitSpec)

/-- ITS FALSE NEIGHBOUR: 'it returns false'. Refute it at one input. -/
def fnExactLeastFillLimitWrong : ChangeSpec := { name := "fnExactLeastFillLimit", fn := fun _ => fun
  | [d1, d2, d3] => { results := [.lit (.bool false)], args := [d1, d2, d3] }
  | _ => none }
def FnExactLeastFillLimitWrongFalsely : Prop := fnExactLeastFillLimitRow.holds Try.pinned (OpenSpec.ofChange fnExactLeastFillLimitWrong)

/- THE SECOND FORM. 'bulk': how many values and letters a reading holds, each counted each time it is reached (what is shared counts as often as it is met; a slice's spare places count too). A statement '..UptoSaid' is the law's where the arguments, and the package variables that the reading takes, are together of bulk at most 1048576: NARROWER than '..Said'. Prove '..Said' where nothing that the law and all that it calls make is longer than what came in: it says more and counts as full. Else prove '..UptoSaid'. A law counts once. -/
mutual
def uptoBulk {H : Type} : DataW H → Nat
  | .lit (.string bytes) => bytes.length + 1
  | .lit _ => 1
  | .nil => 1
  | .ptr d => uptoBulk d + 1
  | .slice elems spare => uptoBulkAll elems + uptoBulkAll spare + 1
  | .agg parts => uptoBulkAll parts + 1
  | .iface _ d => uptoBulk d + 1
  | .map entries => uptoBulkEntries entries + 1
  | .held _ => 1
def uptoBulkAll {H : Type} : List (DataW H) → Nat
  | [] => 0
  | d :: r => uptoBulk d + uptoBulkAll r
def uptoBulkEntries {H : Type} : List (Lit × DataW H) → Nat
  | [] => 0
  | x :: r => uptoBulkEntry x + uptoBulkEntries r
def uptoBulkEntry {H : Type} : Lit × DataW H → Nat
  | (.string bytes, d) => bytes.length + uptoBulk d + 1
  | (_, d) => uptoBulk d + 1
 end
def uptoSmall : (H : Type) → List (DataW H) → Bool := fun _ ds => decide (uptoBulkAll ds ≤ 1048576)
def OpenSpec.upto (s : _root_.Go.ChangeSpec) : _root_.Go.OpenSpec := { _root_.Go.OpenSpec.ofChange s with cond := some uptoSmall }

/-- 'laws.FnExactSlowestMove', WHERE WHAT IT READS IS OF BULK AT MOST 1048576: true; the input reads as it did. -/
def fnExactSlowestMoveUptoRow : OpenClaim := { program := "ytgdigcnpjkkmfaa", sum := "96992ac8ef8bd199a5c6d3721ed2435dbbb2cc9febd52481bf9cbe518f946bcc", func := "loop.example/g01020/laws.FnExactSlowestMove", spec := "fnExactSlowestMove", unfollowed := true, recurses := true, apart := false, narrowed := true }
def FnExactSlowestMoveUptoSaid : Prop := fnExactSlowestMoveUptoRow.holds Try.pinned (OpenSpec.upto fnExactSlowestMoveSpec)

/-- 'laws.FnExactMostFilled', WHERE WHAT IT READS IS OF BULK AT MOST 1048576: true; the input reads as it did. -/
def fnExactMostFilledUptoRow : OpenClaim := { program := "ytgdigcnpjkkmfaa", sum := "96992ac8ef8bd199a5c6d3721ed2435dbbb2cc9febd52481bf9cbe518f946bcc", func := "loop.example/g01020/laws.FnExactMostFilled", spec := "fnExactMostFilled", unfollowed := true, recurses := true, apart := false, narrowed := true }
def FnExactMostFilledUptoSaid : Prop := fnExactMostFilledUptoRow.holds Try.pinned (OpenSpec.upto fnExactMostFilledSpec)

/-- 'laws.FnExactReachTable', WHERE WHAT IT READS IS OF BULK AT MOST 1048576: true; the input reads as it did. -/
def fnExactReachTableUptoRow : OpenClaim := { program := "ytgdigcnpjkkmfaa", sum := "96992ac8ef8bd199a5c6d3721ed2435dbbb2cc9febd52481bf9cbe518f946bcc", func := "loop.example/g01020/laws.FnExactReachTable", spec := "fnExactReachTable", unfollowed := true, recurses := true, apart := false, narrowed := true }
def FnExactReachTableUptoSaid : Prop := fnExactReachTableUptoRow.holds Try.pinned (OpenSpec.upto fnExactReachTableSpec)

/-- 'laws.FnExactIsFilling', WHERE WHAT IT READS IS OF BULK AT MOST 1048576: true; the input reads as it did. -/
def fnExactIsFillingUptoRow : OpenClaim := { program := "ytgdigcnpjkkmfaa", sum := "96992ac8ef8bd199a5c6d3721ed2435dbbb2cc9febd52481bf9cbe518f946bcc", func := "loop.example/g01020/laws.FnExactIsFilling", spec := "fnExactIsFilling", unfollowed := true, recurses := true, apart := false, narrowed := true }
def FnExactIsFillingUptoSaid : Prop := fnExactIsFillingUptoRow.holds Try.pinned (OpenSpec.upto fnExactIsFillingSpec)

/-- 'laws.FnExactBlockedStations', WHERE WHAT IT READS IS OF BULK AT MOST 1048576: true; the input reads as it did. -/
def fnExactBlockedStationsUptoRow : OpenClaim := { program := "ytgdigcnpjkkmfaa", sum := "96992ac8ef8bd199a5c6d3721ed2435dbbb2cc9febd52481bf9cbe518f946bcc", func := "loop.example/g01020/laws.FnExactBlockedStations", spec := "fnExactBlockedStations", unfollowed := true, recurses := true, apart := false, narrowed := true }
def FnExactBlockedStationsUptoSaid : Prop := fnExactBlockedStationsUptoRow.holds Try.pinned (OpenSpec.upto fnExactBlockedStationsSpec)

/-- 'laws.FnExactFillStations', WHERE WHAT IT READS IS OF BULK AT MOST 1048576: true; the input reads as it did. -/
def fnExactFillStationsUptoRow : OpenClaim := { program := "ytgdigcnpjkkmfaa", sum := "96992ac8ef8bd199a5c6d3721ed2435dbbb2cc9febd52481bf9cbe518f946bcc", func := "loop.example/g01020/laws.FnExactFillStations", spec := "fnExactFillStations", unfollowed := true, recurses := true, apart := false, narrowed := true }
def FnExactFillStationsUptoSaid : Prop := fnExactFillStationsUptoRow.holds Try.pinned (OpenSpec.upto fnExactFillStationsSpec)

/-- 'laws.FnExactCoveredAfter', WHERE WHAT IT READS IS OF BULK AT MOST 1048576: true; the input reads as it did. -/
def fnExactCoveredAfterUptoRow : OpenClaim := { program := "ytgdigcnpjkkmfaa", sum := "96992ac8ef8bd199a5c6d3721ed2435dbbb2cc9febd52481bf9cbe518f946bcc", func := "loop.example/g01020/laws.FnExactCoveredAfter", spec := "fnExactCoveredAfter", unfollowed := true, recurses := true, apart := false, narrowed := true }
def FnExactCoveredAfterUptoSaid : Prop := fnExactCoveredAfterUptoRow.holds Try.pinned (OpenSpec.upto fnExactCoveredAfterSpec)

/-- 'laws.FnExactLeastFillLimit', WHERE WHAT IT READS IS OF BULK AT MOST 1048576: true; the input reads as it did. -/
def fnExactLeastFillLimitUptoRow : OpenClaim := { program := "ytgdigcnpjkkmfaa", sum := "96992ac8ef8bd199a5c6d3721ed2435dbbb2cc9febd52481bf9cbe518f946bcc", func := "loop.example/g01020/laws.FnExactLeastFillLimit", spec := "fnExactLeastFillLimit", unfollowed := true, recurses := true, apart := false, narrowed := true }
def FnExactLeastFillLimitUptoSaid : Prop := fnExactLeastFillLimitUptoRow.holds Try.pinned (OpenSpec.upto fnExactLeastFillLimitSpec)

end Rows
end Go.Proofs.Ytgdigcnpjkkmfaa
