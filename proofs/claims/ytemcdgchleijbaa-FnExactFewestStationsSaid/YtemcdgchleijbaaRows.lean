/-
  No cell of these rows narrows 'for every input' (looked for: loops, veiled, ifaces, maps, wideKeys, modest, calm, conditions, laid).
  DERIVED. THE GIVEN ROWS OF THIS SEAT. 12 by the template 'for every input the law returns true; each argument reads behind the call as it read before'; 0 by the template 'total and deterministic' (their statements: YtemcdgchleijbaaTotals.lean).
  GIVEN WITH THE SEED: the statements are not yours to turn. If you find one false, say at which input.
  Laid BY PROGRAM, IN A SANDBOX (cutbox-rows.mjs): the forced cells as the released guide's own fill.sh prints them over the translation 89064b809e88ed10… (all of the seat's roots in one cut). By AI agents, Wed Nov 11 2026. No macro, syntax, notation, axiom, sorry.
-/
import Derived.Test.YtemcdgchleijbaaChecked
import GoSem.Claim
import GoSem.ClaimJoined
import GoSem.ClaimMapViews
import Derived.JoinedTies
import Derived.KernelRfl
namespace Go.Proofs.Ytemcdgchleijbaa
/- THE CELL 'sum', in the pinned program and in every row, IS THE sha256 OF THE DUMP (.gsa) THAT YtemcdgchleijbaaProg.lean LOADS. Nothing in Lean hashes anything: it is a label: what it is worth is what the hold of that sum in a sandbox is worth. -/
noncomputable def Try.pinned : Pinned := { name := "ytemcdgchleijbaa", sum := "89064b809e88ed109c3070a37e38910aa0f6f8d7fe2548816cf91b959996ca59", checked := Try.checked }
namespace Rows
def none {H : Type} : Left H := { results := [], args := [] }

/-- 'laws.FnExactAreStations': WHATEVER THE INPUT: true; the input reads as it did. -/
def fnExactAreStationsSpec : ChangeSpec := { name := "fnExactAreStations", fn := fun _ => fun
  | [d1, d2] => { results := [.lit (.bool true)], args := [d1, d2] }
  | _ => none }
def fnExactAreStationsRow : OpenClaim := { program := "ytemcdgchleijbaa", sum := "89064b809e88ed109c3070a37e38910aa0f6f8d7fe2548816cf91b959996ca59", func := "loop.example/g01020/laws.FnExactAreStations", spec := "fnExactAreStations", apart := false }
def FnExactAreStationsSaid : Prop := fnExactAreStationsRow.holds Try.pinned (OpenSpec.ofChange fnExactAreStationsSpec)

/-- ITS FALSE NEIGHBOUR: 'it returns false'. Refute it at one input. -/
def fnExactAreStationsWrong : ChangeSpec := { name := "fnExactAreStations", fn := fun _ => fun
  | [d1, d2] => { results := [.lit (.bool false)], args := [d1, d2] }
  | _ => none }
def FnExactAreStationsWrongFalsely : Prop := fnExactAreStationsRow.holds Try.pinned (OpenSpec.ofChange fnExactAreStationsWrong)

/-- 'laws.FnExactWeakestNode': WHATEVER THE INPUT: true; the input reads as it did. -/
def fnExactWeakestNodeSpec : ChangeSpec := { name := "fnExactWeakestNode", fn := fun _ => fun
  | [d1, d2] => { results := [.lit (.bool true)], args := [d1, d2] }
  | _ => none }
def fnExactWeakestNodeRow : OpenClaim := { program := "ytemcdgchleijbaa", sum := "89064b809e88ed109c3070a37e38910aa0f6f8d7fe2548816cf91b959996ca59", func := "loop.example/g01020/laws.FnExactWeakestNode", spec := "fnExactWeakestNode", apart := false }
def FnExactWeakestNodeSaid : Prop := fnExactWeakestNodeRow.holds Try.pinned (OpenSpec.ofChange fnExactWeakestNodeSpec)

/-- ITS FALSE NEIGHBOUR: 'it returns false'. Refute it at one input. -/
def fnExactWeakestNodeWrong : ChangeSpec := { name := "fnExactWeakestNode", fn := fun _ => fun
  | [d1, d2] => { results := [.lit (.bool false)], args := [d1, d2] }
  | _ => none }
def FnExactWeakestNodeWrongFalsely : Prop := fnExactWeakestNodeRow.holds Try.pinned (OpenSpec.ofChange fnExactWeakestNodeWrong)

/-- 'laws.FnExactApartNodes': WHATEVER THE INPUT: true; the input reads as it did. -/
def fnExactApartNodesSpec : ChangeSpec := { name := "fnExactApartNodes", fn := fun _ => fun
  | [d1, d2] => { results := [.lit (.bool true)], args := [d1, d2] }
  | _ => none }
def fnExactApartNodesRow : OpenClaim := { program := "ytemcdgchleijbaa", sum := "89064b809e88ed109c3070a37e38910aa0f6f8d7fe2548816cf91b959996ca59", func := "loop.example/g01020/laws.FnExactApartNodes", spec := "fnExactApartNodes", unfollowed := true, recurses := true, apart := false }
def FnExactApartNodesSaid : Prop := fnExactApartNodesRow.holds Try.pinned (OpenSpec.ofChange fnExactApartNodesSpec)

/-- ITS FALSE NEIGHBOUR: 'it returns false'. Refute it at one input. -/
def fnExactApartNodesWrong : ChangeSpec := { name := "fnExactApartNodes", fn := fun _ => fun
  | [d1, d2] => { results := [.lit (.bool false)], args := [d1, d2] }
  | _ => none }
def FnExactApartNodesWrongFalsely : Prop := fnExactApartNodesRow.holds Try.pinned (OpenSpec.ofChange fnExactApartNodesWrong)

/-- 'laws.FnExactCoverTimes': WHATEVER THE INPUT: true; the input reads as it did. -/
def fnExactCoverTimesSpec : ChangeSpec := { name := "fnExactCoverTimes", fn := fun _ => fun
  | [d1, d2] => { results := [.lit (.bool true)], args := [d1, d2] }
  | _ => none }
def fnExactCoverTimesRow : OpenClaim := { program := "ytemcdgchleijbaa", sum := "89064b809e88ed109c3070a37e38910aa0f6f8d7fe2548816cf91b959996ca59", func := "loop.example/g01020/laws.FnExactCoverTimes", spec := "fnExactCoverTimes", apart := false }
def FnExactCoverTimesSaid : Prop := fnExactCoverTimesRow.holds Try.pinned (OpenSpec.ofChange fnExactCoverTimesSpec)

/-- ITS FALSE NEIGHBOUR: 'it returns false'. Refute it at one input. -/
def fnExactCoverTimesWrong : ChangeSpec := { name := "fnExactCoverTimes", fn := fun _ => fun
  | [d1, d2] => { results := [.lit (.bool false)], args := [d1, d2] }
  | _ => none }
def FnExactCoverTimesWrongFalsely : Prop := fnExactCoverTimesRow.holds Try.pinned (OpenSpec.ofChange fnExactCoverTimesWrong)

/-- 'laws.FnExactFewestStations': WHATEVER THE INPUT: true; the input reads as it did. -/
def fnExactFewestStationsSpec : ChangeSpec := { name := "fnExactFewestStations", fn := fun _ => fun
  | [d1, d2] => { results := [.lit (.bool true)], args := [d1, d2] }
  | _ => none }
def fnExactFewestStationsRow : OpenClaim := { program := "ytemcdgchleijbaa", sum := "89064b809e88ed109c3070a37e38910aa0f6f8d7fe2548816cf91b959996ca59", func := "loop.example/g01020/laws.FnExactFewestStations", spec := "fnExactFewestStations", unfollowed := true, recurses := true, apart := false }
def FnExactFewestStationsSaid : Prop := fnExactFewestStationsRow.holds Try.pinned (OpenSpec.ofChange fnExactFewestStationsSpec)

/-- ITS FALSE NEIGHBOUR: 'it returns false'. Refute it at one input. -/
def fnExactFewestStationsWrong : ChangeSpec := { name := "fnExactFewestStations", fn := fun _ => fun
  | [d1, d2] => { results := [.lit (.bool false)], args := [d1, d2] }
  | _ => none }
def FnExactFewestStationsWrongFalsely : Prop := fnExactFewestStationsRow.holds Try.pinned (OpenSpec.ofChange fnExactFewestStationsWrong)

/-- 'laws.FnExactLeastLimit': WHATEVER THE INPUT: true; the input reads as it did. -/
def fnExactLeastLimitSpec : ChangeSpec := { name := "fnExactLeastLimit", fn := fun _ => fun
  | [d1, d2] => { results := [.lit (.bool true)], args := [d1, d2] }
  | _ => none }
def fnExactLeastLimitRow : OpenClaim := { program := "ytemcdgchleijbaa", sum := "89064b809e88ed109c3070a37e38910aa0f6f8d7fe2548816cf91b959996ca59", func := "loop.example/g01020/laws.FnExactLeastLimit", spec := "fnExactLeastLimit", apart := false }
def FnExactLeastLimitSaid : Prop := fnExactLeastLimitRow.holds Try.pinned (OpenSpec.ofChange fnExactLeastLimitSpec)

/-- ITS FALSE NEIGHBOUR: 'it returns false'. Refute it at one input. -/
def fnExactLeastLimitWrong : ChangeSpec := { name := "fnExactLeastLimit", fn := fun _ => fun
  | [d1, d2] => { results := [.lit (.bool false)], args := [d1, d2] }
  | _ => none }
def FnExactLeastLimitWrongFalsely : Prop := fnExactLeastLimitRow.holds Try.pinned (OpenSpec.ofChange fnExactLeastLimitWrong)

/-- 'laws.FnExactCoveredNodes': WHATEVER THE INPUT: true; the input reads as it did. -/
def fnExactCoveredNodesSpec : ChangeSpec := { name := "fnExactCoveredNodes", fn := fun _ => fun
  | [d1, d2, d3] => { results := [.lit (.bool true)], args := [d1, d2, d3] }
  | _ => none }
def fnExactCoveredNodesRow : OpenClaim := { program := "ytemcdgchleijbaa", sum := "89064b809e88ed109c3070a37e38910aa0f6f8d7fe2548816cf91b959996ca59", func := "loop.example/g01020/laws.FnExactCoveredNodes", spec := "fnExactCoveredNodes", apart := false }
def FnExactCoveredNodesSaid : Prop := fnExactCoveredNodesRow.holds Try.pinned (OpenSpec.ofChange fnExactCoveredNodesSpec)

/-- ITS FALSE NEIGHBOUR: 'it returns false'. Refute it at one input. -/
def fnExactCoveredNodesWrong : ChangeSpec := { name := "fnExactCoveredNodes", fn := fun _ => fun
  | [d1, d2, d3] => { results := [.lit (.bool false)], args := [d1, d2, d3] }
  | _ => none }
def FnExactCoveredNodesWrongFalsely : Prop := fnExactCoveredNodesRow.holds Try.pinned (OpenSpec.ofChange fnExactCoveredNodesWrong)

/-- 'laws.FnExactUncoveredNodes': WHATEVER THE INPUT: true; the input reads as it did. -/
def fnExactUncoveredNodesSpec : ChangeSpec := { name := "fnExactUncoveredNodes", fn := fun _ => fun
  | [d1, d2, d3] => { results := [.lit (.bool true)], args := [d1, d2, d3] }
  | _ => none }
def fnExactUncoveredNodesRow : OpenClaim := { program := "ytemcdgchleijbaa", sum := "89064b809e88ed109c3070a37e38910aa0f6f8d7fe2548816cf91b959996ca59", func := "loop.example/g01020/laws.FnExactUncoveredNodes", spec := "fnExactUncoveredNodes", apart := false }
def FnExactUncoveredNodesSaid : Prop := fnExactUncoveredNodesRow.holds Try.pinned (OpenSpec.ofChange fnExactUncoveredNodesSpec)

/-- ITS FALSE NEIGHBOUR: 'it returns false'. Refute it at one input. -/
def fnExactUncoveredNodesWrong : ChangeSpec := { name := "fnExactUncoveredNodes", fn := fun _ => fun
  | [d1, d2, d3] => { results := [.lit (.bool false)], args := [d1, d2, d3] }
  | _ => none }
def FnExactUncoveredNodesWrongFalsely : Prop := fnExactUncoveredNodesRow.holds Try.pinned (OpenSpec.ofChange fnExactUncoveredNodesWrong)

/-- 'laws.FnExactCoverText': WHATEVER THE INPUT: true; the input reads as it did. -/
def fnExactCoverTextSpec : ChangeSpec := { name := "fnExactCoverText", fn := fun _ => fun
  | [d1, d2, d3] => { results := [.lit (.bool true)], args := [d1, d2, d3] }
  | _ => none }
def fnExactCoverTextRow : OpenClaim := { program := "ytemcdgchleijbaa", sum := "89064b809e88ed109c3070a37e38910aa0f6f8d7fe2548816cf91b959996ca59", func := "loop.example/g01020/laws.FnExactCoverText", spec := "fnExactCoverText", apart := false }
def FnExactCoverTextSaid : Prop := fnExactCoverTextRow.holds Try.pinned (OpenSpec.ofChange fnExactCoverTextSpec)

/-- ITS FALSE NEIGHBOUR: 'it returns false'. Refute it at one input. -/
def fnExactCoverTextWrong : ChangeSpec := { name := "fnExactCoverText", fn := fun _ => fun
  | [d1, d2, d3] => { results := [.lit (.bool false)], args := [d1, d2, d3] }
  | _ => none }
def FnExactCoverTextWrongFalsely : Prop := fnExactCoverTextRow.holds Try.pinned (OpenSpec.ofChange fnExactCoverTextWrong)

/-- 'laws.FnExactBestFurther': WHATEVER THE INPUT: true; the input reads as it did. -/
def fnExactBestFurtherSpec : ChangeSpec := { name := "fnExactBestFurther", fn := fun _ => fun
  | [d1, d2, d3] => { results := [.lit (.bool true)], args := [d1, d2, d3] }
  | _ => none }
def fnExactBestFurtherRow : OpenClaim := { program := "ytemcdgchleijbaa", sum := "89064b809e88ed109c3070a37e38910aa0f6f8d7fe2548816cf91b959996ca59", func := "loop.example/g01020/laws.FnExactBestFurther", spec := "fnExactBestFurther", apart := false }
def FnExactBestFurtherSaid : Prop := fnExactBestFurtherRow.holds Try.pinned (OpenSpec.ofChange fnExactBestFurtherSpec)

/-- ITS FALSE NEIGHBOUR: 'it returns false'. Refute it at one input. -/
def fnExactBestFurtherWrong : ChangeSpec := { name := "fnExactBestFurther", fn := fun _ => fun
  | [d1, d2, d3] => { results := [.lit (.bool false)], args := [d1, d2, d3] }
  | _ => none }
def FnExactBestFurtherWrongFalsely : Prop := fnExactBestFurtherRow.holds Try.pinned (OpenSpec.ofChange fnExactBestFurtherWrong)

/-- 'laws.FnExactLostWithout': WHATEVER THE INPUT: true; the input reads as it did. -/
def fnExactLostWithoutSpec : ChangeSpec := { name := "fnExactLostWithout", fn := fun _ => fun
  | [d1, d2, d3, d4] => { results := [.lit (.bool true)], args := [d1, d2, d3, d4] }
  | _ => none }
def fnExactLostWithoutRow : OpenClaim := { program := "ytemcdgchleijbaa", sum := "89064b809e88ed109c3070a37e38910aa0f6f8d7fe2548816cf91b959996ca59", func := "loop.example/g01020/laws.FnExactLostWithout", spec := "fnExactLostWithout", unfollowed := true, recurses := true, apart := false }
def FnExactLostWithoutSaid : Prop := fnExactLostWithoutRow.holds Try.pinned (OpenSpec.ofChange fnExactLostWithoutSpec)

/-- ITS FALSE NEIGHBOUR: 'it returns false'. Refute it at one input. -/
def fnExactLostWithoutWrong : ChangeSpec := { name := "fnExactLostWithout", fn := fun _ => fun
  | [d1, d2, d3, d4] => { results := [.lit (.bool false)], args := [d1, d2, d3, d4] }
  | _ => none }
def FnExactLostWithoutWrongFalsely : Prop := fnExactLostWithoutRow.holds Try.pinned (OpenSpec.ofChange fnExactLostWithoutWrong)

/-- 'laws.FnExactNeededStations': WHATEVER THE INPUT: true; the input reads as it did. -/
def fnExactNeededStationsSpec : ChangeSpec := { name := "fnExactNeededStations", fn := fun _ => fun
  | [d1, d2, d3] => { results := [.lit (.bool true)], args := [d1, d2, d3] }
  | _ => none }
def fnExactNeededStationsRow : OpenClaim := { program := "ytemcdgchleijbaa", sum := "89064b809e88ed109c3070a37e38910aa0f6f8d7fe2548816cf91b959996ca59", func := "loop.example/g01020/laws.FnExactNeededStations", spec := "fnExactNeededStations", unfollowed := true, recurses := true, apart := false }
def FnExactNeededStationsSaid : Prop := fnExactNeededStationsRow.holds Try.pinned (OpenSpec.ofChange fnExactNeededStationsSpec)

/-- ITS FALSE NEIGHBOUR: 'it returns false'. Refute it at one input. -/
def fnExactNeededStationsWrong : ChangeSpec := { name := "fnExactNeededStations", fn := fun _ => fun
  | [d1, d2, d3] => { results := [.lit (.bool false)], args := [d1, d2, d3] }
  | _ => none }
def FnExactNeededStationsWrongFalsely : Prop := fnExactNeededStationsRow.holds Try.pinned (OpenSpec.ofChange fnExactNeededStationsWrong)

/- THE SECOND FORM. 'bulk': how many values and letters a reading holds, each counted each time it is reached (what is shared counts as often as it is met; a slice's spare places count too). A statement '..UptoSaid' is the law's where the arguments, and the package variables that the reading takes, are together of bulk at most 1048576: NARROWER than '..Said'. Prove '..Said' where nothing that the law and all that it calls make is longer than what came in: it says more and counts as full. Else prove '..UptoSaid'. A law counts once. -/
mutual
def uptoBulk {H : Type} : DataW H → Nat
  | .lit (.string bytes) => bytes.length + 1
  | .lit _ => 1
  | .nil => 1
  | .ptr d => uptoBulk d + 1
  | .slice elems spare => uptoBulkAll elems + uptoBulkAll spare + 1
  | .agg parts => uptoBulkAll parts + 1
  | .iface _ d => uptoBulk d + 1
  | .map entries => uptoBulkEntries entries + 1
  | .held _ => 1
def uptoBulkAll {H : Type} : List (DataW H) → Nat
  | [] => 0
  | d :: r => uptoBulk d + uptoBulkAll r
def uptoBulkEntries {H : Type} : List (Lit × DataW H) → Nat
  | [] => 0
  | x :: r => uptoBulkEntry x + uptoBulkEntries r
def uptoBulkEntry {H : Type} : Lit × DataW H → Nat
  | (.string bytes, d) => bytes.length + uptoBulk d + 1
  | (_, d) => uptoBulk d + 1
 end
def uptoSmall : (H : Type) → List (DataW H) → Bool := fun _ ds => decide (uptoBulkAll ds ≤ 1048576)
def OpenSpec.upto (s : _root_.Go.ChangeSpec) : _root_.Go.OpenSpec := { _root_.Go.OpenSpec.ofChange s with cond := some uptoSmall }

/-- 'laws.FnExactAreStations', WHERE WHAT IT READS IS OF BULK AT MOST 1048576: true; the input reads as it did. -/
def fnExactAreStationsUptoRow : OpenClaim := { program := "ytemcdgchleijbaa", sum := "89064b809e88ed109c3070a37e38910aa0f6f8d7fe2548816cf91b959996ca59", func := "loop.example/g01020/laws.FnExactAreStations", spec := "fnExactAreStations", apart := false, narrowed := true }
def FnExactAreStationsUptoSaid : Prop := fnExactAreStationsUptoRow.holds Try.pinned (OpenSpec.upto fnExactAreStationsSpec)

/-- 'laws.FnExactWeakestNode', WHERE WHAT IT READS IS OF BULK AT MOST 1048576: true; the input reads as it did. -/
def fnExactWeakestNodeUptoRow : OpenClaim := { program := "ytemcdgchleijbaa", sum := "89064b809e88ed109c3070a37e38910aa0f6f8d7fe2548816cf91b959996ca59", func := "loop.example/g01020/laws.FnExactWeakestNode", spec := "fnExactWeakestNode", apart := false, narrowed := true }
def FnExactWeakestNodeUptoSaid : Prop := fnExactWeakestNodeUptoRow.holds Try.pinned (OpenSpec.upto fnExactWeakestNodeSpec)

/-- 'laws.FnExactApartNodes', WHERE WHAT IT READS IS OF BULK AT MOST 1048576: true; the input reads as it did. -/
def fnExactApartNodesUptoRow : OpenClaim := { program := "ytemcdgchleijbaa", sum := "89064b809e88ed109c3070a37e38910aa0f6f8d7fe2548816cf91b959996ca59", func := "loop.example/g01020/laws.FnExactApartNodes", spec := "fnExactApartNodes", unfollowed := true, recurses := true, apart := false, narrowed := true }
def FnExactApartNodesUptoSaid : Prop := fnExactApartNodesUptoRow.holds Try.pinned (OpenSpec.upto fnExactApartNodesSpec)

/-- 'laws.FnExactCoverTimes', WHERE WHAT IT READS IS OF BULK AT MOST 1048576: true; the input reads as it did. -/
def fnExactCoverTimesUptoRow : OpenClaim := { program := "ytemcdgchleijbaa", sum := "89064b809e88ed109c3070a37e38910aa0f6f8d7fe2548816cf91b959996ca59", func := "loop.example/g01020/laws.FnExactCoverTimes", spec := "fnExactCoverTimes", apart := false, narrowed := true }
def FnExactCoverTimesUptoSaid : Prop := fnExactCoverTimesUptoRow.holds Try.pinned (OpenSpec.upto fnExactCoverTimesSpec)

/-- 'laws.FnExactFewestStations', WHERE WHAT IT READS IS OF BULK AT MOST 1048576: true; the input reads as it did. -/
def fnExactFewestStationsUptoRow : OpenClaim := { program := "ytemcdgchleijbaa", sum := "89064b809e88ed109c3070a37e38910aa0f6f8d7fe2548816cf91b959996ca59", func := "loop.example/g01020/laws.FnExactFewestStations", spec := "fnExactFewestStations", unfollowed := true, recurses := true, apart := false, narrowed := true }
def FnExactFewestStationsUptoSaid : Prop := fnExactFewestStationsUptoRow.holds Try.pinned (OpenSpec.upto fnExactFewestStationsSpec)

/-- 'laws.FnExactLeastLimit', WHERE WHAT IT READS IS OF BULK AT MOST 1048576: true; the input reads as it did. -/
def fnExactLeastLimitUptoRow : OpenClaim := { program := "ytemcdgchleijbaa", sum := "89064b809e88ed109c3070a37e38910aa0f6f8d7fe2548816cf91b959996ca59", func := "loop.example/g01020/laws.FnExactLeastLimit", spec := "fnExactLeastLimit", apart := false, narrowed := true }
def FnExactLeastLimitUptoSaid : Prop := fnExactLeastLimitUptoRow.holds Try.pinned (OpenSpec.upto fnExactLeastLimitSpec)

/-- 'laws.FnExactCoveredNodes', WHERE WHAT IT READS IS OF BULK AT MOST 1048576: true; the input reads as it did. -/
def fnExactCoveredNodesUptoRow : OpenClaim := { program := "ytemcdgchleijbaa", sum := "89064b809e88ed109c3070a37e38910aa0f6f8d7fe2548816cf91b959996ca59", func := "loop.example/g01020/laws.FnExactCoveredNodes", spec := "fnExactCoveredNodes", apart := false, narrowed := true }
def FnExactCoveredNodesUptoSaid : Prop := fnExactCoveredNodesUptoRow.holds Try.pinned (OpenSpec.upto fnExactCoveredNodesSpec)

/-- 'laws.FnExactUncoveredNodes', WHERE WHAT IT READS IS OF BULK AT MOST 1048576: true; the input reads as it did. -/
def fnExactUncoveredNodesUptoRow : OpenClaim := { program := "ytemcdgchleijbaa", sum := "89064b809e88ed109c3070a37e38910aa0f6f8d7fe2548816cf91b959996ca59", func := "loop.example/g01020/laws.FnExactUncoveredNodes", spec := "fnExactUncoveredNodes", apart := false, narrowed := true }
def FnExactUncoveredNodesUptoSaid : Prop := fnExactUncoveredNodesUptoRow.holds Try.pinned (OpenSpec.upto fnExactUncoveredNodesSpec)

/-- 'laws.FnExactCoverText', WHERE WHAT IT READS IS OF BULK AT MOST 1048576: true; the input reads as it did. -/
def fnExactCoverTextUptoRow : OpenClaim := { program := "ytemcdgchleijbaa", sum := "89064b809e88ed109c3070a37e38910aa0f6f8d7fe2548816cf91b959996ca59", func := "loop.example/g01020/laws.FnExactCoverText", spec := "fnExactCoverText", apart := false, narrowed := true }
def FnExactCoverTextUptoSaid : Prop := fnExactCoverTextUptoRow.holds Try.pinned (OpenSpec.upto fnExactCoverTextSpec)

/-- 'laws.FnExactBestFurther', WHERE WHAT IT READS IS OF BULK AT MOST 1048576: true; the input reads as it did. -/
def fnExactBestFurtherUptoRow : OpenClaim := { program := "ytemcdgchleijbaa", sum := "89064b809e88ed109c3070a37e38910aa0f6f8d7fe2548816cf91b959996ca59", func := "loop.example/g01020/laws.FnExactBestFurther", spec := "fnExactBestFurther", apart := false, narrowed := true }
def FnExactBestFurtherUptoSaid : Prop := fnExactBestFurtherUptoRow.holds Try.pinned (OpenSpec.upto fnExactBestFurtherSpec)

/-- 'laws.FnExactLostWithout', WHERE WHAT IT READS IS OF BULK AT MOST 1048576: true; the input reads as it did. -/
def fnExactLostWithoutUptoRow : OpenClaim := { program := "ytemcdgchleijbaa", sum := "89064b809e88ed109c3070a37e38910aa0f6f8d7fe2548816cf91b959996ca59", func := "loop.example/g01020/laws.FnExactLostWithout", spec := "fnExactLostWithout", unfollowed := true, recurses := true, apart := false, narrowed := true }
def FnExactLostWithoutUptoSaid : Prop := fnExactLostWithoutUptoRow.holds Try.pinned (OpenSpec.upto fnExactLostWithoutSpec)

/-- 'laws.FnExactNeededStations', WHERE WHAT IT READS IS OF BULK AT MOST 1048576: true; the input reads as it did. -/
def fnExactNeededStationsUptoRow : OpenClaim := { program := "ytemcdgchleijbaa", sum := "89064b809e88ed109c3070a37e38910aa0f6f8d7fe2548816cf91b959996ca59", func := "loop.example/g01020/laws.FnExactNeededStations", spec := "fnExactNeededStations", unfollowed := true, recurses := true, apart := false, narrowed := true }
def FnExactNeededStationsUptoSaid : Prop := fnExactNeededStationsUptoRow.holds Try.pinned (OpenSpec.upto fnExactNeededStationsSpec)

end Rows
end Go.Proofs.Ytemcdgchleijbaa
