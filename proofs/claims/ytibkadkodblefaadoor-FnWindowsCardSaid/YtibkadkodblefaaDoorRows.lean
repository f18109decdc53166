/-
  NARROWER THAN 'FOR EVERY INPUT', by the rows' own cells (each row's printed sentence says how): FnExactSineTable: laid · FnExactTipOf: laid · FnExactFarthestFor: laid · FnExactHighestAt: laid · FnExactCanReach: laid · FnExactAngleFor: laid · FnExactReachedFrom: laid · FnExactBestPlace: laid · FnLadders: laid · FnExactFewestPlaces: laid · FnWindows: laid.
  DERIVED. THE GIVEN ROWS OF THIS SEAT. 11 by the template 'for every input the law returns true; each argument reads behind the call as it read before'; 0 by the template 'total and deterministic' (their statements: YtibkadkodblefaaDoorTotals.lean).
  GIVEN WITH THE SEED: the statements are not yours to turn. If you find one false, say at which input.
  Laid BY PROGRAM, IN A SANDBOX (cutbox-rows.mjs): the forced cells as the released guide's own fill.sh prints them over the translation e28d1294ed3ccca9… (all of the seat's roots in one cut). By AI agents, Wed Nov 11 2026. No macro, syntax, notation, axiom, sorry.
-/
import Derived.Test.YtibkadkodblefaaDoorChecked
import GoSem.Claim
import GoSem.ClaimJoined
import GoSem.ClaimMapViews
import Derived.JoinedTies
import Derived.KernelRfl
namespace Go.Proofs.YtibkadkodblefaaDoor
/- THE CELL 'sum', in the pinned program and in every row, IS THE sha256 OF THE DUMP (.gsa) THAT YtibkadkodblefaaDoorProg.lean LOADS. Nothing in Lean hashes anything: it is a label: what it is worth is what the hold of that sum in a sandbox is worth. -/
noncomputable def Tryd.pinned : Pinned := { name := "ytibkadkodblefaadoor", sum := "e28d1294ed3ccca9a475df8896152bcad369d3c4a2fe08015ca3d22a89e59741", checked := Tryd.checked }
namespace Rows
def none {H : Type} : Left H := { results := [], args := [] }

/- WHAT THE LISTED PACKAGE-LEVEL VARIABLES READ AS WHEN THE CALL BEGINS. Each datum BY PROGRAM (the guide's laid-datum.mjs) off the statement by which the dump's own 'gosem.cut.vars' lays the variable. In a bare row this is a premise. The card (YtibkadkodblefaaDoorCards.lean) ties it to the program's text. -/
def laid_math_sin {H : Type} : DataW H := .agg [.lit (.float .f64 4460209587652500685), .lit (.float .f64 13716528389658582877), .lit (.float .f64 4523617212962785441), .lit (.float .f64 13774824197404483331), .lit (.float .f64 4575957461383575504), .lit (.float .f64 13818544856648471880)]
def laid_math_cos {H : Type} : DataW H := .agg [.lit (.float .f64 13666448263388469915), .lit (.float .f64 4477121864728985349), .lit (.float .f64 13732177093698800582), .lit (.float .f64 4537941361668146421), .lit (.float .f64 13787419979223748497), .lit (.float .f64 4586165620538955083)]
def laid_math_mPi4 {H : Type} : DataW H := .agg [.lit (.int .u64 1), .lit (.int .u64 5040379952546458195), .lit (.int .u64 17892431488136887169), .lit (.int .u64 13169980181085364355), .lit (.int .u64 18204331823439776451), .lit (.int .u64 7946843935494350272), .lit (.int .u64 905889640498799673), .lit (.int .u64 18175356263134875261), .lit (.int .u64 15061281708168349961), .lit (.int .u64 15220161563773041794), .lit (.int .u64 8296664548579374057), .lit (.int .u64 4109744767560208502), .lit (.int .u64 4607516669194743839), .lit (.int .u64 16023283104648321598), .lit (.int .u64 15739233654134936430), .lit (.int .u64 11424645774684705882), .lit (.int .u64 16883842788696515318), .lit (.int .u64 8795094592981902804), .lit (.int .u64 15561835991111744016), .lit (.int .u64 12395701187267450711)]

/-- 'laws.FnExactSineTable': WHATEVER THE INPUT: true; the input reads as it did. -/
def fnExactSineTableSpec : ChangeSpec := { name := "fnExactSineTable", fn := fun _ => fun
  | [] => { results := [.lit (.bool true)], args := [] }
  | _ => none }
def fnExactSineTableRow : OpenClaim := { program := "ytibkadkodblefaadoor", sum := "e28d1294ed3ccca9a475df8896152bcad369d3c4a2fe08015ca3d22a89e59741", func := "loop.example/g01020/laws.FnExactSineTable", spec := "fnExactSineTable", inPlace := ["math.Float64bits", "math.Float64frombits", "math/bits.Add64"], named := ["math._cos", "math._sin", "math.mPi4"], plainKeys := false, apart := false, laid := [("math._sin", laid_math_sin), ("math._cos", laid_math_cos), ("math.mPi4", laid_math_mPi4)] }
def FnExactSineTableSaid : Prop := fnExactSineTableRow.holds Tryd.pinned (OpenSpec.ofChange fnExactSineTableSpec)

/-- ITS FALSE NEIGHBOUR: 'it returns false'. Refute it at one input. -/
def fnExactSineTableWrong : ChangeSpec := { name := "fnExactSineTable", fn := fun _ => fun
  | [] => { results := [.lit (.bool false)], args := [] }
  | _ => none }
def FnExactSineTableWrongFalsely : Prop := fnExactSineTableRow.holds Tryd.pinned (OpenSpec.ofChange fnExactSineTableWrong)

/-- 'laws.FnExactTipOf': WHATEVER THE INPUT: true; the input reads as it did. -/
def fnExactTipOfSpec : ChangeSpec := { name := "fnExactTipOf", fn := fun _ => fun
  | [d1, d2, d3] => { results := [.lit (.bool true)], args := [d1, d2, d3] }
  | _ => none }
def fnExactTipOfRow : OpenClaim := { program := "ytibkadkodblefaadoor", sum := "e28d1294ed3ccca9a475df8896152bcad369d3c4a2fe08015ca3d22a89e59741", func := "loop.example/g01020/laws.FnExactTipOf", spec := "fnExactTipOf", inPlace := ["math.Float64bits", "math.Float64frombits", "math/bits.Add64"], named := ["math._cos", "math._sin", "math.mPi4"], plainKeys := false, apart := false, laid := [("math._sin", laid_math_sin), ("math._cos", laid_math_cos), ("math.mPi4", laid_math_mPi4)] }
def FnExactTipOfSaid : Prop := fnExactTipOfRow.holds Tryd.pinned (OpenSpec.ofChange fnExactTipOfSpec)

/-- ITS FALSE NEIGHBOUR: 'it returns false'. Refute it at one input. -/
def fnExactTipOfWrong : ChangeSpec := { name := "fnExactTipOf", fn := fun _ => fun
  | [d1, d2, d3] => { results := [.lit (.bool false)], args := [d1, d2, d3] }
  | _ => none }
def FnExactTipOfWrongFalsely : Prop := fnExactTipOfRow.holds Tryd.pinned (OpenSpec.ofChange fnExactTipOfWrong)

/-- 'laws.FnExactFarthestFor': WHATEVER THE INPUT: true; the input reads as it did. -/
def fnExactFarthestForSpec : ChangeSpec := { name := "fnExactFarthestFor", fn := fun _ => fun
  | [d1, d2] => { results := [.lit (.bool true)], args := [d1, d2] }
  | _ => none }
def fnExactFarthestForRow : OpenClaim := { program := "ytibkadkodblefaadoor", sum := "e28d1294ed3ccca9a475df8896152bcad369d3c4a2fe08015ca3d22a89e59741", func := "loop.example/g01020/laws.FnExactFarthestFor", spec := "fnExactFarthestFor", inPlace := ["math.Float64bits", "math.Float64frombits", "math/bits.Add64"], named := ["math._cos", "math._sin", "math.mPi4"], plainKeys := false, apart := false, laid := [("math._sin", laid_math_sin), ("math._cos", laid_math_cos), ("math.mPi4", laid_math_mPi4)] }
def FnExactFarthestForSaid : Prop := fnExactFarthestForRow.holds Tryd.pinned (OpenSpec.ofChange fnExactFarthestForSpec)

/-- ITS FALSE NEIGHBOUR: 'it returns false'. Refute it at one input. -/
def fnExactFarthestForWrong : ChangeSpec := { name := "fnExactFarthestFor", fn := fun _ => fun
  | [d1, d2] => { results := [.lit (.bool false)], args := [d1, d2] }
  | _ => none }
def FnExactFarthestForWrongFalsely : Prop := fnExactFarthestForRow.holds Tryd.pinned (OpenSpec.ofChange fnExactFarthestForWrong)

/-- 'laws.FnExactHighestAt': WHATEVER THE INPUT: true; the input reads as it did. -/
def fnExactHighestAtSpec : ChangeSpec := { name := "fnExactHighestAt", fn := fun _ => fun
  | [d1, d2] => { results := [.lit (.bool true)], args := [d1, d2] }
  | _ => none }
def fnExactHighestAtRow : OpenClaim := { program := "ytibkadkodblefaadoor", sum := "e28d1294ed3ccca9a475df8896152bcad369d3c4a2fe08015ca3d22a89e59741", func := "loop.example/g01020/laws.FnExactHighestAt", spec := "fnExactHighestAt", inPlace := ["math.Float64bits", "math.Float64frombits", "math/bits.Add64"], named := ["math._cos", "math._sin", "math.mPi4"], plainKeys := false, apart := false, laid := [("math._sin", laid_math_sin), ("math._cos", laid_math_cos), ("math.mPi4", laid_math_mPi4)] }
def FnExactHighestAtSaid : Prop := fnExactHighestAtRow.holds Tryd.pinned (OpenSpec.ofChange fnExactHighestAtSpec)

/-- ITS FALSE NEIGHBOUR: 'it returns false'. Refute it at one input. -/
def fnExactHighestAtWrong : ChangeSpec := { name := "fnExactHighestAt", fn := fun _ => fun
  | [d1, d2] => { results := [.lit (.bool false)], args := [d1, d2] }
  | _ => none }
def FnExactHighestAtWrongFalsely : Prop := fnExactHighestAtRow.holds Tryd.pinned (OpenSpec.ofChange fnExactHighestAtWrong)

/-- 'laws.FnExactCanReach': WHATEVER THE INPUT: true; the input reads as it did. -/
def fnExactCanReachSpec : ChangeSpec := { name := "fnExactCanReach", fn := fun _ => fun
  | [d1, d2, d3] => { results := [.lit (.bool true)], args := [d1, d2, d3] }
  | _ => none }
def fnExactCanReachRow : OpenClaim := { program := "ytibkadkodblefaadoor", sum := "e28d1294ed3ccca9a475df8896152bcad369d3c4a2fe08015ca3d22a89e59741", func := "loop.example/g01020/laws.FnExactCanReach", spec := "fnExactCanReach", inPlace := ["math.Float64bits", "math.Float64frombits", "math/bits.Add64"], named := ["math._cos", "math._sin", "math.mPi4"], plainKeys := false, apart := false, laid := [("math._sin", laid_math_sin), ("math._cos", laid_math_cos), ("math.mPi4", laid_math_mPi4)] }
def FnExactCanReachSaid : Prop := fnExactCanReachRow.holds Tryd.pinned (OpenSpec.ofChange fnExactCanReachSpec)

/-- ITS FALSE NEIGHBOUR: 'it returns false'. Refute it at one input. -/
def fnExactCanReachWrong : ChangeSpec := { name := "fnExactCanReach", fn := fun _ => fun
  | [d1, d2, d3] => { results := [.lit (.bool false)], args := [d1, d2, d3] }
  | _ => none }
def FnExactCanReachWrongFalsely : Prop := fnExactCanReachRow.holds Tryd.pinned (OpenSpec.ofChange fnExactCanReachWrong)

/-- 'laws.FnExactAngleFor': WHATEVER THE INPUT: true; the input reads as it did. -/
def fnExactAngleForSpec : ChangeSpec := { name := "fnExactAngleFor", fn := fun _ => fun
  | [d1, d2, d3] => { results := [.lit (.bool true)], args := [d1, d2, d3] }
  | _ => none }
def fnExactAngleForRow : OpenClaim := { program := "ytibkadkodblefaadoor", sum := "e28d1294ed3ccca9a475df8896152bcad369d3c4a2fe08015ca3d22a89e59741", func := "loop.example/g01020/laws.FnExactAngleFor", spec := "fnExactAngleFor", inPlace := ["math.Float64bits", "math.Float64frombits", "math/bits.Add64"], named := ["math._cos", "math._sin", "math.mPi4"], plainKeys := false, apart := false, laid := [("math._sin", laid_math_sin), ("math._cos", laid_math_cos), ("math.mPi4", laid_math_mPi4)] }
def FnExactAngleForSaid : Prop := fnExactAngleForRow.holds Tryd.pinned (OpenSpec.ofChange fnExactAngleForSpec)

/-- ITS FALSE NEIGHBOUR: 'it returns false'. Refute it at one input. -/
def fnExactAngleForWrong : ChangeSpec := { name := "fnExactAngleFor", fn := fun _ => fun
  | [d1, d2, d3] => { results := [.lit (.bool false)], args := [d1, d2, d3] }
  | _ => none }
def FnExactAngleForWrongFalsely : Prop := fnExactAngleForRow.holds Tryd.pinned (OpenSpec.ofChange fnExactAngleForWrong)

/-- 'laws.FnExactReachedFrom': WHATEVER THE INPUT: true; the input reads as it did. -/
def fnExactReachedFromSpec : ChangeSpec := { name := "fnExactReachedFrom", fn := fun _ => fun
  | [d1, d2, d3, d4] => { results := [.lit (.bool true)], args := [d1, d2, d3, d4] }
  | _ => none }
def fnExactReachedFromRow : OpenClaim := { program := "ytibkadkodblefaadoor", sum := "e28d1294ed3ccca9a475df8896152bcad369d3c4a2fe08015ca3d22a89e59741", func := "loop.example/g01020/laws.FnExactReachedFrom", spec := "fnExactReachedFrom", inPlace := ["math.Float64bits", "math.Float64frombits", "math/bits.Add64"], named := ["math._cos", "math._sin", "math.mPi4"], plainKeys := false, apart := false, laid := [("math._sin", laid_math_sin), ("math._cos", laid_math_cos), ("math.mPi4", laid_math_mPi4)] }
def FnExactReachedFromSaid : Prop := fnExactReachedFromRow.holds Tryd.pinned (OpenSpec.ofChange fnExactReachedFromSpec)

/-- ITS FALSE NEIGHBOUR: 'it returns false'. Refute it at one input. -/
def fnExactReachedFromWrong : ChangeSpec := { name := "fnExactReachedFrom", fn := fun _ => fun
  | [d1, d2, d3, d4] => { results := [.lit (.bool false)], args := [d1, d2, d3, d4] }
  | _ => none }
def FnExactReachedFromWrongFalsely : Prop := fnExactReachedFromRow.holds Tryd.pinned (OpenSpec.ofChange fnExactReachedFromWrong)

/-- 'laws.FnExactBestPlace': WHATEVER THE INPUT: true; the input reads as it did. -/
def fnExactBestPlaceSpec : ChangeSpec := { name := "fnExactBestPlace", fn := fun _ => fun
  | [d1, d2, d3, d4] => { results := [.lit (.bool true)], args := [d1, d2, d3, d4] }
  | _ => none }
def fnExactBestPlaceRow : OpenClaim := { program := "ytibkadkodblefaadoor", sum := "e28d1294ed3ccca9a475df8896152bcad369d3c4a2fe08015ca3d22a89e59741", func := "loop.example/g01020/laws.FnExactBestPlace", spec := "fnExactBestPlace", inPlace := ["math.Float64bits", "math.Float64frombits", "math/bits.Add64"], unfollowed := true, recurses := true, named := ["math._cos", "math._sin", "math.mPi4"], plainKeys := false, apart := false, laid := [("math._sin", laid_math_sin), ("math._cos", laid_math_cos), ("math.mPi4", laid_math_mPi4)] }
def FnExactBestPlaceSaid : Prop := fnExactBestPlaceRow.holds Tryd.pinned (OpenSpec.ofChange fnExactBestPlaceSpec)

/-- ITS FALSE NEIGHBOUR: 'it returns false'. Refute it at one input. -/
def fnExactBestPlaceWrong : ChangeSpec := { name := "fnExactBestPlace", fn := fun _ => fun
  | [d1, d2, d3, d4] => { results := [.lit (.bool false)], args := [d1, d2, d3, d4] }
  | _ => none }
def FnExactBestPlaceWrongFalsely : Prop := fnExactBestPlaceRow.holds Tryd.pinned (OpenSpec.ofChange fnExactBestPlaceWrong)

/-- 'laws.FnLadders': WHATEVER THE INPUT: true; the input reads as it did. -/
def fnLaddersSpec : ChangeSpec := { name := "fnLadders", fn := fun _ => fun
  | [d1, d2] => { results := [.lit (.bool true)], args := [d1, d2] }
  | _ => none }
def fnLaddersRow : OpenClaim := { program := "ytibkadkodblefaadoor", sum := "e28d1294ed3ccca9a475df8896152bcad369d3c4a2fe08015ca3d22a89e59741", func := "loop.example/g01020/laws.FnLadders", spec := "fnLadders", inPlace := ["math.Float64bits", "math.Float64frombits", "math/bits.Add64"], named := ["math._cos", "math._sin", "math.mPi4"], plainKeys := false, apart := false, laid := [("math._sin", laid_math_sin), ("math._cos", laid_math_cos), ("math.mPi4", laid_math_mPi4)] }
def FnLaddersSaid : Prop := fnLaddersRow.holds Tryd.pinned (OpenSpec.ofChange fnLaddersSpec)

/-- ITS FALSE NEIGHBOUR: 'it returns false'. Refute it at one input. -/
def fnLaddersWrong : ChangeSpec := { name := "fnLadders", fn := fun _ => fun
  | [d1, d2] => { results := [.lit (.bool false)], args := [d1, d2] }
  | _ => none }
def FnLaddersWrongFalsely : Prop := fnLaddersRow.holds Tryd.pinned (OpenSpec.ofChange fnLaddersWrong)

/-- 'laws.FnExactFewestPlaces': WHATEVER THE INPUT: true; the input reads as it did. -/
def fnExactFewestPlacesSpec : ChangeSpec := { name := "fnExactFewestPlaces", fn := fun _ => fun
  | [d1, d2, d3] => { results := [.lit (.bool true)], args := [d1, d2, d3] }
  | _ => none }
def fnExactFewestPlacesRow : OpenClaim := { program := "ytibkadkodblefaadoor", sum := "e28d1294ed3ccca9a475df8896152bcad369d3c4a2fe08015ca3d22a89e59741", func := "loop.example/g01020/laws.FnExactFewestPlaces", spec := "fnExactFewestPlaces", inPlace := ["math.Float64bits", "math.Float64frombits", "math/bits.Add64"], unfollowed := true, recurses := true, named := ["math._cos", "math._sin", "math.mPi4"], plainKeys := false, apart := false, laid := [("math._sin", laid_math_sin), ("math._cos", laid_math_cos), ("math.mPi4", laid_math_mPi4)] }
def FnExactFewestPlacesSaid : Prop := fnExactFewestPlacesRow.holds Tryd.pinned (OpenSpec.ofChange fnExactFewestPlacesSpec)

/-- ITS FALSE NEIGHBOUR: 'it returns false'. Refute it at one input. -/
def fnExactFewestPlacesWrong : ChangeSpec := { name := "fnExactFewestPlaces", fn := fun _ => fun
  | [d1, d2, d3] => { results := [.lit (.bool false)], args := [d1, d2, d3] }
  | _ => none }
def FnExactFewestPlacesWrongFalsely : Prop := fnExactFewestPlacesRow.holds Tryd.pinned (OpenSpec.ofChange fnExactFewestPlacesWrong)

/-- 'laws.FnWindows': WHATEVER THE INPUT: true; the input reads as it did. -/
def fnWindowsSpec : ChangeSpec := { name := "fnWindows", fn := fun _ => fun
  | [d1, d2] => { results := [.lit (.bool true)], args := [d1, d2] }
  | _ => none }
def fnWindowsRow : OpenClaim := { program := "ytibkadkodblefaadoor", sum := "e28d1294ed3ccca9a475df8896152bcad369d3c4a2fe08015ca3d22a89e59741", func := "loop.example/g01020/laws.FnWindows", spec := "fnWindows", inPlace := ["math.Float64bits", "math.Float64frombits", "math/bits.Add64"], unfollowed := true, recurses := true, named := ["math._cos", "math._sin", "math.mPi4"], plainKeys := false, apart := false, laid := [("math._sin", laid_math_sin), ("math._cos", laid_math_cos), ("math.mPi4", laid_math_mPi4)] }
def FnWindowsSaid : Prop := fnWindowsRow.holds Tryd.pinned (OpenSpec.ofChange fnWindowsSpec)

/-- ITS FALSE NEIGHBOUR: 'it returns false'. Refute it at one input. -/
def fnWindowsWrong : ChangeSpec := { name := "fnWindows", fn := fun _ => fun
  | [d1, d2] => { results := [.lit (.bool false)], args := [d1, d2] }
  | _ => none }
def FnWindowsWrongFalsely : Prop := fnWindowsRow.holds Tryd.pinned (OpenSpec.ofChange fnWindowsWrong)

/- THE SECOND FORM. 'bulk': how many values and letters a reading holds, each counted each time it is reached (what is shared counts as often as it is met; a slice's spare places count too). A statement '..UptoSaid' is the law's where the arguments, and the package variables that the reading takes, are together of bulk at most 1048576: NARROWER than '..Said'. Prove '..Said' where nothing that the law and all that it calls make is longer than what came in: it says more and counts as full. Else prove '..UptoSaid'. A law counts once. -/
mutual
def uptoBulk {H : Type} : DataW H → Nat
  | .lit (.string bytes) => bytes.length + 1
  | .lit _ => 1
  | .nil => 1
  | .ptr d => uptoBulk d + 1
  | .slice elems spare => uptoBulkAll elems + uptoBulkAll spare + 1
  | .agg parts => uptoBulkAll parts + 1
  | .iface _ d => uptoBulk d + 1
  | .map entries => uptoBulkEntries entries + 1
  | .held _ => 1
def uptoBulkAll {H : Type} : List (DataW H) → Nat
  | [] => 0
  | d :: r => uptoBulk d + uptoBulkAll r
def uptoBulkEntries {H : Type} : List (Lit × DataW H) → Nat
  | [] => 0
  | x :: r => uptoBulkEntry x + uptoBulkEntries r
def uptoBulkEntry {H : Type} : Lit × DataW H → Nat
  | (.string bytes, d) => bytes.length + uptoBulk d + 1
  | (_, d) => uptoBulk d + 1
 end
def uptoSmall : (H : Type) → List (DataW H) → Bool := fun _ ds => decide (uptoBulkAll ds ≤ 1048576)
def OpenSpec.upto (s : _root_.Go.ChangeSpec) : _root_.Go.OpenSpec := { _root_.Go.OpenSpec.ofChange s with cond := some uptoSmall }

/-- 'laws.FnExactSineTable', WHERE WHAT IT READS IS OF BULK AT MOST 1048576: true; the input reads as it did. -/
def fnExactSineTableUptoRow : OpenClaim := { program := "ytibkadkodblefaadoor", sum := "e28d1294ed3ccca9a475df8896152bcad369d3c4a2fe08015ca3d22a89e59741", func := "loop.example/g01020/laws.FnExactSineTable", spec := "fnExactSineTable", inPlace := ["math.Float64bits", "math.Float64frombits", "math/bits.Add64"], named := ["math._cos", "math._sin", "math.mPi4"], plainKeys := false, apart := false, laid := [("math._sin", laid_math_sin), ("math._cos", laid_math_cos), ("math.mPi4", laid_math_mPi4)], narrowed := true }
def FnExactSineTableUptoSaid : Prop := fnExactSineTableUptoRow.holds Tryd.pinned (OpenSpec.upto fnExactSineTableSpec)

/-- 'laws.FnExactTipOf', WHERE WHAT IT READS IS OF BULK AT MOST 1048576: true; the input reads as it did. -/
def fnExactTipOfUptoRow : OpenClaim := { program := "ytibkadkodblefaadoor", sum := "e28d1294ed3ccca9a475df8896152bcad369d3c4a2fe08015ca3d22a89e59741", func := "loop.example/g01020/laws.FnExactTipOf", spec := "fnExactTipOf", inPlace := ["math.Float64bits", "math.Float64frombits", "math/bits.Add64"], named := ["math._cos", "math._sin", "math.mPi4"], plainKeys := false, apart := false, laid := [("math._sin", laid_math_sin), ("math._cos", laid_math_cos), ("math.mPi4", laid_math_mPi4)], narrowed := true }
def FnExactTipOfUptoSaid : Prop := fnExactTipOfUptoRow.holds Tryd.pinned (OpenSpec.upto fnExactTipOfSpec)

/-- 'laws.FnExactFarthestFor', WHERE WHAT IT READS IS OF BULK AT MOST 1048576: true; the input reads as it did. -/
def fnExactFarthestForUptoRow : OpenClaim := { program := "ytibkadkodblefaadoor", sum := "e28d1294ed3ccca9a475df8896152bcad369d3c4a2fe08015ca3d22a89e59741", func := "loop.example/g01020/laws.FnExactFarthestFor", spec := "fnExactFarthestFor", inPlace := ["math.Float64bits", "math.Float64frombits", "math/bits.Add64"], named := ["math._cos", "math._sin", "math.mPi4"], plainKeys := false, apart := false, laid := [("math._sin", laid_math_sin), ("math._cos", laid_math_cos), ("math.mPi4", laid_math_mPi4)], narrowed := true }
def FnExactFarthestForUptoSaid : Prop := fnExactFarthestForUptoRow.holds Tryd.pinned (OpenSpec.upto fnExactFarthestForSpec)

/-- 'laws.FnExactHighestAt', WHERE WHAT IT READS IS OF BULK AT MOST 1048576: true; the input reads as it did. -/
def fnExactHighestAtUptoRow : OpenClaim := { program := "ytibkadkodblefaadoor", sum := "e28d1294ed3ccca9a475df8896152bcad369d3c4a2fe08015ca3d22a89e59741", func := "loop.example/g01020/laws.FnExactHighestAt", spec := "fnExactHighestAt", inPlace := ["math.Float64bits", "math.Float64frombits", "math/bits.Add64"], named := ["math._cos", "math._sin", "math.mPi4"], plainKeys := false, apart := false, laid := [("math._sin", laid_math_sin), ("math._cos", laid_math_cos), ("math.mPi4", laid_math_mPi4)], narrowed := true }
def FnExactHighestAtUptoSaid : Prop := fnExactHighestAtUptoRow.holds Tryd.pinned (OpenSpec.upto fnExactHighestAtSpec)

/-- 'laws.FnExactCanReach', WHERE WHAT IT READS IS OF BULK AT MOST 1048576: true; the input reads as it did. -/
def fnExactCanReachUptoRow : OpenClaim := { program := "ytibkadkodblefaadoor", sum := "e28d1294ed3ccca9a475df8896152bcad369d3c4a2fe08015ca3d22a89e59741", func := "loop.example/g01020/laws.FnExactCanReach", spec := "fnExactCanReach", inPlace := ["math.Float64bits", "math.Float64frombits", "math/bits.Add64"], named := ["math._cos", "math._sin", "math.mPi4"], plainKeys := false, apart := false, laid := [("math._sin", laid_math_sin), ("math._cos", laid_math_cos), ("math.mPi4", laid_math_mPi4)], narrowed := true }
def FnExactCanReachUptoSaid : Prop := fnExactCanReachUptoRow.holds Tryd.pinned (OpenSpec.upto fnExactCanReachSpec)

/-- 'laws.FnExactAngleFor', WHERE WHAT IT READS IS OF BULK AT MOST 1048576: true; the input reads as it did. -/
def fnExactAngleForUptoRow : OpenClaim := { program := "ytibkadkodblefaadoor", sum := "e28d1294ed3ccca9a475df8896152bcad369d3c4a2fe08015ca3d22a89e59741", func := "loop.example/g01020/laws.FnExactAngleFor", spec := "fnExactAngleFor", inPlace := ["math.Float64bits", "math.Float64frombits", "math/bits.Add64"], named := ["math._cos", "math._sin", "math.mPi4"], plainKeys := false, apart := false, laid := [("math._sin", laid_math_sin), ("math._cos", laid_math_cos), ("math.mPi4", laid_math_mPi4)], narrowed := true }
def FnExactAngleForUptoSaid : Prop := fnExactAngleForUptoRow.holds Tryd.pinned (OpenSpec.upto fnExactAngleForSpec)

/-- 'laws.FnExactReachedFrom', WHERE WHAT IT READS IS OF BULK AT MOST 1048576: true; the input reads as it did. -/
def fnExactReachedFromUptoRow : OpenClaim := { program := "ytibkadkodblefaadoor", sum := "e28d1294ed3ccca9a475df8896152bcad369d3c4a2fe08015ca3d22a89e59741", func := "loop.example/g01020/laws.FnExactReachedFrom", spec := "fnExactReachedFrom", inPlace := ["math.Float64bits", "math.Float64frombits", "math/bits.Add64"], named := ["math._cos", "math._sin", "math.mPi4"], plainKeys := false, apart := false, laid := [("math._sin", laid_math_sin), ("math._cos", laid_math_cos), ("math.mPi4", laid_math_mPi4)], narrowed := true }
def FnExactReachedFromUptoSaid : Prop := fnExactReachedFromUptoRow.holds Tryd.pinned (OpenSpec.upto fnExactReachedFromSpec)

/-- 'laws.FnExactBestPlace', WHERE WHAT IT READS IS OF BULK AT MOST 1048576: true; the input reads as it did. -/
def fnExactBestPlaceUptoRow : OpenClaim := { program := "ytibkadkodblefaadoor", sum := "e28d1294ed3ccca9a475df8896152bcad369d3c4a2fe08015ca3d22a89e59741", func := "loop.example/g01020/laws.FnExactBestPlace", spec := "fnExactBestPlace", inPlace := ["math.Float64bits", "math.Float64frombits", "math/bits.Add64"], unfollowed := true, recurses := true, named := ["math._cos", "math._sin", "math.mPi4"], plainKeys := false, apart := false, laid := [("math._sin", laid_math_sin), ("math._cos", laid_math_cos), ("math.mPi4", laid_math_mPi4)], narrowed := true }
def FnExactBestPlaceUptoSaid : Prop := fnExactBestPlaceUptoRow.holds Tryd.pinned (OpenSpec.upto fnExactBestPlaceSpec)

/-- 'laws.FnLadders', WHERE WHAT IT READS IS OF BULK AT MOST 1048576: true; the input reads as it did. -/
def fnLaddersUptoRow : OpenClaim := { program := "ytibkadkodblefaadoor", sum := "e28d1294ed3ccca9a475df8896152bcad369d3c4a2fe08015ca3d22a89e59741", func := "loop.example/g01020/laws.FnLadders", spec := "fnLadders", inPlace := ["math.Float64bits", "math.Float64frombits", "math/bits.Add64"], named := ["math._cos", "math._sin", "math.mPi4"], plainKeys := false, apart := false, laid := [("math._sin", laid_math_sin), ("math._cos", laid_math_cos), ("math.mPi4", laid_math_mPi4)], narrowed := true }
def FnLaddersUptoSaid : Prop := fnLaddersUptoRow.holds Tryd.pinned (OpenSpec.upto fnLaddersSpec)

/-- 'laws.FnExactFewestPlaces', WHERE WHAT IT READS IS OF BULK AT MOST 1048576: true; the input reads as it did. -/
def fnExactFewestPlacesUptoRow : OpenClaim := { program := "ytibkadkodblefaadoor", sum := "e28d1294ed3ccca9a475df8896152bcad369d3c4a2fe08015ca3d22a89e59741", func := "loop.example/g01020/laws.FnExactFewestPlaces", spec := "fnExactFewestPlaces", inPlace := ["math.Float64bits", "math.Float64frombits", "math/bits.Add64"], unfollowed := true, recurses := true, named := ["math._cos", "math._sin", "math.mPi4"], plainKeys := false, apart := false, laid := [("math._sin", laid_math_sin), ("math._cos", laid_math_cos), ("math.mPi4", laid_math_mPi4)], narrowed := true }
def FnExactFewestPlacesUptoSaid : Prop := fnExactFewestPlacesUptoRow.holds Tryd.pinned (OpenSpec.upto fnExactFewestPlacesSpec)

/-- 'laws.FnWindows', WHERE WHAT IT READS IS OF BULK AT MOST 1048576: true; the input reads as it did. -/
def fnWindowsUptoRow : OpenClaim := { program := "ytibkadkodblefaadoor", sum := "e28d1294ed3ccca9a475df8896152bcad369d3c4a2fe08015ca3d22a89e59741", func := "loop.example/g01020/laws.FnWindows", spec := "fnWindows", inPlace := ["math.Float64bits", "math.Float64frombits", "math/bits.Add64"], unfollowed := true, recurses := true, named := ["math._cos", "math._sin", "math.mPi4"], plainKeys := false, apart := false, laid := [("math._sin", laid_math_sin), ("math._cos", laid_math_cos), ("math.mPi4", laid_math_mPi4)], narrowed := true }
def FnWindowsUptoSaid : Prop := fnWindowsUptoRow.holds Tryd.pinned (OpenSpec.upto fnWindowsSpec)

end Rows
end Go.Proofs.YtibkadkodblefaaDoor
