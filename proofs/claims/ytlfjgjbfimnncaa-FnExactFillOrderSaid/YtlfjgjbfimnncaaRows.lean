/-
  No cell of these rows narrows 'for every input' (looked for: loops, veiled, ifaces, maps, wideKeys, modest, calm, conditions, laid).
  DERIVED. THE GIVEN ROWS OF THIS SEAT. 12 by the template 'for every input the law returns true; each argument reads behind the call as it read before'; 0 by the template 'total and deterministic' (their statements: YtlfjgjbfimnncaaTotals.lean).
  GIVEN WITH THE SEED: the statements are not yours to turn. If you find one false, say at which input.
  Laid BY PROGRAM, IN A SANDBOX (cutbox-rows.mjs): the forced cells as the released guide's own fill.sh prints them over the translation 37d501c916b2ca20… (all of the seat's roots in one cut). By AI agents, Wed Nov 11 2026. No macro, syntax, notation, axiom, sorry.
-/
import Derived.Test.YtlfjgjbfimnncaaChecked
import GoSem.Claim
import GoSem.ClaimJoined
import GoSem.ClaimMapViews
import Derived.JoinedTies
import Derived.KernelRfl
namespace Go.Proofs.Ytlfjgjbfimnncaa
/- THE CELL 'sum', in the pinned program and in every row, IS THE sha256 OF THE DUMP (.gsa) THAT YtlfjgjbfimnncaaProg.lean LOADS. Nothing in Lean hashes anything: it is a label: what it is worth is what the hold of that sum in a sandbox is worth. -/
noncomputable def Try.pinned : Pinned := { name := "ytlfjgjbfimnncaa", sum := "37d501c916b2ca20d3d2dade1e6a83242a50c4bd9b983457ddfefed18a269c2e", checked := Try.checked }
namespace Rows
def none {H : Type} : Left H := { results := [], args := [] }

/-- 'laws.FnExactFoamFor': WHATEVER THE INPUT: true; the input reads as it did. -/
def fnExactFoamForSpec : ChangeSpec := { name := "fnExactFoamFor", fn := fun _ => fun
  | [d1, d2, d3, d4] => { results := [.lit (.bool true)], args := [d1, d2, d3, d4] }
  | _ => none }
def fnExactFoamForRow : OpenClaim := { program := "ytlfjgjbfimnncaa", sum := "37d501c916b2ca20d3d2dade1e6a83242a50c4bd9b983457ddfefed18a269c2e", func := "loop.example/g01020/laws.FnExactFoamFor", spec := "fnExactFoamFor", plainKeys := false, apart := false }
def FnExactFoamForSaid : Prop := fnExactFoamForRow.holds Try.pinned (OpenSpec.ofChange fnExactFoamForSpec)

/-- ITS FALSE NEIGHBOUR: 'it returns false'. Refute it at one input. -/
def fnExactFoamForWrong : ChangeSpec := { name := "fnExactFoamFor", fn := fun _ => fun
  | [d1, d2, d3, d4] => { results := [.lit (.bool false)], args := [d1, d2, d3, d4] }
  | _ => none }
def FnExactFoamForWrongFalsely : Prop := fnExactFoamForRow.holds Try.pinned (OpenSpec.ofChange fnExactFoamForWrong)

/-- 'laws.FnExactIsLadder': WHATEVER THE INPUT: true; the input reads as it did. -/
def fnExactIsLadderSpec : ChangeSpec := { name := "fnExactIsLadder", fn := fun _ => fun
  | [d] => { results := [.lit (.bool true)], args := [d] }
  | _ => none }
def fnExactIsLadderRow : OpenClaim := { program := "ytlfjgjbfimnncaa", sum := "37d501c916b2ca20d3d2dade1e6a83242a50c4bd9b983457ddfefed18a269c2e", func := "loop.example/g01020/laws.FnExactIsLadder", spec := "fnExactIsLadder", plainKeys := false, apart := false }
def FnExactIsLadderSaid : Prop := fnExactIsLadderRow.holds Try.pinned (OpenSpec.ofChange fnExactIsLadderSpec)

/-- ITS FALSE NEIGHBOUR: 'it returns false'. Refute it at one input. -/
def fnExactIsLadderWrong : ChangeSpec := { name := "fnExactIsLadder", fn := fun _ => fun
  | [d] => { results := [.lit (.bool false)], args := [d] }
  | _ => none }
def FnExactIsLadderWrongFalsely : Prop := fnExactIsLadderRow.holds Try.pinned (OpenSpec.ofChange fnExactIsLadderWrong)

/-- 'laws.FnExactIsTanker': WHATEVER THE INPUT: true; the input reads as it did. -/
def fnExactIsTankerSpec : ChangeSpec := { name := "fnExactIsTanker", fn := fun _ => fun
  | [d] => { results := [.lit (.bool true)], args := [d] }
  | _ => none }
def fnExactIsTankerRow : OpenClaim := { program := "ytlfjgjbfimnncaa", sum := "37d501c916b2ca20d3d2dade1e6a83242a50c4bd9b983457ddfefed18a269c2e", func := "loop.example/g01020/laws.FnExactIsTanker", spec := "fnExactIsTanker", plainKeys := false, apart := false }
def FnExactIsTankerSaid : Prop := fnExactIsTankerRow.holds Try.pinned (OpenSpec.ofChange fnExactIsTankerSpec)

/-- ITS FALSE NEIGHBOUR: 'it returns false'. Refute it at one input. -/
def fnExactIsTankerWrong : ChangeSpec := { name := "fnExactIsTanker", fn := fun _ => fun
  | [d] => { results := [.lit (.bool false)], args := [d] }
  | _ => none }
def FnExactIsTankerWrongFalsely : Prop := fnExactIsTankerRow.holds Try.pinned (OpenSpec.ofChange fnExactIsTankerWrong)

/-- 'laws.FnExactFoamLasts': WHATEVER THE INPUT: true; the input reads as it did. -/
def fnExactFoamLastsSpec : ChangeSpec := { name := "fnExactFoamLasts", fn := fun _ => fun
  | [d1, d2, d3, d4] => { results := [.lit (.bool true)], args := [d1, d2, d3, d4] }
  | _ => none }
def fnExactFoamLastsRow : OpenClaim := { program := "ytlfjgjbfimnncaa", sum := "37d501c916b2ca20d3d2dade1e6a83242a50c4bd9b983457ddfefed18a269c2e", func := "loop.example/g01020/laws.FnExactFoamLasts", spec := "fnExactFoamLasts", plainKeys := false, apart := false }
def FnExactFoamLastsSaid : Prop := fnExactFoamLastsRow.holds Try.pinned (OpenSpec.ofChange fnExactFoamLastsSpec)

/-- ITS FALSE NEIGHBOUR: 'it returns false'. Refute it at one input. -/
def fnExactFoamLastsWrong : ChangeSpec := { name := "fnExactFoamLasts", fn := fun _ => fun
  | [d1, d2, d3, d4] => { results := [.lit (.bool false)], args := [d1, d2, d3, d4] }
  | _ => none }
def FnExactFoamLastsWrongFalsely : Prop := fnExactFoamLastsRow.holds Try.pinned (OpenSpec.ofChange fnExactFoamLastsWrong)

/-- 'laws.FnExactCycleSeconds': WHATEVER THE INPUT: true; the input reads as it did. -/
def fnExactCycleSecondsSpec : ChangeSpec := { name := "fnExactCycleSeconds", fn := fun _ => fun
  | [d] => { results := [.lit (.bool true)], args := [d] }
  | _ => none }
def fnExactCycleSecondsRow : OpenClaim := { program := "ytlfjgjbfimnncaa", sum := "37d501c916b2ca20d3d2dade1e6a83242a50c4bd9b983457ddfefed18a269c2e", func := "loop.example/g01020/laws.FnExactCycleSeconds", spec := "fnExactCycleSeconds", plainKeys := false, apart := false }
def FnExactCycleSecondsSaid : Prop := fnExactCycleSecondsRow.holds Try.pinned (OpenSpec.ofChange fnExactCycleSecondsSpec)

/-- ITS FALSE NEIGHBOUR: 'it returns false'. Refute it at one input. -/
def fnExactCycleSecondsWrong : ChangeSpec := { name := "fnExactCycleSeconds", fn := fun _ => fun
  | [d] => { results := [.lit (.bool false)], args := [d] }
  | _ => none }
def FnExactCycleSecondsWrongFalsely : Prop := fnExactCycleSecondsRow.holds Try.pinned (OpenSpec.ofChange fnExactCycleSecondsWrong)

/-- 'laws.FnExactTankersFor': WHATEVER THE INPUT: true; the input reads as it did. -/
def fnExactTankersForSpec : ChangeSpec := { name := "fnExactTankersFor", fn := fun _ => fun
  | [d1, d2] => { results := [.lit (.bool true)], args := [d1, d2] }
  | _ => none }
def fnExactTankersForRow : OpenClaim := { program := "ytlfjgjbfimnncaa", sum := "37d501c916b2ca20d3d2dade1e6a83242a50c4bd9b983457ddfefed18a269c2e", func := "loop.example/g01020/laws.FnExactTankersFor", spec := "fnExactTankersFor", plainKeys := false, apart := false }
def FnExactTankersForSaid : Prop := fnExactTankersForRow.holds Try.pinned (OpenSpec.ofChange fnExactTankersForSpec)

/-- ITS FALSE NEIGHBOUR: 'it returns false'. Refute it at one input. -/
def fnExactTankersForWrong : ChangeSpec := { name := "fnExactTankersFor", fn := fun _ => fun
  | [d1, d2] => { results := [.lit (.bool false)], args := [d1, d2] }
  | _ => none }
def FnExactTankersForWrongFalsely : Prop := fnExactTankersForRow.holds Try.pinned (OpenSpec.ofChange fnExactTankersForWrong)

/-- 'laws.FnExactFlowOf': WHATEVER THE INPUT: true; the input reads as it did. -/
def fnExactFlowOfSpec : ChangeSpec := { name := "fnExactFlowOf", fn := fun _ => fun
  | [d] => { results := [.lit (.bool true)], args := [d] }
  | _ => none }
def fnExactFlowOfRow : OpenClaim := { program := "ytlfjgjbfimnncaa", sum := "37d501c916b2ca20d3d2dade1e6a83242a50c4bd9b983457ddfefed18a269c2e", func := "loop.example/g01020/laws.FnExactFlowOf", spec := "fnExactFlowOf", plainKeys := false, apart := false }
def FnExactFlowOfSaid : Prop := fnExactFlowOfRow.holds Try.pinned (OpenSpec.ofChange fnExactFlowOfSpec)

/-- ITS FALSE NEIGHBOUR: 'it returns false'. Refute it at one input. -/
def fnExactFlowOfWrong : ChangeSpec := { name := "fnExactFlowOf", fn := fun _ => fun
  | [d] => { results := [.lit (.bool false)], args := [d] }
  | _ => none }
def FnExactFlowOfWrongFalsely : Prop := fnExactFlowOfRow.holds Try.pinned (OpenSpec.ofChange fnExactFlowOfWrong)

/-- 'laws.FnExactDryAt': WHATEVER THE INPUT: true; the input reads as it did. -/
def fnExactDryAtSpec : ChangeSpec := { name := "fnExactDryAt", fn := fun _ => fun
  | [d1, d2, d3] => { results := [.lit (.bool true)], args := [d1, d2, d3] }
  | _ => none }
def fnExactDryAtRow : OpenClaim := { program := "ytlfjgjbfimnncaa", sum := "37d501c916b2ca20d3d2dade1e6a83242a50c4bd9b983457ddfefed18a269c2e", func := "loop.example/g01020/laws.FnExactDryAt", spec := "fnExactDryAt", plainKeys := false, apart := false }
def FnExactDryAtSaid : Prop := fnExactDryAtRow.holds Try.pinned (OpenSpec.ofChange fnExactDryAtSpec)

/-- ITS FALSE NEIGHBOUR: 'it returns false'. Refute it at one input. -/
def fnExactDryAtWrong : ChangeSpec := { name := "fnExactDryAt", fn := fun _ => fun
  | [d1, d2, d3] => { results := [.lit (.bool false)], args := [d1, d2, d3] }
  | _ => none }
def FnExactDryAtWrongFalsely : Prop := fnExactDryAtRow.holds Try.pinned (OpenSpec.ofChange fnExactDryAtWrong)

/-- 'laws.FnExactLeastStore': WHATEVER THE INPUT: true; the input reads as it did. -/
def fnExactLeastStoreSpec : ChangeSpec := { name := "fnExactLeastStore", fn := fun _ => fun
  | [d1, d2, d3] => { results := [.lit (.bool true)], args := [d1, d2, d3] }
  | _ => none }
def fnExactLeastStoreRow : OpenClaim := { program := "ytlfjgjbfimnncaa", sum := "37d501c916b2ca20d3d2dade1e6a83242a50c4bd9b983457ddfefed18a269c2e", func := "loop.example/g01020/laws.FnExactLeastStore", spec := "fnExactLeastStore", plainKeys := false, apart := false }
def FnExactLeastStoreSaid : Prop := fnExactLeastStoreRow.holds Try.pinned (OpenSpec.ofChange fnExactLeastStoreSpec)

/-- ITS FALSE NEIGHBOUR: 'it returns false'. Refute it at one input. -/
def fnExactLeastStoreWrong : ChangeSpec := { name := "fnExactLeastStore", fn := fun _ => fun
  | [d1, d2, d3] => { results := [.lit (.bool false)], args := [d1, d2, d3] }
  | _ => none }
def FnExactLeastStoreWrongFalsely : Prop := fnExactLeastStoreRow.holds Try.pinned (OpenSpec.ofChange fnExactLeastStoreWrong)

/-- 'laws.FnExactFillOrder': WHATEVER THE INPUT: true; the input reads as it did. -/
def fnExactFillOrderSpec : ChangeSpec := { name := "fnExactFillOrder", fn := fun _ => fun
  | [d] => { results := [.lit (.bool true)], args := [d] }
  | _ => none }
def fnExactFillOrderRow : OpenClaim := { program := "ytlfjgjbfimnncaa", sum := "37d501c916b2ca20d3d2dade1e6a83242a50c4bd9b983457ddfefed18a269c2e", func := "loop.example/g01020/laws.FnExactFillOrder", spec := "fnExactFillOrder", unfollowed := true, recurses := true, plainKeys := false, apart := false }
def FnExactFillOrderSaid : Prop := fnExactFillOrderRow.holds Try.pinned (OpenSpec.ofChange fnExactFillOrderSpec)

/-- ITS FALSE NEIGHBOUR: 'it returns false'. Refute it at one input. -/
def fnExactFillOrderWrong : ChangeSpec := { name := "fnExactFillOrder", fn := fun _ => fun
  | [d] => { results := [.lit (.bool false)], args := [d] }
  | _ => none }
def FnExactFillOrderWrongFalsely : Prop := fnExactFillOrderRow.holds Try.pinned (OpenSpec.ofChange fnExactFillOrderWrong)

/-- 'laws.FnExactDeliveries': WHATEVER THE INPUT: true; the input reads as it did. -/
def fnExactDeliveriesSpec : ChangeSpec := { name := "fnExactDeliveries", fn := fun _ => fun
  | [d1, d2] => { results := [.lit (.bool true)], args := [d1, d2] }
  | _ => none }
def fnExactDeliveriesRow : OpenClaim := { program := "ytlfjgjbfimnncaa", sum := "37d501c916b2ca20d3d2dade1e6a83242a50c4bd9b983457ddfefed18a269c2e", func := "loop.example/g01020/laws.FnExactDeliveries", spec := "fnExactDeliveries", unfollowed := true, recurses := true, plainKeys := false, apart := false }
def FnExactDeliveriesSaid : Prop := fnExactDeliveriesRow.holds Try.pinned (OpenSpec.ofChange fnExactDeliveriesSpec)

/-- ITS FALSE NEIGHBOUR: 'it returns false'. Refute it at one input. -/
def fnExactDeliveriesWrong : ChangeSpec := { name := "fnExactDeliveries", fn := fun _ => fun
  | [d1, d2] => { results := [.lit (.bool false)], args := [d1, d2] }
  | _ => none }
def FnExactDeliveriesWrongFalsely : Prop := fnExactDeliveriesRow.holds Try.pinned (OpenSpec.ofChange fnExactDeliveriesWrong)

/-- 'laws.FnFoam': WHATEVER THE INPUT: true; the input reads as it did. -/
def fnFoamSpec : ChangeSpec := { name := "fnFoam", fn := fun _ => fun
  | [d1, d2] => { results := [.lit (.bool true)], args := [d1, d2] }
  | _ => none }
def fnFoamRow : OpenClaim := { program := "ytlfjgjbfimnncaa", sum := "37d501c916b2ca20d3d2dade1e6a83242a50c4bd9b983457ddfefed18a269c2e", func := "loop.example/g01020/laws.FnFoam", spec := "fnFoam", unfollowed := true, recurses := true, plainKeys := false, apart := false }
def FnFoamSaid : Prop := fnFoamRow.holds Try.pinned (OpenSpec.ofChange fnFoamSpec)

/-- ITS FALSE NEIGHBOUR: 'it returns false'. Refute it at one input. -/
def fnFoamWrong : ChangeSpec := { name := "fnFoam", fn := fun _ => fun
  | [d1, d2] => { results := [.lit (.bool false)], args := [d1, d2] }
  | _ => none }
def FnFoamWrongFalsely : Prop := fnFoamRow.holds Try.pinned (OpenSpec.ofChange fnFoamWrong)

/- THE SECOND FORM. 'bulk': how many values and letters a reading holds, each counted each time it is reached (what is shared counts as often as it is met; a slice's spare places count too). A statement '..UptoSaid' is the law's where the arguments, and the package variables that the reading takes, are together of bulk at most 1048576: NARROWER than '..Said'. Prove '..Said' where nothing that the law and all that it calls make is longer than what came in: it says more and counts as full. Else prove '..UptoSaid'. A law counts once. -/
mutual
def uptoBulk {H : Type} : DataW H → Nat
  | .lit (.string bytes) => bytes.length + 1
  | .lit _ => 1
  | .nil => 1
  | .ptr d => uptoBulk d + 1
  | .slice elems spare => uptoBulkAll elems + uptoBulkAll spare + 1
  | .agg parts => uptoBulkAll parts + 1
  | .iface _ d => uptoBulk d + 1
  | .map entries => uptoBulkEntries entries + 1
  | .held _ => 1
def uptoBulkAll {H : Type} : List (DataW H) → Nat
  | [] => 0
  | d :: r => uptoBulk d + uptoBulkAll r
def uptoBulkEntries {H : Type} : List (Lit × DataW H) → Nat
  | [] => 0
  | x :: r => uptoBulkEntry x + uptoBulkEntries r
def uptoBulkEntry {H : Type} : Lit × DataW H → Nat
  | (.string bytes, d) => bytes.length + uptoBulk d + 1
  | (_, d) => uptoBulk d + 1
 end
def uptoSmall : (H : Type) → List (DataW H) → Bool := fun _ ds => decide (uptoBulkAll ds ≤ 1048576)
def OpenSpec.upto (s : _root_.Go.ChangeSpec) : _root_.Go.OpenSpec := { _root_.Go.OpenSpec.ofChange s with cond := some uptoSmall }

/-- 'laws.FnExactFoamFor', WHERE WHAT IT READS IS OF BULK AT MOST 1048576: true; the input reads as it did. -/
def fnExactFoamForUptoRow : OpenClaim := { program := "ytlfjgjbfimnncaa", sum := "37d501c916b2ca20d3d2dade1e6a83242a50c4bd9b983457ddfefed18a269c2e", func := "loop.example/g01020/laws.FnExactFoamFor", spec := "fnExactFoamFor", plainKeys := false, apart := false, narrowed := true }
def FnExactFoamForUptoSaid : Prop := fnExactFoamForUptoRow.holds Try.pinned (OpenSpec.upto fnExactFoamForSpec)

/-- 'laws.FnExactIsLadder', WHERE WHAT IT READS IS OF BULK AT MOST 1048576: true; the input reads as it did. -/
def fnExactIsLadderUptoRow : OpenClaim := { program := "ytlfjgjbfimnncaa", sum := "37d501c916b2ca20d3d2dade1e6a83242a50c4bd9b983457ddfefed18a269c2e", func := "loop.example/g01020/laws.FnExactIsLadder", spec := "fnExactIsLadder", plainKeys := false, apart := false, narrowed := true }
def FnExactIsLadderUptoSaid : Prop := fnExactIsLadderUptoRow.holds Try.pinned (OpenSpec.upto fnExactIsLadderSpec)

/-- 'laws.FnExactIsTanker', WHERE WHAT IT READS IS OF BULK AT MOST 1048576: true; the input reads as it did. -/
def fnExactIsTankerUptoRow : OpenClaim := { program := "ytlfjgjbfimnncaa", sum := "37d501c916b2ca20d3d2dade1e6a83242a50c4bd9b983457ddfefed18a269c2e", func := "loop.example/g01020/laws.FnExactIsTanker", spec := "fnExactIsTanker", plainKeys := false, apart := false, narrowed := true }
def FnExactIsTankerUptoSaid : Prop := fnExactIsTankerUptoRow.holds Try.pinned (OpenSpec.upto fnExactIsTankerSpec)

/-- 'laws.FnExactFoamLasts', WHERE WHAT IT READS IS OF BULK AT MOST 1048576: true; the input reads as it did. -/
def fnExactFoamLastsUptoRow : OpenClaim := { program := "ytlfjgjbfimnncaa", sum := "37d501c916b2ca20d3d2dade1e6a83242a50c4bd9b983457ddfefed18a269c2e", func := "loop.example/g01020/laws.FnExactFoamLasts", spec := "fnExactFoamLasts", plainKeys := false, apart := false, narrowed := true }
def FnExactFoamLastsUptoSaid : Prop := fnExactFoamLastsUptoRow.holds Try.pinned (OpenSpec.upto fnExactFoamLastsSpec)

/-- 'laws.FnExactCycleSeconds', WHERE WHAT IT READS IS OF BULK AT MOST 1048576: true; the input reads as it did. -/
def fnExactCycleSecondsUptoRow : OpenClaim := { program := "ytlfjgjbfimnncaa", sum := "37d501c916b2ca20d3d2dade1e6a83242a50c4bd9b983457ddfefed18a269c2e", func := "loop.example/g01020/laws.FnExactCycleSeconds", spec := "fnExactCycleSeconds", plainKeys := false, apart := false, narrowed := true }
def FnExactCycleSecondsUptoSaid : Prop := fnExactCycleSecondsUptoRow.holds Try.pinned (OpenSpec.upto fnExactCycleSecondsSpec)

/-- 'laws.FnExactTankersFor', WHERE WHAT IT READS IS OF BULK AT MOST 1048576: true; the input reads as it did. -/
def fnExactTankersForUptoRow : OpenClaim := { program := "ytlfjgjbfimnncaa", sum := "37d501c916b2ca20d3d2dade1e6a83242a50c4bd9b983457ddfefed18a269c2e", func := "loop.example/g01020/laws.FnExactTankersFor", spec := "fnExactTankersFor", plainKeys := false, apart := false, narrowed := true }
def FnExactTankersForUptoSaid : Prop := fnExactTankersForUptoRow.holds Try.pinned (OpenSpec.upto fnExactTankersForSpec)

/-- 'laws.FnExactFlowOf', WHERE WHAT IT READS IS OF BULK AT MOST 1048576: true; the input reads as it did. -/
def fnExactFlowOfUptoRow : OpenClaim := { program := "ytlfjgjbfimnncaa", sum := "37d501c916b2ca20d3d2dade1e6a83242a50c4bd9b983457ddfefed18a269c2e", func := "loop.example/g01020/laws.FnExactFlowOf", spec := "fnExactFlowOf", plainKeys := false, apart := false, narrowed := true }
def FnExactFlowOfUptoSaid : Prop := fnExactFlowOfUptoRow.holds Try.pinned (OpenSpec.upto fnExactFlowOfSpec)

/-- 'laws.FnExactDryAt', WHERE WHAT IT READS IS OF BULK AT MOST 1048576: true; the input reads as it did. -/
def fnExactDryAtUptoRow : OpenClaim := { program := "ytlfjgjbfimnncaa", sum := "37d501c916b2ca20d3d2dade1e6a83242a50c4bd9b983457ddfefed18a269c2e", func := "loop.example/g01020/laws.FnExactDryAt", spec := "fnExactDryAt", plainKeys := false, apart := false, narrowed := true }
def FnExactDryAtUptoSaid : Prop := fnExactDryAtUptoRow.holds Try.pinned (OpenSpec.upto fnExactDryAtSpec)

/-- 'laws.FnExactLeastStore', WHERE WHAT IT READS IS OF BULK AT MOST 1048576: true; the input reads as it did. -/
def fnExactLeastStoreUptoRow : OpenClaim := { program := "ytlfjgjbfimnncaa", sum := "37d501c916b2ca20d3d2dade1e6a83242a50c4bd9b983457ddfefed18a269c2e", func := "loop.example/g01020/laws.FnExactLeastStore", spec := "fnExactLeastStore", plainKeys := false, apart := false, narrowed := true }
def FnExactLeastStoreUptoSaid : Prop := fnExactLeastStoreUptoRow.holds Try.pinned (OpenSpec.upto fnExactLeastStoreSpec)

/-- 'laws.FnExactFillOrder', WHERE WHAT IT READS IS OF BULK AT MOST 1048576: true; the input reads as it did. -/
def fnExactFillOrderUptoRow : OpenClaim := { program := "ytlfjgjbfimnncaa", sum := "37d501c916b2ca20d3d2dade1e6a83242a50c4bd9b983457ddfefed18a269c2e", func := "loop.example/g01020/laws.FnExactFillOrder", spec := "fnExactFillOrder", unfollowed := true, recurses := true, plainKeys := false, apart := false, narrowed := true }
def FnExactFillOrderUptoSaid : Prop := fnExactFillOrderUptoRow.holds Try.pinned (OpenSpec.upto fnExactFillOrderSpec)

/-- 'laws.FnExactDeliveries', WHERE WHAT IT READS IS OF BULK AT MOST 1048576: true; the input reads as it did. -/
def fnExactDeliveriesUptoRow : OpenClaim := { program := "ytlfjgjbfimnncaa", sum := "37d501c916b2ca20d3d2dade1e6a83242a50c4bd9b983457ddfefed18a269c2e", func := "loop.example/g01020/laws.FnExactDeliveries", spec := "fnExactDeliveries", unfollowed := true, recurses := true, plainKeys := false, apart := false, narrowed := true }
def FnExactDeliveriesUptoSaid : Prop := fnExactDeliveriesUptoRow.holds Try.pinned (OpenSpec.upto fnExactDeliveriesSpec)

/-- 'laws.FnFoam', WHERE WHAT IT READS IS OF BULK AT MOST 1048576: true; the input reads as it did. -/
def fnFoamUptoRow : OpenClaim := { program := "ytlfjgjbfimnncaa", sum := "37d501c916b2ca20d3d2dade1e6a83242a50c4bd9b983457ddfefed18a269c2e", func := "loop.example/g01020/laws.FnFoam", spec := "fnFoam", unfollowed := true, recurses := true, plainKeys := false, apart := false, narrowed := true }
def FnFoamUptoSaid : Prop := fnFoamUptoRow.holds Try.pinned (OpenSpec.upto fnFoamSpec)

end Rows
end Go.Proofs.Ytlfjgjbfimnncaa
