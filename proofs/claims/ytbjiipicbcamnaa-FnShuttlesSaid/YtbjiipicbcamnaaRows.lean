/-
  No cell of these rows narrows 'for every input' (looked for: loops, veiled, ifaces, maps, wideKeys, modest, calm, conditions, laid).
  DERIVED. THE GIVEN ROWS OF THIS SEAT. 2 by the template 'for every input the law returns true; each argument reads behind the call as it read before'; 0 by the template 'total and deterministic' (their statements: YtbjiipicbcamnaaTotals.lean).
  GIVEN WITH THE SEED: the statements are not yours to turn. If you find one false, say at which input.
  Laid BY PROGRAM, IN A SANDBOX (cutbox-rows.mjs): the forced cells as the released guide's own fill.sh prints them over the translation 91e1d054c15d13ec… (all of the seat's roots in one cut). By AI agents, Wed Nov 11 2026. No macro, syntax, notation, axiom, sorry.
-/
import Derived.Test.YtbjiipicbcamnaaChecked
import GoSem.Claim
import GoSem.ClaimJoined
import GoSem.ClaimMapViews
import Derived.JoinedTies
import Derived.KernelRfl
namespace Go.Proofs.Ytbjiipicbcamnaa
/- THE CELL 'sum', in the pinned program and in every row, IS THE sha256 OF THE DUMP (.gsa) THAT YtbjiipicbcamnaaProg.lean LOADS. Nothing in Lean hashes anything: it is a label: what it is worth is what the hold of that sum in a sandbox is worth. -/
noncomputable def Try.pinned : Pinned := { name := "ytbjiipicbcamnaa", sum := "91e1d054c15d13ec5dd960794d1a772a240667326c0582cd7ee53afcdd1a4cc5", checked := Try.checked }
namespace Rows
def none {H : Type} : Left H := { results := [], args := [] }

/-- 'laws.FnExactDeliveries': WHATEVER THE INPUT: true; the input reads as it did. -/
def fnExactDeliveriesSpec : ChangeSpec := { name := "fnExactDeliveries", fn := fun _ => fun
  | [d1, d2] => { results := [.lit (.bool true)], args := [d1, d2] }
  | _ => none }
def fnExactDeliveriesRow : OpenClaim := { program := "ytbjiipicbcamnaa", sum := "91e1d054c15d13ec5dd960794d1a772a240667326c0582cd7ee53afcdd1a4cc5", func := "loop.example/g01020/laws.FnExactDeliveries", spec := "fnExactDeliveries", unfollowed := true, recurses := true, apart := false }
def FnExactDeliveriesSaid : Prop := fnExactDeliveriesRow.holds Try.pinned (OpenSpec.ofChange fnExactDeliveriesSpec)

/-- ITS FALSE NEIGHBOUR: 'it returns false'. Refute it at one input. -/
def fnExactDeliveriesWrong : ChangeSpec := { name := "fnExactDeliveries", fn := fun _ => fun
  | [d1, d2] => { results := [.lit (.bool false)], args := [d1, d2] }
  | _ => none }
def FnExactDeliveriesWrongFalsely : Prop := fnExactDeliveriesRow.holds Try.pinned (OpenSpec.ofChange fnExactDeliveriesWrong)

/-- 'laws.FnShuttles': WHATEVER THE INPUT: true; the input reads as it did. -/
def fnShuttlesSpec : ChangeSpec := { name := "fnShuttles", fn := fun _ => fun
  | [d1, d2] => { results := [.lit (.bool true)], args := [d1, d2] }
  | _ => none }
def fnShuttlesRow : OpenClaim := { program := "ytbjiipicbcamnaa", sum := "91e1d054c15d13ec5dd960794d1a772a240667326c0582cd7ee53afcdd1a4cc5", func := "loop.example/g01020/laws.FnShuttles", spec := "fnShuttles", unfollowed := true, recurses := true, apart := false }
def FnShuttlesSaid : Prop := fnShuttlesRow.holds Try.pinned (OpenSpec.ofChange fnShuttlesSpec)

/-- ITS FALSE NEIGHBOUR: 'it returns false'. Refute it at one input. -/
def fnShuttlesWrong : ChangeSpec := { name := "fnShuttles", fn := fun _ => fun
  | [d1, d2] => { results := [.lit (.bool false)], args := [d1, d2] }
  | _ => none }
def FnShuttlesWrongFalsely : Prop := fnShuttlesRow.holds Try.pinned (OpenSpec.ofChange fnShuttlesWrong)

/- THE SECOND FORM. 'bulk': how many values and letters a reading holds, each counted each time it is reached (what is shared counts as often as it is met; a slice's spare places count too). A statement '..UptoSaid' is the law's where the arguments, and the package variables that the reading takes, are together of bulk at most 1048576: NARROWER than '..Said'. Prove '..Said' where nothing that the law and all that it calls make is longer than what came in: it says more and counts as full. Else prove '..UptoSaid'. A law counts once. -/
mutual
def uptoBulk {H : Type} : DataW H → Nat
  | .lit (.string bytes) => bytes.length + 1
  | .lit _ => 1
  | .nil => 1
  | .ptr d => uptoBulk d + 1
  | .slice elems spare => uptoBulkAll elems + uptoBulkAll spare + 1
  | .agg parts => uptoBulkAll parts + 1
  | .iface _ d => uptoBulk d + 1
  | .map entries => uptoBulkEntries entries + 1
  | .held _ => 1
def uptoBulkAll {H : Type} : List (DataW H) → Nat
  | [] => 0
  | d :: r => uptoBulk d + uptoBulkAll r
def uptoBulkEntries {H : Type} : List (Lit × DataW H) → Nat
  | [] => 0
  | x :: r => uptoBulkEntry x + uptoBulkEntries r
def uptoBulkEntry {H : Type} : Lit × DataW H → Nat
  | (.string bytes, d) => bytes.length + uptoBulk d + 1
  | (_, d) => uptoBulk d + 1
 end
def uptoSmall : (H : Type) → List (DataW H) → Bool := fun _ ds => decide (uptoBulkAll ds ≤ 1048576)
def OpenSpec.upto (s : _root_.Go.ChangeSpec) : _root_.Go.OpenSpec := { _root_.Go.OpenSpec.ofChange s with cond := some uptoSmall }

/-- 'laws.FnExactDeliveries', WHERE WHAT IT READS IS OF BULK AT MOST 1048576: true; the input reads as it did. -/
def fnExactDeliveriesUptoRow : OpenClaim := { program := "ytbjiipicbcamnaa", sum := "91e1d054c15d13ec5dd960794d1a772a240667326c0582cd7ee53afcdd1a4cc5", func := "loop.example/g01020/laws.FnExactDeliveries", spec := "fnExactDeliveries", unfollowed := true, recurses := true, apart := false, narrowed := true }
def FnExactDeliveriesUptoSaid : Prop := fnExactDeliveriesUptoRow.holds Try.pinned (OpenSpec.upto fnExactDeliveriesSpec)

/-- 'laws.FnShuttles', WHERE WHAT IT READS IS OF BULK AT MOST 1048576: true; the input reads as it did. -/
def fnShuttlesUptoRow : OpenClaim := { program := "ytbjiipicbcamnaa", sum := "91e1d054c15d13ec5dd960794d1a772a240667326c0582cd7ee53afcdd1a4cc5", func := "loop.example/g01020/laws.FnShuttles", spec := "fnShuttles", unfollowed := true, recurses := true, apart := false, narrowed := true }
def FnShuttlesUptoSaid : Prop := fnShuttlesUptoRow.holds Try.pinned (OpenSpec.upto fnShuttlesSpec)

end Rows
end Go.Proofs.Ytbjiipicbcamnaa
