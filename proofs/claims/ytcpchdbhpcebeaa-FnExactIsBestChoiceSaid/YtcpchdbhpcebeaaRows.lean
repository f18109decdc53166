/-
  No cell of these rows narrows 'for every input' (looked for: loops, veiled, ifaces, maps, wideKeys, modest, calm, conditions, laid).
  DERIVED. THE GIVEN ROWS OF THIS SEAT. 8 by the template 'for every input the law returns true; each argument reads behind the call as it read before'; 0 by the template 'total and deterministic' (their statements: YtcpchdbhpcebeaaTotals.lean).
  GIVEN WITH THE SEED: the statements are not yours to turn. If you find one false, say at which input.
  Laid BY PROGRAM, IN A SANDBOX (cutbox-rows.mjs): the forced cells as the released guide's own fill.sh prints them over the translation ab658b22fb1ff925… (all of the seat's roots in one cut). By AI agents, Wed Nov 11 2026. No macro, syntax, notation, axiom, sorry.
-/
import Derived.Test.YtcpchdbhpcebeaaChecked
import GoSem.Claim
import GoSem.ClaimJoined
import GoSem.ClaimMapViews
import Derived.JoinedTies
import Derived.KernelRfl
namespace Go.Proofs.Ytcpchdbhpcebeaa
/- THE CELL 'sum', in the pinned program and in every row, IS THE sha256 OF THE DUMP (.gsa) THAT YtcpchdbhpcebeaaProg.lean LOADS. Nothing in Lean hashes anything: it is a label: what it is worth is what the hold of that sum in a sandbox is worth. -/
noncomputable def Try.pinned : Pinned := { name := "ytcpchdbhpcebeaa", sum := "ab658b22fb1ff92548a5f2c5ef56c3b75312289dfd0a79e06fc7b8332d3519a3", checked := Try.checked }
namespace Rows
def none {H : Type} : Left H := { results := [], args := [] }

/-- 'laws.FnExactAttendanceTime': WHATEVER THE INPUT: true; the input reads as it did. -/
def fnExactAttendanceTimeSpec : ChangeSpec := { name := "fnExactAttendanceTime", fn := fun _ => fun
  | [d1, d2, d3, d4] => { results := [.lit (.bool true)], args := [d1, d2, d3, d4] }
  | _ => none }
def fnExactAttendanceTimeRow : OpenClaim := { program := "ytcpchdbhpcebeaa", sum := "ab658b22fb1ff92548a5f2c5ef56c3b75312289dfd0a79e06fc7b8332d3519a3", func := "loop.example/g01020/laws.FnExactAttendanceTime", spec := "fnExactAttendanceTime", unfollowed := true, recurses := true, apart := false }
def FnExactAttendanceTimeSaid : Prop := fnExactAttendanceTimeRow.holds Try.pinned (OpenSpec.ofChange fnExactAttendanceTimeSpec)

/-- ITS FALSE NEIGHBOUR: 'it returns false'. Refute it at one input. -/
def fnExactAttendanceTimeWrong : ChangeSpec := { name := "fnExactAttendanceTime", fn := fun _ => fun
  | [d1, d2, d3, d4] => { results := [.lit (.bool false)], args := [d1, d2, d3, d4] }
  | _ => none }
def FnExactAttendanceTimeWrongFalsely : Prop := fnExactAttendanceTimeRow.holds Try.pinned (OpenSpec.ofChange fnExactAttendanceTimeWrong)

/-- 'laws.FnExactFirstAttendance': WHATEVER THE INPUT: true; the input reads as it did. -/
def fnExactFirstAttendanceSpec : ChangeSpec := { name := "fnExactFirstAttendance", fn := fun _ => fun
  | [d1, d2, d3] => { results := [.lit (.bool true)], args := [d1, d2, d3] }
  | _ => none }
def fnExactFirstAttendanceRow : OpenClaim := { program := "ytcpchdbhpcebeaa", sum := "ab658b22fb1ff92548a5f2c5ef56c3b75312289dfd0a79e06fc7b8332d3519a3", func := "loop.example/g01020/laws.FnExactFirstAttendance", spec := "fnExactFirstAttendance", unfollowed := true, recurses := true, apart := false }
def FnExactFirstAttendanceSaid : Prop := fnExactFirstAttendanceRow.holds Try.pinned (OpenSpec.ofChange fnExactFirstAttendanceSpec)

/-- ITS FALSE NEIGHBOUR: 'it returns false'. Refute it at one input. -/
def fnExactFirstAttendanceWrong : ChangeSpec := { name := "fnExactFirstAttendance", fn := fun _ => fun
  | [d1, d2, d3] => { results := [.lit (.bool false)], args := [d1, d2, d3] }
  | _ => none }
def FnExactFirstAttendanceWrongFalsely : Prop := fnExactFirstAttendanceRow.holds Try.pinned (OpenSpec.ofChange fnExactFirstAttendanceWrong)

/-- 'laws.FnExactWithinTime': WHATEVER THE INPUT: true; the input reads as it did. -/
def fnExactWithinTimeSpec : ChangeSpec := { name := "fnExactWithinTime", fn := fun _ => fun
  | [d1, d2, d3, d4] => { results := [.lit (.bool true)], args := [d1, d2, d3, d4] }
  | _ => none }
def fnExactWithinTimeRow : OpenClaim := { program := "ytcpchdbhpcebeaa", sum := "ab658b22fb1ff92548a5f2c5ef56c3b75312289dfd0a79e06fc7b8332d3519a3", func := "loop.example/g01020/laws.FnExactWithinTime", spec := "fnExactWithinTime", unfollowed := true, recurses := true, apart := false }
def FnExactWithinTimeSaid : Prop := fnExactWithinTimeRow.holds Try.pinned (OpenSpec.ofChange fnExactWithinTimeSpec)

/-- ITS FALSE NEIGHBOUR: 'it returns false'. Refute it at one input. -/
def fnExactWithinTimeWrong : ChangeSpec := { name := "fnExactWithinTime", fn := fun _ => fun
  | [d1, d2, d3, d4] => { results := [.lit (.bool false)], args := [d1, d2, d3, d4] }
  | _ => none }
def FnExactWithinTimeWrongFalsely : Prop := fnExactWithinTimeRow.holds Try.pinned (OpenSpec.ofChange fnExactWithinTimeWrong)

/-- 'laws.FnExactReadyTimes': WHATEVER THE INPUT: true; the input reads as it did. -/
def fnExactReadyTimesSpec : ChangeSpec := { name := "fnExactReadyTimes", fn := fun _ => fun
  | [d1, d2, d3] => { results := [.lit (.bool true)], args := [d1, d2, d3] }
  | _ => none }
def fnExactReadyTimesRow : OpenClaim := { program := "ytcpchdbhpcebeaa", sum := "ab658b22fb1ff92548a5f2c5ef56c3b75312289dfd0a79e06fc7b8332d3519a3", func := "loop.example/g01020/laws.FnExactReadyTimes", spec := "fnExactReadyTimes", unfollowed := true, recurses := true, apart := false }
def FnExactReadyTimesSaid : Prop := fnExactReadyTimesRow.holds Try.pinned (OpenSpec.ofChange fnExactReadyTimesSpec)

/-- ITS FALSE NEIGHBOUR: 'it returns false'. Refute it at one input. -/
def fnExactReadyTimesWrong : ChangeSpec := { name := "fnExactReadyTimes", fn := fun _ => fun
  | [d1, d2, d3] => { results := [.lit (.bool false)], args := [d1, d2, d3] }
  | _ => none }
def FnExactReadyTimesWrongFalsely : Prop := fnExactReadyTimesRow.holds Try.pinned (OpenSpec.ofChange fnExactReadyTimesWrong)

/-- 'laws.FnExactMissingKinds': WHATEVER THE INPUT: true; the input reads as it did. -/
def fnExactMissingKindsSpec : ChangeSpec := { name := "fnExactMissingKinds", fn := fun _ => fun
  | [d1, d2, d3, d4] => { results := [.lit (.bool true)], args := [d1, d2, d3, d4] }
  | _ => none }
def fnExactMissingKindsRow : OpenClaim := { program := "ytcpchdbhpcebeaa", sum := "ab658b22fb1ff92548a5f2c5ef56c3b75312289dfd0a79e06fc7b8332d3519a3", func := "loop.example/g01020/laws.FnExactMissingKinds", spec := "fnExactMissingKinds", unfollowed := true, recurses := true, apart := false }
def FnExactMissingKindsSaid : Prop := fnExactMissingKindsRow.holds Try.pinned (OpenSpec.ofChange fnExactMissingKindsSpec)

/-- ITS FALSE NEIGHBOUR: 'it returns false'. Refute it at one input. -/
def fnExactMissingKindsWrong : ChangeSpec := { name := "fnExactMissingKinds", fn := fun _ => fun
  | [d1, d2, d3, d4] => { results := [.lit (.bool false)], args := [d1, d2, d3, d4] }
  | _ => none }
def FnExactMissingKindsWrongFalsely : Prop := fnExactMissingKindsRow.holds Try.pinned (OpenSpec.ofChange fnExactMissingKindsWrong)

/-- 'laws.FnExactServedNodes': WHATEVER THE INPUT: true; the input reads as it did. -/
def fnExactServedNodesSpec : ChangeSpec := { name := "fnExactServedNodes", fn := fun _ => fun
  | [d1, d2, d3, d4] => { results := [.lit (.bool true)], args := [d1, d2, d3, d4] }
  | _ => none }
def fnExactServedNodesRow : OpenClaim := { program := "ytcpchdbhpcebeaa", sum := "ab658b22fb1ff92548a5f2c5ef56c3b75312289dfd0a79e06fc7b8332d3519a3", func := "loop.example/g01020/laws.FnExactServedNodes", spec := "fnExactServedNodes", unfollowed := true, recurses := true, apart := false }
def FnExactServedNodesSaid : Prop := fnExactServedNodesRow.holds Try.pinned (OpenSpec.ofChange fnExactServedNodesSpec)

/-- ITS FALSE NEIGHBOUR: 'it returns false'. Refute it at one input. -/
def fnExactServedNodesWrong : ChangeSpec := { name := "fnExactServedNodes", fn := fun _ => fun
  | [d1, d2, d3, d4] => { results := [.lit (.bool false)], args := [d1, d2, d3, d4] }
  | _ => none }
def FnExactServedNodesWrongFalsely : Prop := fnExactServedNodesRow.holds Try.pinned (OpenSpec.ofChange fnExactServedNodesWrong)

/-- 'laws.FnExactChooseFor': WHATEVER THE INPUT: true; the input reads as it did. -/
def fnExactChooseForSpec : ChangeSpec := { name := "fnExactChooseFor", fn := fun _ => fun
  | [d1, d2, d3, d4] => { results := [.lit (.bool true)], args := [d1, d2, d3, d4] }
  | _ => none }
def fnExactChooseForRow : OpenClaim := { program := "ytcpchdbhpcebeaa", sum := "ab658b22fb1ff92548a5f2c5ef56c3b75312289dfd0a79e06fc7b8332d3519a3", func := "loop.example/g01020/laws.FnExactChooseFor", spec := "fnExactChooseFor", unfollowed := true, recurses := true, apart := false }
def FnExactChooseForSaid : Prop := fnExactChooseForRow.holds Try.pinned (OpenSpec.ofChange fnExactChooseForSpec)

/-- ITS FALSE NEIGHBOUR: 'it returns false'. Refute it at one input. -/
def fnExactChooseForWrong : ChangeSpec := { name := "fnExactChooseFor", fn := fun _ => fun
  | [d1, d2, d3, d4] => { results := [.lit (.bool false)], args := [d1, d2, d3, d4] }
  | _ => none }
def FnExactChooseForWrongFalsely : Prop := fnExactChooseForRow.holds Try.pinned (OpenSpec.ofChange fnExactChooseForWrong)

/-- 'laws.FnExactIsBestChoice': WHATEVER THE INPUT: true; the input reads as it did. -/
def fnExactIsBestChoiceSpec : ChangeSpec := { name := "fnExactIsBestChoice", fn := fun _ => fun
  | [d1, d2, d3, d4, d5] => { results := [.lit (.bool true)], args := [d1, d2, d3, d4, d5] }
  | _ => none }
def fnExactIsBestChoiceRow : OpenClaim := { program := "ytcpchdbhpcebeaa", sum := "ab658b22fb1ff92548a5f2c5ef56c3b75312289dfd0a79e06fc7b8332d3519a3", func := "loop.example/g01020/laws.FnExactIsBestChoice", spec := "fnExactIsBestChoice", unfollowed := true, recurses := true, apart := false }
def FnExactIsBestChoiceSaid : Prop := fnExactIsBestChoiceRow.holds Try.pinned (OpenSpec.ofChange fnExactIsBestChoiceSpec)

/-- ITS FALSE NEIGHBOUR: 'it returns false'. Refute it at one input. -/
def fnExactIsBestChoiceWrong : ChangeSpec := { name := "fnExactIsBestChoice", fn := fun _ => fun
  | [d1, d2, d3, d4, d5] => { results := [.lit (.bool false)], args := [d1, d2, d3, d4, d5] }
  | _ => none }
def FnExactIsBestChoiceWrongFalsely : Prop := fnExactIsBestChoiceRow.holds Try.pinned (OpenSpec.ofChange fnExactIsBestChoiceWrong)

/- THE SECOND FORM. 'bulk': how many values and letters a reading holds, each counted each time it is reached (what is shared counts as often as it is met; a slice's spare places count too). A statement '..UptoSaid' is the law's where the arguments, and the package variables that the reading takes, are together of bulk at most 1048576: NARROWER than '..Said'. Prove '..Said' where nothing that the law and all that it calls make is longer than what came in: it says more and counts as full. Else prove '..UptoSaid'. A law counts once. -/
mutual
def uptoBulk {H : Type} : DataW H → Nat
  | .lit (.string bytes) => bytes.length + 1
  | .lit _ => 1
  | .nil => 1
  | .ptr d => uptoBulk d + 1
  | .slice elems spare => uptoBulkAll elems + uptoBulkAll spare + 1
  | .agg parts => uptoBulkAll parts + 1
  | .iface _ d => uptoBulk d + 1
  | .map entries => uptoBulkEntries entries + 1
  | .held _ => 1
def uptoBulkAll {H : Type} : List (DataW H) → Nat
  | [] => 0
  | d :: r => uptoBulk d + uptoBulkAll r
def uptoBulkEntries {H : Type} : List (Lit × DataW H) → Nat
  | [] => 0
  | x :: r => uptoBulkEntry x + uptoBulkEntries r
def uptoBulkEntry {H : Type} : Lit × DataW H → Nat
  | (.string bytes, d) => bytes.length + uptoBulk d + 1
  | (_, d) => uptoBulk d + 1
 end
def uptoSmall : (H : Type) → List (DataW H) → Bool := fun _ ds => decide (uptoBulkAll ds ≤ 1048576)
def OpenSpec.upto (s : _root_.Go.ChangeSpec) : _root_.Go.OpenSpec := { _root_.Go.OpenSpec.ofChange s with cond := some uptoSmall }

/-- 'laws.FnExactAttendanceTime', WHERE WHAT IT READS IS OF BULK AT MOST 1048576: true; the input reads as it did. -/
def fnExactAttendanceTimeUptoRow : OpenClaim := { program := "ytcpchdbhpcebeaa", sum := "ab658b22fb1ff92548a5f2c5ef56c3b75312289dfd0a79e06fc7b8332d3519a3", func := "loop.example/g01020/laws.FnExactAttendanceTime", spec := "fnExactAttendanceTime", unfollowed := true, recurses := true, apart := false, narrowed := true }
def FnExactAttendanceTimeUptoSaid : Prop := fnExactAttendanceTimeUptoRow.holds Try.pinned (OpenSpec.upto fnExactAttendanceTimeSpec)

/-- 'laws.FnExactFirstAttendance', WHERE WHAT IT READS IS OF BULK AT MOST 1048576: true; the input reads as it did. -/
def fnExactFirstAttendanceUptoRow : OpenClaim := { program := "ytcpchdbhpcebeaa", sum := "ab658b22fb1ff92548a5f2c5ef56c3b75312289dfd0a79e06fc7b8332d3519a3", func := "loop.example/g01020/laws.FnExactFirstAttendance", spec := "fnExactFirstAttendance", unfollowed := true, recurses := true, apart := false, narrowed := true }
def FnExactFirstAttendanceUptoSaid : Prop := fnExactFirstAttendanceUptoRow.holds Try.pinned (OpenSpec.upto fnExactFirstAttendanceSpec)

/-- 'laws.FnExactWithinTime', WHERE WHAT IT READS IS OF BULK AT MOST 1048576: true; the input reads as it did. -/
def fnExactWithinTimeUptoRow : OpenClaim := { program := "ytcpchdbhpcebeaa", sum := "ab658b22fb1ff92548a5f2c5ef56c3b75312289dfd0a79e06fc7b8332d3519a3", func := "loop.example/g01020/laws.FnExactWithinTime", spec := "fnExactWithinTime", unfollowed := true, recurses := true, apart := false, narrowed := true }
def FnExactWithinTimeUptoSaid : Prop := fnExactWithinTimeUptoRow.holds Try.pinned (OpenSpec.upto fnExactWithinTimeSpec)

/-- 'laws.FnExactReadyTimes', WHERE WHAT IT READS IS OF BULK AT MOST 1048576: true; the input reads as it did. -/
def fnExactReadyTimesUptoRow : OpenClaim := { program := "ytcpchdbhpcebeaa", sum := "ab658b22fb1ff92548a5f2c5ef56c3b75312289dfd0a79e06fc7b8332d3519a3", func := "loop.example/g01020/laws.FnExactReadyTimes", spec := "fnExactReadyTimes", unfollowed := true, recurses := true, apart := false, narrowed := true }
def FnExactReadyTimesUptoSaid : Prop := fnExactReadyTimesUptoRow.holds Try.pinned (OpenSpec.upto fnExactReadyTimesSpec)

/-- 'laws.FnExactMissingKinds', WHERE WHAT IT READS IS OF BULK AT MOST 1048576: true; the input reads as it did. -/
def fnExactMissingKindsUptoRow : OpenClaim := { program := "ytcpchdbhpcebeaa", sum := "ab658b22fb1ff92548a5f2c5ef56c3b75312289dfd0a79e06fc7b8332d3519a3", func := "loop.example/g01020/laws.FnExactMissingKinds", spec := "fnExactMissingKinds", unfollowed := true, recurses := true, apart := false, narrowed := true }
def FnExactMissingKindsUptoSaid : Prop := fnExactMissingKindsUptoRow.holds Try.pinned (OpenSpec.upto fnExactMissingKindsSpec)

/-- 'laws.FnExactServedNodes', WHERE WHAT IT READS IS OF BULK AT MOST 1048576: true; the input reads as it did. -/
def fnExactServedNodesUptoRow : OpenClaim := { program := "ytcpchdbhpcebeaa", sum := "ab658b22fb1ff92548a5f2c5ef56c3b75312289dfd0a79e06fc7b8332d3519a3", func := "loop.example/g01020/laws.FnExactServedNodes", spec := "fnExactServedNodes", unfollowed := true, recurses := true, apart := false, narrowed := true }
def FnExactServedNodesUptoSaid : Prop := fnExactServedNodesUptoRow.holds Try.pinned (OpenSpec.upto fnExactServedNodesSpec)

/-- 'laws.FnExactChooseFor', WHERE WHAT IT READS IS OF BULK AT MOST 1048576: true; the input reads as it did. -/
def fnExactChooseForUptoRow : OpenClaim := { program := "ytcpchdbhpcebeaa", sum := "ab658b22fb1ff92548a5f2c5ef56c3b75312289dfd0a79e06fc7b8332d3519a3", func := "loop.example/g01020/laws.FnExactChooseFor", spec := "fnExactChooseFor", unfollowed := true, recurses := true, apart := false, narrowed := true }
def FnExactChooseForUptoSaid : Prop := fnExactChooseForUptoRow.holds Try.pinned (OpenSpec.upto fnExactChooseForSpec)

/-- 'laws.FnExactIsBestChoice', WHERE WHAT IT READS IS OF BULK AT MOST 1048576: true; the input reads as it did. -/
def fnExactIsBestChoiceUptoRow : OpenClaim := { program := "ytcpchdbhpcebeaa", sum := "ab658b22fb1ff92548a5f2c5ef56c3b75312289dfd0a79e06fc7b8332d3519a3", func := "loop.example/g01020/laws.FnExactIsBestChoice", spec := "fnExactIsBestChoice", unfollowed := true, recurses := true, apart := false, narrowed := true }
def FnExactIsBestChoiceUptoSaid : Prop := fnExactIsBestChoiceUptoRow.holds Try.pinned (OpenSpec.upto fnExactIsBestChoiceSpec)

end Rows
end Go.Proofs.Ytcpchdbhpcebeaa
