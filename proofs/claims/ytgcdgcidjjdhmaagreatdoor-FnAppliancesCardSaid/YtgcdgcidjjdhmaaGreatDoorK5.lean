/-
  Lists of Appliance: sizes, copy, comparison. Lists of Choice: sizes, copy, comparison. (joined by pack.py: ApS ChS)
-/
import Derived.Test.YtgcdgcidjjdhmaaGreatDoorK4
import Derived.Deep.RegionHeld3
import Derived.Deep.RegionWith
import Derived.BigQuiet
namespace Go.Proofs.YtgcdgcidjjdhmaaGreatDoor
set_option linter.unusedVariables false
set_option linter.unusedSimpArgs false
open Go.RowKit


def Ap.zs : List Value := [.string ⟨#[]⟩, .int .i64 0, .int .i64 0, .int .i64 0, .int .i64 0]
theorem Tryz.infoAp : (Tryz.prog.info? 35).map (fun i => (i.zero, i.size, i.bytes)) = some (some (.agg #[.string ⟨#[]⟩, .int .i64 0, .int .i64 0, .int .i64 0, .int .i64 0]), 5, 48) := by kernel_rfl

end Go.Proofs.YtgcdgcidjjdhmaaGreatDoor

namespace Go.Proofs.YtgcdgcidjjdhmaaGreatDoor
set_option linter.unusedVariables false
set_option linter.unusedSimpArgs false
open Go.RowKit


def Ch.zs : List Value := [.string ⟨#[]⟩, .int .i64 0]
end Go.Proofs.YtgcdgcidjjdhmaaGreatDoor
