/-
  Lists of Street: sizes, copy, comparison.
-/
import Derived.Test.YtjogndeodgibfaaDoorSt
import Derived.Deep.RegionHeld3
import Derived.Deep.RegionWith
import Derived.BigQuiet
namespace Go.Proofs.YtjogndeodgibfaaDoor
open Go.RowKit

def St.zs : List Value := [.int .i64 0, .int .i64 0, .int .i64 0]
theorem Tryd.infoSt : (Tryd.prog.info? 47).map (fun i => (i.zero, i.size, i.bytes)) = some (some (.agg #[.int .i64 0, .int .i64 0, .int .i64 0]), 3, 24) := by kernel_rfl

end Go.Proofs.YtjogndeodgibfaaDoor
