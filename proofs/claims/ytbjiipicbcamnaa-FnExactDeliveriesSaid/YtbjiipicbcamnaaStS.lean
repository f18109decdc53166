/-
  Lists of Street: sizes, copy, comparison.
-/
import Derived.Test.YtbjiipicbcamnaaSt
import Derived.Deep.RegionHeld3
import Derived.Deep.RegionWith
import Derived.BigQuiet
namespace Go.Proofs.Ytbjiipicbcamnaa
open Go.RowKit

def St.zs : List Value := [.int .i64 0, .int .i64 0, .int .i64 0]
end Go.Proofs.Ytbjiipicbcamnaa
