/-
  Lists of Street: sizes, copy, comparison.
-/
import Derived.Test.YtddccjdppbcnbaaDoorSt
import Derived.Deep.RegionHeld3
import Derived.Deep.RegionWith
import Derived.BigQuiet
namespace Go.Proofs.YtddccjdppbcnbaaDoor
open Go.RowKit

def St.zs : List Value := [.int .i64 0, .int .i64 0, .int .i64 0]
end Go.Proofs.YtddccjdppbcnbaaDoor
