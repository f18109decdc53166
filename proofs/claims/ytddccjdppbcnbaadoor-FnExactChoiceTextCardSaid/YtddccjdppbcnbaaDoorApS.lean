/-
  Lists of Appliance: sizes, copy, comparison.
-/
import Derived.Test.YtddccjdppbcnbaaDoorAp
import Derived.Deep.RegionHeld3
import Derived.Deep.RegionWith
import Derived.BigQuiet
namespace Go.Proofs.YtddccjdppbcnbaaDoor
open Go.RowKit


def Ap.zs : List Value := [.string ⟨#[]⟩, .int .i64 0, .int .i64 0, .int .i64 0, .int .i64 0]
end Go.Proofs.YtddccjdppbcnbaaDoor
