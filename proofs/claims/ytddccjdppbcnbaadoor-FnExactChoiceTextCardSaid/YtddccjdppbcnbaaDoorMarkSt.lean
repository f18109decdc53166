/-
  Marks on a list of Street of the call's own.
-/
import Derived.Test.YtddccjdppbcnbaaDoorStS
namespace Go.Proofs.YtddccjdppbcnbaaDoor
open Go.RowKit

end Go.Proofs.YtddccjdppbcnbaaDoor
