/-
  A town as a value, and lists of ints: sizes, copies, comparison, marks.
-/
import Derived.Test.YtddccjdppbcnbaaDoorMarkSt
import Derived.Test.YtddccjdppbcnbaaDoorInts
namespace Go.Proofs.YtddccjdppbcnbaaDoor
open Go.RowKit

end Go.Proofs.YtddccjdppbcnbaaDoor
