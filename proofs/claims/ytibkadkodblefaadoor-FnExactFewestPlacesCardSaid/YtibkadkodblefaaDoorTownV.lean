/-
  A town as a value, and lists of ints: sizes, copies, comparison, marks.
-/
import Derived.Test.YtibkadkodblefaaDoorMarkSt
import Derived.Test.YtibkadkodblefaaDoorInts
namespace Go.Proofs.YtibkadkodblefaaDoor
open Go.RowKit

end Go.Proofs.YtibkadkodblefaaDoor
