/-
  Marks on a list of Street of the call's own.
-/
import Derived.Test.YtibkadkodblefaaDoorStS
namespace Go.Proofs.YtibkadkodblefaaDoor
open Go.RowKit

end Go.Proofs.YtibkadkodblefaaDoor
