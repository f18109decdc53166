/-
  impl.FillOrder.
-/
import Derived.Test.YtbjiipicbcamnaaFill
import Derived.Test.YtbjiipicbcamnaaOwn
import Derived.Maps.AppendAt
namespace Go.Proofs.Ytbjiipicbcamnaa
open Go.RowKit

def fillOrder (l : List Tk) : List Int × Bool := if okL l then (isort (gtOf (fillCf l)) (upFrom 0 l.length), true) else ([], false)

end Go.Proofs.Ytbjiipicbcamnaa
