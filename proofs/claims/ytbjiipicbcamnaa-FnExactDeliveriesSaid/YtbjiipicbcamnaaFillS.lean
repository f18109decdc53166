/-
  spec.FillOrder.
-/
import Derived.Test.YtbjiipicbcamnaaFillI
import Derived.Test.YtbjiipicbcamnaaOwn
import Derived.Test.YtbjiipicbcamnaaTankS
import Derived.Deep.RegionLaw
import Derived.Deep.DeepCutAuto
import Derived.Deep.CutBlock
namespace Go.Proofs.Ytbjiipicbcamnaa
open Go.RowKit

end Go.Proofs.Ytbjiipicbcamnaa
