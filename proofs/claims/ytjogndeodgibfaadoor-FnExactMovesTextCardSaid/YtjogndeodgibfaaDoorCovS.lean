/-
  The same on the reference's side.
-/
import Derived.Test.YtjogndeodgibfaaDoorCov
namespace Go.Proofs.YtjogndeodgibfaaDoor
open Go.RowKit

end Go.Proofs.YtjogndeodgibfaaDoor
