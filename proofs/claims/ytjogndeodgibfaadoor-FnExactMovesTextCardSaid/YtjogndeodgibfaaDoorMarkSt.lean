/-
  Marks on a list of Street of the call's own.
-/
import Derived.Test.YtjogndeodgibfaaDoorStS
namespace Go.Proofs.YtjogndeodgibfaaDoor
open Go.RowKit

end Go.Proofs.YtjogndeodgibfaaDoor
