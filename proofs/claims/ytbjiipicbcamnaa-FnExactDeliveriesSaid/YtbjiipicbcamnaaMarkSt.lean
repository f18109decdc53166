/-
  Marks on a list of Street of the call's own.
-/
import Derived.Test.YtbjiipicbcamnaaStS
namespace Go.Proofs.Ytbjiipicbcamnaa
open Go.RowKit

end Go.Proofs.Ytbjiipicbcamnaa
