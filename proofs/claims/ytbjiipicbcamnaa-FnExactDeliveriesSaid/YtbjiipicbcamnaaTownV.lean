/-
  A town as a value, and lists of ints: sizes, copies, comparison, marks.
-/
import Derived.Test.YtbjiipicbcamnaaMarkSt
import Derived.Test.YtbjiipicbcamnaaInts
namespace Go.Proofs.Ytbjiipicbcamnaa
open Go.RowKit

end Go.Proofs.Ytbjiipicbcamnaa
