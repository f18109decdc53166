/-
  slices.Clone at ints. (joined by pack.py: Clone)
-/
import Derived.Test.YtgcdgcidjjdhmaaGreatDoorK6
import Derived.Test.YtgcdgcidjjdhmaaGreatDoorK8
import Derived.Test.YtgcdgcidjjdhmaaGreatDoorK7
import Derived.Lib.SliceRun
import Derived.Laws.IdiomCopy
namespace Go.Proofs.YtgcdgcidjjdhmaaGreatDoor
set_option linter.unusedVariables false
set_option linter.unusedSimpArgs false
open Go.RowKit

end Go.Proofs.YtgcdgcidjjdhmaaGreatDoor
