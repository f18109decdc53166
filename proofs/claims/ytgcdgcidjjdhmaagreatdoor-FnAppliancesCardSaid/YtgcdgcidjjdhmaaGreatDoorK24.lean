/-
  slices.Sort on a row of ints of the call's own. (joined by pack.py: SortI)
-/
import Derived.Test.YtgcdgcidjjdhmaaGreatDoorK23
import Derived.Sort.OwnSortedInts
namespace Go.Proofs.YtgcdgcidjjdhmaaGreatDoor
set_option linter.unusedVariables false
set_option linter.unusedSimpArgs false
open Go.RowKit Go.Sort

end Go.Proofs.YtgcdgcidjjdhmaaGreatDoor
