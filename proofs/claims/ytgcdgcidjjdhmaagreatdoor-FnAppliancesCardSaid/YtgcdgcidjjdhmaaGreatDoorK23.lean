/-
  The sort of ints at this program: the contract of the library, laid (the text by the kit's tool, its numbers by name). (joined by pack.py: SortLay)
-/
import Derived.Shelf.Sort.Plain
import Derived.Test.YtgcdgcidjjdhmaaGreatDoorK6
namespace Go.Proofs.YtgcdgcidjjdhmaaGreatDoor
set_option linter.unusedVariables false
set_option linter.unusedSimpArgs false
open Go.Shelf
end Go.Proofs.YtgcdgcidjjdhmaaGreatDoor
