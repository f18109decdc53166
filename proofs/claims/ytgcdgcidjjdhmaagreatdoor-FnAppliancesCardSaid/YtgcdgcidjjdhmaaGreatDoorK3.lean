/-
  Texts: equal bytes, equal texts. (joined by pack.py: Str)
-/
import Derived.Test.YtgcdgcidjjdhmaaGreatDoorK1
import Derived.Laws.Strings
import Derived.WideShapes
namespace Go.Proofs.YtgcdgcidjjdhmaaGreatDoor
set_option linter.unusedVariables false
set_option linter.unusedSimpArgs false
theorem bl_iff (a b : ByteArray) : (a.toList = b.toList) ↔ (a = b) :=
  ⟨fun h => Go.WideShapes.bytes_inj (by rwa [ByteArray.toList_eq, ByteArray.toList_eq] at h), fun h => by rw [h]⟩
end Go.Proofs.YtgcdgcidjjdhmaaGreatDoor
