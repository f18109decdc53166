/-
  Texts: equal bytes, equal texts.
-/
import Derived.Test.YtddccjdppbcnbaaDoorMem
import Derived.Laws.Strings
import Derived.WideShapes
namespace Go.Proofs.YtddccjdppbcnbaaDoor
theorem bl_iff (a b : ByteArray) : (a.toList = b.toList) ↔ (a = b) :=
  ⟨fun h => Go.WideShapes.bytes_inj (by rwa [ByteArray.toList_eq, ByteArray.toList_eq] at h), fun h => by rw [h]⟩
end Go.Proofs.YtddccjdppbcnbaaDoor
