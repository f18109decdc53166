/-
  slices.Sort on a list without elements.
-/
import Derived.Test.YtibkadkodblefaaDoorInts
import Derived.Test.YtibkadkodblefaaDoorNum
namespace Go.Proofs.YtibkadkodblefaaDoor
open Go.RowKit

set_option maxRecDepth 100000 in
theorem len64_0 (w : World) : Calls Tryd.prog 107 #[.int .u64 0] w fun e w' => e = .returned (.int .i64 0) ∧ w = w' := by
  go_enter Tryd.func107, Tryd.ntmps107
  go_wp2
  go_ret
  exact ⟨by first | rfl | kernel_rfl | (simp; decide), rfl⟩
end Go.Proofs.YtibkadkodblefaaDoor
