/-
  The greater of two.
-/
import Derived.Test.YtibkadkodblefaaDoorNum
namespace Go.Proofs.YtibkadkodblefaaDoor
open Go.RowKit

theorem l1Most_c (a b : Int) (w : World) :
    Calls Tryd.prog 60 #[.int .i64 a, .int .i64 b] w fun e w' => e = .returned (.int .i64 (maxI a b)) ∧ w = w' := by
  go_enter Tryd.func60, Tryd.ntmps60
  go_wp2
  · go_ret
    exact ⟨by unfold maxI; rw [if_pos (by assumption)]; rfl, rfl⟩
  · go_ret
    exact ⟨by unfold maxI; rw [if_neg (by omega)]; rfl, rfl⟩

end Go.Proofs.YtibkadkodblefaaDoor
