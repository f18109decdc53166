/-
  The greater of two.
-/
import Derived.Test.YtbjiipicbcamnaaNum
namespace Go.Proofs.Ytbjiipicbcamnaa
open Go.RowKit

theorem l1Most_c (a b : Int) (w : World) :
    Calls Try.prog 48 #[.int .i64 a, .int .i64 b] w fun e w' => e = .returned (.int .i64 (maxI a b)) ∧ w = w' := by
  go_enter Try.func48, Try.ntmps48
  go_wp2
  · go_ret
    exact ⟨by unfold maxI; rw [if_pos (by assumption)]; rfl, rfl⟩
  · go_ret
    exact ⟨by unfold maxI; rw [if_neg (by omega)]; rfl, rfl⟩

end Go.Proofs.Ytbjiipicbcamnaa
