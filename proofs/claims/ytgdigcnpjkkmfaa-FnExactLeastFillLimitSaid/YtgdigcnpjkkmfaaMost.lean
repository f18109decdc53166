/-
  The greater of two.
-/
import Derived.Test.YtgdigcnpjkkmfaaNum
namespace Go.Proofs.Ytgdigcnpjkkmfaa
open Go.RowKit

theorem l1Most_c (a b : Int) (w : World) :
    Calls Try.prog 42 #[.int .i64 a, .int .i64 b] w fun e w' => e = .returned (.int .i64 (maxI a b)) ∧ w = w' := by
  go_enter Try.func42, Try.ntmps42
  go_wp2
  · go_ret
    exact ⟨by unfold maxI; rw [if_pos (by assumption)]; rfl, rfl⟩
  · go_ret
    exact ⟨by unfold maxI; rw [if_neg (by omega)]; rfl, rfl⟩

end Go.Proofs.Ytgdigcnpjkkmfaa
