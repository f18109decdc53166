/-
  The greater of two.
-/
import Derived.Test.YtcpchdbhpcebeaaNum
namespace Go.Proofs.Ytcpchdbhpcebeaa
open Go.RowKit

theorem l1Most_c (a b : Int) (w : World) :
    Calls Try.prog 53 #[.int .i64 a, .int .i64 b] w fun e w' => e = .returned (.int .i64 (maxI a b)) ∧ w = w' := by
  go_enter Try.func53, Try.ntmps53
  go_wp2
  · go_ret
    exact ⟨by unfold maxI; rw [if_pos (by assumption)]; rfl, rfl⟩
  · go_ret
    exact ⟨by unfold maxI; rw [if_neg (by omega)]; rfl, rfl⟩

end Go.Proofs.Ytcpchdbhpcebeaa
