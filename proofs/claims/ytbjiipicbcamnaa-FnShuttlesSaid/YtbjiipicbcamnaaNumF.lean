/-
  Contracts over numbers alone: foam, water, rounding up.
-/
import Derived.Test.YtbjiipicbcamnaaNum
namespace Go.Proofs.Ytbjiipicbcamnaa
open Go.RowKit

set_option maxHeartbeats 400000 in
theorem upTo_c (a b : Int) (w : World) (ha : 0 ≤ a) (ha' : a ≤ 1000000000000) (hb : 1 ≤ b) (hb' : b ≤ 1000000000000) :
    Calls Try.prog 53 #[.int .i64 a, .int .i64 b] w fun e w' => e = .returned (.int .i64 ((a + b - 1) / b)) ∧ w = w' := by
  go_enter Try.func53, Try.ntmps53
  go_wp2
  go_ret
  exact ⟨rfl, rfl⟩

/-- What FoamFor gives. -/
def foamFor (a r p m : Int) : Int × Int × Bool :=
  if inB a 1 5000 && inB r 1 20 && inB p 1 6 && inB m 1 60 then (a * r * m - (a * r * m * p + 99) / 100, (a * r * m * p + 99) / 100, true) else (0, 0, false)

theorem shStore_c (n : Int) (w : World) :
    Calls Try.prog 50 #[.int .i64 n] w fun e w' => e = .returned (.bool (inB n 0 100000)) ∧ w = w' := by
  go_enter Try.func50, Try.ntmps50
  go_wp2_with (go_at_call 58; refine (l1In_c _ _ _ _).mono ?_; rintro e w' ⟨rfl, rfl⟩)
  go_ret
  exact ⟨rfl, rfl⟩
theorem shFlow_c (n : Int) (w : World) :
    Calls Try.prog 47 #[.int .i64 n] w fun e w' => e = .returned (.bool (inB n 1 6000)) ∧ w = w' := by
  go_enter Try.func47, Try.ntmps47
  go_wp2_with (go_at_call 58; refine (l1In_c _ _ _ _).mono ?_; rintro e w' ⟨rfl, rfl⟩)
  go_ret
  exact ⟨rfl, rfl⟩
/-- What FoamLasts gives. -/
def foamLasts (wa fo fl p : Int) : Int × Bool :=
  if inB wa 0 100000 && inB fo 0 100000 && inB fl 1 6000 && inB p 1 6 then
    (if (fl * p + 99) / 100 < fl then minI (fo / ((fl * p + 99) / 100)) (wa / (fl - (fl * p + 99) / 100)) else fo / ((fl * p + 99) / 100), true)
  else (0, false)

end Go.Proofs.Ytbjiipicbcamnaa
