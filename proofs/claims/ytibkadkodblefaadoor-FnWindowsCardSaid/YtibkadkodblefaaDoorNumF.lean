/-
  Contracts over numbers alone: foam, water, rounding up.
-/
import Derived.Test.YtibkadkodblefaaDoorNum
namespace Go.Proofs.YtibkadkodblefaaDoor
open Go.RowKit

/-- What FoamFor gives. -/
def foamFor (a r p m : Int) : Int × Int × Bool :=
  if inB a 1 5000 && inB r 1 20 && inB p 1 6 && inB m 1 60 then (a * r * m - (a * r * m * p + 99) / 100, (a * r * m * p + 99) / 100, true) else (0, 0, false)

theorem l1Least_c (a b : Int) (w : World) :
    Calls Tryd.prog 62 #[.int .i64 a, .int .i64 b] w fun e w' => e = .returned (.int .i64 (minI a b)) ∧ w = w' := by
  go_enter Tryd.func62, Tryd.ntmps62
  go_wp2
  · go_ret
    exact ⟨by unfold minI; rw [if_pos (by assumption)]; rfl, rfl⟩
  · go_ret
    exact ⟨by unfold minI; rw [if_neg (by omega)]; rfl, rfl⟩
/-- What FoamLasts gives. -/
def foamLasts (wa fo fl p : Int) : Int × Bool :=
  if inB wa 0 100000 && inB fo 0 100000 && inB fl 1 6000 && inB p 1 6 then
    (if (fl * p + 99) / 100 < fl then minI (fo / ((fl * p + 99) / 100)) (wa / (fl - (fl * p + 99) / 100)) else fo / ((fl * p + 99) / 100), true)
  else (0, false)

end Go.Proofs.YtibkadkodblefaaDoor
