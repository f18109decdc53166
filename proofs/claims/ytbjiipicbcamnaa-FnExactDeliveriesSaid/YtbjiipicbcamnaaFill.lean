/-
  FillOrder: both sides are the stable sort of the indices by Empty + Drive.
-/
import Derived.Test.YtbjiipicbcamnaaSort
import Derived.Test.YtbjiipicbcamnaaTankF
namespace Go.Proofs.Ytbjiipicbcamnaa
open Go.RowKit

def cmpI (a b : Int) : Int := if a < b then -1 else if b < a then 1 else 0
theorem cmpI_lt (a b : Int) : decide (cmpI a b < 0) = decide (a < b) := by
  unfold cmpI
  by_cases h : a < b
  · simp [h]
  · by_cases h2 : b < a
    · simp [h, h2]
    · simp [h, h2]
set_option maxHeartbeats 400000 in
theorem isNaN_c (a : Int) (w : World) : Calls Try.prog 75 #[.int .i64 a] w fun e w' => e = .returned (.bool false) ∧ w = w' := by
  have h : (a != a) = false := by simp
  go_enter Try.func75, Try.ntmps75
  go_wp2
  go_ret
  exact ⟨rfl, rfl⟩
set_option maxHeartbeats 400000 in
theorem cmpInt_c (a b : Int) (w : World) : Calls Try.prog 61 #[.int .i64 a, .int .i64 b] w fun e w' => e = .returned (.int .i64 (cmpI a b)) ∧ w = w' := by
  go_enter Try.func61, Try.ntmps61
  go_wp2_with (go_at_call 75; refine (isNaN_c _ _).mono ?_; rintro e w' ⟨rfl, rfl⟩)
  · go_ret
    exact ⟨by unfold cmpI; rw [if_pos (by assumption)]; rfl, rfl⟩
  · go_ret
    exact ⟨by unfold cmpI; rw [if_neg (by omega), if_pos (by assumption)]; rfl, rfl⟩
  · go_ret
    exact ⟨by unfold cmpI; rw [if_neg (by omega), if_neg (by omega)]; rfl, rfl⟩

def fillKey (l : List Tk) (i : Int) : Int := match l[i.toNat]? with
  | some t => t.e + t.d
  | none => 0
def fillCf (l : List Tk) (x y : Int) : Int := cmpI (fillKey l x) (fillKey l y)

end Go.Proofs.Ytbjiipicbcamnaa
