/-
  The order of attendance: available appliances with a way, by their times. (joined by pack.py: Rdy)
-/
import Derived.Test.YtgcdgcidjjdhmaaGreatDoorK13
import Derived.Test.YtgcdgcidjjdhmaaGreatDoorK12
import Derived.Test.YtgcdgcidjjdhmaaGreatDoorK14
import Derived.Test.YtgcdgcidjjdhmaaGreatDoorK16
import Derived.Test.YtgcdgcidjjdhmaaGreatDoorK6
import Derived.Test.YtgcdgcidjjdhmaaGreatDoorK7
import Derived.Test.YtgcdgcidjjdhmaaGreatDoorK10
namespace Go.Proofs.YtgcdgcidjjdhmaaGreatDoor
set_option linter.unusedVariables false
set_option linter.unusedSimpArgs false
open Go.RowKit

/-- The time of the appliance with an index. -/
def rdyKey (ev : List Int) (f : List Ap) (i : Int) : Int := match f[i.toNat]? with
  | some a => ev.getD a.nd.toNat 0
  | none => 0
def rdyP (ev : List Int) (f : List Ap) (i : Nat) : Bool := match f[i]? with
  | some a => avB a && decide (0 ≤ ev.getD a.nd.toNat 0)
  | none => false
def rdyCf (ev : List Int) (f : List Ap) (x y : Int) : Int := cmpI (rdyKey ev f x) (rdyKey ev f y)
def readyL (ev : List Int) (f : List Ap) : List Int := isort (gtOf (rdyCf ev f)) (selD (rdyP ev f) f.length)
theorem rdyKey_at {ev : List Int} {f : List Ap} {k : Nat} {a : Ap} (h : f[k]? = some a) : rdyKey ev f (k : Int) = ev.getD a.nd.toNat 0 := by unfold rdyKey; rw [Int.toNat_natCast, h]
theorem rdyP_at {ev : List Int} {f : List Ap} {k : Nat} {a : Ap} (h : f[k]? = some a) : rdyP ev f k = (avB a && decide (0 ≤ ev.getD a.nd.toNat 0)) := by unfold rdyP; rw [h]
theorem readyL_mem {ev : List Int} {f : List Ap} {x : Int} (h : x ∈ readyL ev f) : ∃ (k : Nat) (a : Ap), x = (k : Int) ∧ f[k]? = some a ∧ rdyP ev f k = true ∧ 0 ≤ ev.getD a.nd.toNat 0 := by
  obtain ⟨k, rfl, hk, hp⟩ := selD_mem ((isort_perm _ _).mem_iff.1 h)
  obtain ⟨a, ha⟩ : ∃ a, f[k]? = some a := ⟨_, List.getElem?_eq_getElem hk⟩
  refine ⟨k, a, rfl, ha, hp, ?_⟩
  rw [rdyP_at ha, Bool.and_eq_true] at hp
  exact of_decide_eq_true hp.2
theorem readyL_len (ev : List Int) (f : List Ap) : (readyL ev f).length ≤ f.length := by unfold readyL; rw [isort_length]; exact selD_len _ _

end Go.Proofs.YtgcdgcidjjdhmaaGreatDoor
