/-
  Available appliances (printed by gen_ava.py). (joined by pack.py: Ava)
-/
import Derived.Test.YtgcdgcidjjdhmaaGreatDoorK9
import Derived.BigRegion
import Derived.Laws.Tables
namespace Go.Proofs.YtgcdgcidjjdhmaaGreatDoor
set_option linter.unusedVariables false
set_option linter.unusedSimpArgs false
open Go.RowKit

def avNeed (kd : Int) : Int := if kd = 0 then 4 else if kd = 1 then 2 else if kd = 2 then 3 else 2
def avB (a : Ap) : Bool := (decide (a.sv = 0) || decide (a.sv = 4)) && decide (avNeed a.kd ≤ a.cr)
end Go.Proofs.YtgcdgcidjjdhmaaGreatDoor
