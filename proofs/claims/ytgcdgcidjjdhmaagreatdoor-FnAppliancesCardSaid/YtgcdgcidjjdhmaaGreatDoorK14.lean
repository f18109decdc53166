/-
  slices.SortStableFunc on a row of ints of the call's own, at 20 elements or fewer: by a comparison that only reads. A need: four numbers of 0..6 (printed by gen_pick.py). (joined by pack.py: Sort Need)
-/
import Derived.Test.YtgcdgcidjjdhmaaGreatDoorK6
import Derived.Test.YtgcdgcidjjdhmaaGreatDoorK2
import Derived.Deep.LoopGhost
import Derived.BigRegion
import Derived.Sort.WalkA
import Derived.Shelf.Abstract
import Derived.Test.YtgcdgcidjjdhmaaGreatDoorK0
namespace Go.Proofs.YtgcdgcidjjdhmaaGreatDoor
set_option linter.unusedVariables false
set_option linter.unusedSimpArgs false
open Go.RowKit

theorem only_drewN {a w : World} {row : Option Nat} (h : a.grownBy w row) (n : Nat) : a.grownBy (w.drewN n) row := ⟨h.os, h.tape, h.output, h.size, h.block⟩
theorem only_drew {a w : World} {row : Option Nat} (h : a.grownBy w row) : a.grownBy w.drew row := ⟨h.os, h.tape, h.output, h.size, h.block⟩
theorem ints_set (l : List Int) (k : Nat) (u : Int) : (ints l).set k (.int .i64 u) = ints (l.set k u) := by simp [ints, List.map_set]
theorem own_drewN {w : World} {base : Nat} {e : TypeId} {sz : Nat} {v : Value} {n : Nat} {xs : List Value} (h : w.ownsRow base e sz v n xs) (k : Nat) : (w.drewN k).ownsRow base e sz v n xs := h

/-- What is asked of the comparison, function G bound to caps: whatever the row g holds, it hands back cf x y for numbers of which p holds, and only reads. -/
def CmpOk (G : Nat) (caps : Array Value) (cf : Int → Int → Int) (p : Int → Prop) (g : Nat) (w : World) : Prop :=
  ∀ (W : World) (x y : Int), w.grownBy W (some g) → p x → p y → Calls Tryz.prog G (#[.int .i64 x, .int .i64 y] ++ caps) W fun e W' => e = .returned (.int .i64 (cf x y)) ∧ ∃ q, W' = W.drewN q
def gtOf (cf : Int → Int → Int) (y x : Int) : Bool := decide (cf x y < 0)

end Go.Proofs.YtgcdgcidjjdhmaaGreatDoor

namespace Go.Proofs.YtgcdgcidjjdhmaaGreatDoor
set_option linter.unusedVariables false
set_option linter.unusedSimpArgs false
open Go.RowKit

def needB (l : List Int) : Bool := decide (l.length = 4) && l.all fun x => inB x 0 6
theorem needB_true {l : List Int} (h : needB l = true) : l.length = 4 ∧ ∀ x ∈ l, 0 ≤ x ∧ x ≤ 6 := by
  unfold needB at h
  simp only [Bool.and_eq_true, decide_eq_true_eq, List.all_eq_true] at h
  exact ⟨h.1, fun x hx => inB_true (h.2 x hx)⟩
theorem all_false_at2 {p : Int → Bool} {l : List Int} {k : Nat} {x : Int} (h : l[k]? = some x) (hp : p x = false) : l.all p = false :=
  List.all_eq_false.2 ⟨x, List.mem_of_getElem? h, by rw [hp]; simp⟩
theorem need_no {l : List Int} (h : (l.all fun x => inB x 0 6) = false) : needB l = false := by unfold needB; rw [h]; simp
theorem need_len {l : List Int} (h : (l.all fun x => inB x 0 6) = true) : needB l = decide (l.length = 4) := by unfold needB; rw [h]; simp
end Go.Proofs.YtgcdgcidjjdhmaaGreatDoor
