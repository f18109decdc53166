/-
  slices.SortStableFunc on a row of ints of the call's own, at 20 elements or fewer: by a comparison that only reads.
-/
import Derived.Test.YtbjiipicbcamnaaInts
import Derived.Test.YtbjiipicbcamnaaIns
import Derived.Deep.LoopGhost
import Derived.BigRegion
import Derived.Sort.WalkA
import Derived.Shelf.Abstract
namespace Go.Proofs.Ytbjiipicbcamnaa
open Go.RowKit

theorem only_drewN {a w : World} {row : Option Nat} (h : a.grownBy w row) (n : Nat) : a.grownBy (w.drewN n) row := ⟨h.os, h.tape, h.output, h.size, h.block⟩
theorem only_drew {a w : World} {row : Option Nat} (h : a.grownBy w row) : a.grownBy w.drew row := ⟨h.os, h.tape, h.output, h.size, h.block⟩
theorem ints_set (l : List Int) (k : Nat) (u : Int) : (ints l).set k (.int .i64 u) = ints (l.set k u) := by simp [ints, List.map_set]
theorem own_drewN {w : World} {base : Nat} {e : TypeId} {sz : Nat} {v : Value} {n : Nat} {xs : List Value} (h : w.ownsRow base e sz v n xs) (k : Nat) : (w.drewN k).ownsRow base e sz v n xs := h

/-- What is asked of the comparison, function G bound to caps: whatever the row g holds, it hands back cf x y for numbers of which p holds, and only reads. -/
def CmpOk (G : Nat) (caps : Array Value) (cf : Int → Int → Int) (p : Int → Prop) (g : Nat) (w : World) : Prop :=
  ∀ (W : World) (x y : Int), w.grownBy W (some g) → p x → p y → Calls Try.prog G (#[.int .i64 x, .int .i64 y] ++ caps) W fun e W' => e = .returned (.int .i64 (cf x y)) ∧ ∃ q, W' = W.drewN q
def gtOf (cf : Int → Int → Int) (y x : Int) : Bool := decide (cf x y < 0)

end Go.Proofs.Ytbjiipicbcamnaa
