/-
  Marks on a list of Appliance of the call's own, and the look at the marks.
-/
import Derived.Test.YtddccjdppbcnbaaDoorApS
import Derived.Test.YtddccjdppbcnbaaDoorTxt
import Derived.Test.YtddccjdppbcnbaaDoorGro
namespace Go.Proofs.YtddccjdppbcnbaaDoor
open Go.RowKit

def Ap.mk1 (q : Int) (i : Nat) : Ap := ⟨mt (q + 5 * i), q + 5 * i + 1, q + 5 * i + 2, q + 5 * i + 3, q + 5 * i + 4⟩
def Ap.marks (q : Int) (n : Nat) : List Ap := (List.range n).map (Ap.mk1 q)
theorem Ap.marks_len (q : Int) (n : Nat) : (Ap.marks q n).length = n := by simp [Ap.marks]
theorem Ap.marks_get {q : Int} {n i : Nat} (h : i < n) : (Ap.marks q n)[i]? = some (Ap.mk1 q i) := by simp [Ap.marks, h]
theorem Ap.marks_succ (q : Int) (n : Nat) : Ap.marks q (n + 1) = Ap.marks q n ++ [Ap.mk1 q n] := by simp [Ap.marks, List.range_succ]

theorem Ap.own_conv {w : World} {base : Nat} {e : TypeId} {sz : Nat} {v : Value} {n : Nat} {xs ys : List Value} (h : w.ownsRow base e sz v n xs) (he : xs = ys) : w.ownsRow base e sz v n ys := he ▸ h
end Go.Proofs.YtddccjdppbcnbaaDoor
