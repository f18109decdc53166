/-
  slices.Sort on a row of ints of the call's own. (joined by pack.py: SortI)
-/
import Derived.Test.YthgegghdkoeofaaGreatDoorK22
import Derived.Sort.OwnSortedInts
namespace Go.Proofs.YthgegghdkoeofaaGreatDoor
set_option linter.unusedVariables false
set_option linter.unusedSimpArgs false
open Go.RowKit Go.Sort

theorem sort_c (v : Value) (l : List Int) (base : Nat) (w : World) (ho : w.ownsRow base 3 1 v l.length (ints l)) (hp : 0 < l.length) (hn : l.length < 4611686018427387904) :
    Calls Tryz.prog 136 #[v] w fun e w' => e = .returned (.tuple #[]) ∧ w'.ownsRow base 3 1 v l.length (ints (l.mergeSort fun x y => decide (x ≤ y))) ∧ w.grownBy w' v.ownBlock := by
  rcases ho.2 with ⟨rfl, h0⟩ | ⟨g, cap, cur, rfl, hbase, hb, h1, h2, h3, h4⟩
  · omega
  · have hH := holds_of_blockI (ss := l) hb (by simpa [ints] using h4)
    have hc := Tryz.slices_Sort_int g 0 cap l w hH (Array.getElem?_eq_some_iff.1 hb).1 hn
    refine hc.mono ?_
    rintro e w' ⟨rfl, nn, os, rfl⟩
    exact ⟨rfl, ownsRow_sortedI (by simp) hbase hb h1 h2 h3, grownBy_sortedI _⟩
end Go.Proofs.YthgegghdkoeofaaGreatDoor
