/-
  CoverTimes on both sides.
-/
import Derived.Test.YtjogndeodgibfaaDoorCovS
import Derived.Test.YtjogndeodgibfaaDoorSta
namespace Go.Proofs.YtjogndeodgibfaaDoor
open Go.RowKit

def coverTimesV (n : Int) (l : List St) (q : List Int) : List Int × Bool := if goodSta n l q then (coverL n.toNat (arcs l) q, true) else ([], false)
theorem goodSta_true {n : Int} {l : List St} {q : List Int} (h : goodSta n l q = true) : goodTown n l = true ∧ (∀ x ∈ q, 0 ≤ x ∧ x ≤ n - 1) ∧ q.length ≤ 6 := by
  simp only [goodSta, Bool.and_eq_true, decide_eq_true_eq] at h
  exact ⟨h.1, rising_mem h.2.1, h.2.2⟩
theorem coverTimesV_len (n : Int) (l : List St) (q : List Int) : (coverTimesV n l q).1.length ≤ 1000000 := by
  unfold coverTimesV
  split
  · rename_i h
    have := goodTown_true (goodSta_true h).1
    simp only [coverL_len]; omega
  · simp
theorem nat_of {n : Int} (h : 1 ≤ n) : ∃ m : Nat, n = (m : Int) := ⟨n.toNat, by omega⟩


end Go.Proofs.YtjogndeodgibfaaDoor
