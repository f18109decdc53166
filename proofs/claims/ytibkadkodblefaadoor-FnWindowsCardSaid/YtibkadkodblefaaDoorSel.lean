/-
  The numbers below k that a test lets pass.
-/
import Derived.Test.YtibkadkodblefaaDoorNum
namespace Go.Proofs.YtibkadkodblefaaDoor
open Go.RowKit

def selD (p : Nat → Bool) (k : Nat) : List Int := ((List.range k).filter p).map fun (i : Nat) => (i : Int)
theorem selD_yes {p : Nat → Bool} {k : Nat} (h : p k = true) : selD p (k + 1) = selD p k ++ [(k : Int)] := by
  unfold selD; rw [List.range_succ, List.filter_append, List.map_append]; simp [h]
theorem selD_no {p : Nat → Bool} {k : Nat} (h : p k = false) : selD p (k + 1) = selD p k := by
  unfold selD; rw [List.range_succ, List.filter_append, List.map_append]; simp [h]
theorem selD_len (p : Nat → Bool) (k : Nat) : (selD p k).length ≤ k := by
  unfold selD; rw [List.length_map]; exact Nat.le_trans (List.length_filter_le _ _) (by simp)
theorem selD_mem {p : Nat → Bool} {k : Nat} {x : Int} (h : x ∈ selD p k) : ∃ i : Nat, x = (i : Int) ∧ i < k ∧ p i = true := by
  unfold selD at h
  obtain ⟨i, hi, rfl⟩ := List.mem_map.1 h
  rw [List.mem_filter, List.mem_range] at hi
  exact ⟨i, rfl, hi.1, hi.2⟩
end Go.Proofs.YtibkadkodblefaaDoor
