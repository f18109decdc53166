/-
  Limits, and the nodes that are covered (or not), on both sides.
-/
import Derived.Test.YtjogndeodgibfaaDoorCovA
import Derived.Test.YtjogndeodgibfaaDoorSlc
import Derived.Test.YtjogndeodgibfaaDoorApp
import Derived.Test.YtjogndeodgibfaaDoorOwn
namespace Go.Proofs.YtjogndeodgibfaaDoor
open Go.RowKit

def askC (n : Int) (l : List St) (q : List Int) (a : Int) : Bool := goodSta n l q && inB a 0 36000
/-- The places below k that a predicate picks. -/
def selI (p : Nat → Bool) (k : Nat) : List Int := ((List.range k).filter p).map fun (i : Nat) => (i : Int)
theorem selI_yes {p : Nat → Bool} {k : Nat} (h : p k = true) : selI p (k + 1) = selI p k ++ [(k : Int)] := by
  unfold selI; rw [List.range_succ, List.filter_append, List.map_append]; simp [h]
theorem selI_no {p : Nat → Bool} {k : Nat} (h : p k = false) : selI p (k + 1) = selI p k := by
  unfold selI; rw [List.range_succ, List.filter_append, List.map_append]; simp [h]
theorem selI_len (p : Nat → Bool) (k : Nat) : (selI p k).length ≤ k := by
  unfold selI; rw [List.length_map]; have := List.length_filter_le p (List.range k); simp at this; omega
theorem selI_mem {p : Nat → Bool} {k : Nat} {x : Int} : x ∈ selI p k ↔ ∃ i : Nat, x = (i : Int) ∧ i < k ∧ p i = true := by
  unfold selI
  simp only [List.mem_map, List.mem_filter, List.mem_range]
  exact ⟨fun ⟨i, h1, h2⟩ => ⟨i, h2.symm, h1.1, h1.2⟩, fun ⟨i, h1, h2, h3⟩ => ⟨i, ⟨h2, h3⟩, h1.symm⟩⟩
def covP (d : List Int) (a : Int) (b : Bool) (i : Nat) : Bool := inB (d.getD i 0) 0 a == b
/-- The nodes whose time lies within the limit (or does not), up to one. -/
def covIdx (d : List Int) (a : Int) (b : Bool) (k : Nat) : List Int := selI (covP d a b) k
theorem covIdx_yes {d : List Int} {a : Int} {b : Bool} {k : Nat} (h : inB (d.getD k 0) 0 a = b) : covIdx d a b (k + 1) = covIdx d a b k ++ [(k : Int)] := selI_yes (by unfold covP; rw [h]; simp)
theorem covIdx_no {d : List Int} {a : Int} {b : Bool} {k : Nat} (h : ¬ (inB (d.getD k 0) 0 a = b)) : covIdx d a b (k + 1) = covIdx d a b k := selI_no (by unfold covP; exact beq_eq_false_iff_ne.2 h)
theorem covIdx_len (d : List Int) (a : Int) (b : Bool) (k : Nat) : (covIdx d a b k).length ≤ k := selI_len _ _

end Go.Proofs.YtjogndeodgibfaaDoor
