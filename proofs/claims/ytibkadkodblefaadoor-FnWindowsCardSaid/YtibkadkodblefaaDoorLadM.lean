/-
  Ladders: the table of points as a map keyed by pairs of numbers.
-/
import Derived.Test.YtibkadkodblefaaDoorLadP
import Derived.Test.YtibkadkodblefaaDoorMem
import Derived.Maps.OwnOps
import Derived.Maps.OwnSet
import Derived.Maps.Views
import Derived.DeepKeys4
import Derived.WalkArith
namespace Go.Proofs.YtibkadkodblefaaDoor
open Go.RowKit Go.Maps

def ptK (x y : Int) : Lit := .string (keyBytes [.int .i64 x, .int .i64 y])
def ptA (x y : Int) : Value := .agg #[.int .i64 x, .int .i64 y]
theorem laidOutT : laidOutB Tryd.prog = true := by kernel_rfl
theorem pt_keyed : Keyed Tryd.prog 76 := Keyed.of_law (deep_law_laid laidOutT (m := 3) (by omega) (of_decide_eq_true (by kernel_rfl)) (by kernel_rfl) (by kernel_rfl))
theorem pt_keyType : Tryd.prog.keyType 76 = true := by kernel_rfl
theorem pt_cells : Tryd.prog.cellsOf 76 = 2 := by kernel_rfl
theorem pt_cell : Tryd.prog.cellsOf 3 = 1 := by kernel_rfl
theorem pt_formed (x y : Int) : (ptA x y).formed Tryd.prog 76 = true := by
  unfold ptA
  simp [Value.formed, Tryd.underlying76, pt_cells]
theorem keyOf_pt {x y : Int} (hx : (Lit.int .i64 x).wf = true) (hy : (Lit.int .i64 y).wf = true) : keyOf Tryd.prog 76 (ptA x y) = some (ptK x y) := by
  unfold keyOf
  rw [Tryd.underlying76]
  dsimp only
  rw [pt_keyType, pt_formed]
  have h : Tryd.prog.keyLits (Tryd.prog.types.size + 1) 76 (ptA x y).cells.toList = some [.int .i64 x, .int .i64 y] := by
    obtain ⟨k, hk⟩ : ∃ k, Tryd.prog.types.size = k + 1 := ⟨Tryd.prog.types.size - 1, by
      have : Tryd.prog.types.size ≠ 0 := of_decide_eq_true (by kernel_rfl)
      omega⟩
    rw [hk]
    have e1 : (ptA x y).cells.toList = [.int .i64 x, .int .i64 y] := rfl
    rw [e1]
    simp only [Program.keyLits, Tryd.underlying76, pt_cells, pt_cell]
    simp [List.range_succ, Program.keyLits, Tryd.underlying3, hx, hy]
  rw [h]
  rfl
theorem ptK_inj {x y x' y' : Int} (hx : (Lit.int .i64 x).wf = true) (hy : (Lit.int .i64 y).wf = true) (hx' : (Lit.int .i64 x').wf = true) (hy' : (Lit.int .i64 y').wf = true) (h : ptK x y = ptK x' y') : x = x' ∧ y = y' := by
  have h1 := keyOf_pt hx hy
  have h2 := keyOf_pt hx' hy'
  rw [← h] at h2
  have h3 := pt_keyed.inj h1 h2
  unfold ptA at h3
  simpa using h3
theorem wf_sm {x : Int} (h : -2000 ≤ x ∧ x ≤ 2000) : (Lit.int .i64 x).wf = true := WalkArith.wf_i64 (by omega)
/-- The map reads as the points. -/
def PtsD (D : DataW Unit) (F : Pts) : Prop := ∀ x y : Int, -2000 ≤ x ∧ x ≤ 2000 → -2000 ≤ y ∧ y ≤ 2000 → D.atKey (ptK x y) (.lit (.int .i64 0)) = .lit (.int .i64 (F x y))
theorem ptsD_nil : PtsD (.map []) fun _ _ => 0 := fun _ _ _ _ => rfl
theorem ptsD_put {D : DataW Unit} {F : Pts} {x y v : Int} (h : PtsD D F) (hD : IsMap D) (hx : -2000 ≤ x ∧ x ≤ 2000) (hy : -2000 ≤ y ∧ y ≤ 2000) : PtsD (D.put (ptK x y) (.lit (.int .i64 v))) (F.put x y v) := fun x' y' hx' hy' => by
  unfold Pts.put
  by_cases e : x' = x ∧ y' = y
  · obtain ⟨rfl, rfl⟩ := e
    rw [if_pos ⟨rfl, rfl⟩, atKey_put_same hD (by trivial)]
  · rw [if_neg e, atKey_put_other (fun k => e (ptK_inj (wf_sm hx') (wf_sm hy') (wf_sm hx) (wf_sm hy) k))]
    exact h x' y' hx' hy'
theorem ptsD_at {D : DataW Unit} {F : Pts} {x y c : Int} (h : PtsD D F) (hx : -2000 ≤ x ∧ x ≤ 2000) (hy : -2000 ≤ y ∧ y ≤ 2000) (hc : D.atKey (ptK x y) (.lit (.int .i64 0)) = .lit (.int .i64 c)) : c = F x y := by
  rw [h x y hx hy] at hc
  simpa using hc.symm
end Go.Proofs.YtibkadkodblefaaDoor
