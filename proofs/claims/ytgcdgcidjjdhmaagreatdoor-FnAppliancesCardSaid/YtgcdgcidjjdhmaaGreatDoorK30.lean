/-
  Draws of limits, stations and movers (printed by gen_drawt.py). (joined by pack.py: DrawTa)
-/
import Derived.Test.YtgcdgcidjjdhmaaGreatDoorK29
import Derived.Test.YtgcdgcidjjdhmaaGreatDoorK10
import Derived.Test.YtgcdgcidjjdhmaaGreatDoorK8
import Derived.Test.YtgcdgcidjjdhmaaGreatDoorK6
import Derived.Deep.DeepCutAuto
import Derived.Deep.CutBlock
namespace Go.Proofs.YtgcdgcidjjdhmaaGreatDoor
set_option linter.unusedVariables false
set_option linter.unusedSimpArgs false
open Go.RowKit

theorem own_at {w : World} {base : Nat} {e : TypeId} {sz n c : Nat} {A : Option Addr} {xs : List Value} (h : w.ownsRow base e sz (.slice A n c) n xs) (h0 : 0 < n) : ∃ g, A = some ⟨g, 0, none⟩ ∧ base ≤ g ∧ g < w.heap.size := by
  rcases h.2 with ⟨_, hq⟩ | ⟨g, cap, cur, hv, hb, hg, _⟩
  · omega
  · simp only [Value.slice.injEq] at hv
    exact ⟨g, hv.1, hb, (Array.getElem?_eq_some_iff.1 hg).1⟩
def FewPost (B : Nat) (l : List Int) (a : Nat) (w : World) (e : Ending) (w' : World) : Prop := ∃ (v : Value) (Q : List Int), e = .returned v ∧ RdB w.heap.size w' v Q.length (ints Q) ∧ Q.length ≤ 7 ∧ Drew B l a 22 w w'
theorem rdi_cutA {w : World} {A : Option Addr} {c j : Nat} {l : List Int} (h : RdI w (.slice A l.length c) l) (hj : j ≤ l.length) : RdI w (.slice A j c) (l.take j) := by
  obtain ⟨A', c', hv, h1, h2, h3⟩ := rd_front h hj
  refine ⟨A', c', by rw [List.length_take, Nat.min_eq_left hj]; exact hv, by rw [List.length_take]; omega, h2, fun h0 => h3 (by rw [List.length_take] at h0; omega)⟩
theorem nodes_bd (n : Int) : 1 ≤ maxI 1 (minI 14 n) ∧ maxI 1 (minI 14 n) ≤ 14 := by unfold maxI minI; split <;> split <;> omega
theorem own_nil0 (w : World) (base : Nat) : w.ownsRow base 3 1 (.slice none 0 0) ([] : List Int).length (ints []) := World.ownsRow_nil _ _ _ _

end Go.Proofs.YtgcdgcidjjdhmaaGreatDoor
