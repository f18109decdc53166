/-
  A list of windows as a law's argument.
-/
import Derived.Test.YtibkadkodblefaaDoorOpen
import Derived.Test.YtibkadkodblefaaDoorWn
namespace Go.Proofs.YtibkadkodblefaaDoor
open Go.RowKit Go.ChangeShapes Go.WideShapes Go.Deep

theorem list2w {l : List Value} {a b : Value} (h : l.length = 2) (h0 : l[0]? = some a) (h1 : l[1]? = some b) : l = [a, b] := by
  match l, h with
  | [x, y], _ => simp at h0 h1; rw [h0, h1]
section
variable {H : Type} {enc : TypeId × Value → H} {w : World} {spare : Nat → Bool} {held : Bool}
set_option maxRecDepth 100000 in
theorem cells_wn {fuel : Nat} {cs : List Value} {x : DataW H × List MemPlace} (h : DataW.trod enc Tryd.prog w 0 spare held fuel 83 cs = some x) : ∃ t : Wn, cs = Wn.cells t := by
  obtain ⟨hl, n, hf⟩ := decode_struct Tryd.underlying83 (by kernel_rfl) (by kernel_rfl) h
  obtain ⟨v0, y0, e0, t0⟩ := hf 0 _ rfl
  obtain ⟨v1, y1, e1, t1⟩ := hf 1 _ rfl
  obtain ⟨q0, rfl, _⟩ := one_int Tryd.underlying3 t0
  obtain ⟨q1, rfl, _⟩ := one_int Tryd.underlying3 t1
  exact ⟨⟨q0, q1⟩, list2w (by simpa using hl) e0 e1⟩
set_option maxRecDepth 100000 in
theorem open_wns {r : Reach} {b0 : Nat} {v : Value} {d : DataW H} {p : List MemPlace} (hv : Value.okWide Tryd.prog w r b0 40 v) (h : DataW.Trod enc Tryd.prog w 0 spare held 40 v d p) : ∃ l : List Wn, Rd w v l.length (l.flatMap Wn.cells) := by
  obtain ⟨fuel, hf⟩ := h
  obtain ⟨v', rows, e, hrow, hrd⟩ := open_rows Tryd.underlying40 (sz := 2) (by kernel_rfl) (by omega) hf
  obtain ⟨l, hl, hfl⟩ := list_of_rows (f := Wn.cells) rows fun r hr => by
    obtain ⟨_, n, y, hy⟩ := hrow r hr
    exact cells_wn hy
  obtain ⟨a, len, cap, rfl⟩ := okWide_slice Tryd.underlying40 hv
  have e' : v' = .slice a len cap := by simpa [Value.cells] using e.symm
  subst e'
  exact ⟨l, by rw [hl, ← hfl]; exact hrd⟩
end
end Go.Proofs.YtibkadkodblefaaDoor
