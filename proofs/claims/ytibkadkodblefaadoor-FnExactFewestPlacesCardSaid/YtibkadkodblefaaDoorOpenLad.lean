/-
  A ladder as a law's argument.
-/
import Derived.Test.YtibkadkodblefaaDoorOpen
import Derived.Deep.Fields
namespace Go.Proofs.YtibkadkodblefaaDoor
open Go.RowKit Go.ChangeShapes Go.WideShapes Go.Deep

section
variable {H : Type} {enc : TypeId × Value → H} {w : World} {spare : Nat → Bool} {held : Bool}
set_option maxRecDepth 100000 in
theorem open_ladder {r : Reach} {b0 : Nat} {v : Value} {d : DataW H} {p : List MemPlace} (hv : Value.okWide Tryd.prog w r b0 28 v) (h : DataW.Trod enc Tryd.prog w 0 spare held 28 v d p) :
    ∃ a b c d e : Int, v = .agg #[.int .i64 a, .int .i64 b, .int .i64 c, .int .i64 d, .int .i64 e] := by
  obtain ⟨cs, rfl, _⟩ := okWide_struct Tryd.underlying28 hv
  obtain ⟨fuel, hf⟩ := h
  obtain ⟨hl, n, hf⟩ := decode_struct Tryd.underlying28 (by kernel_rfl) (by kernel_rfl) hf
  obtain ⟨v0, y0, e0, t0⟩ := hf 0 _ rfl
  obtain ⟨v1, y1, e1, t1⟩ := hf 1 _ rfl
  obtain ⟨v2, y2, e2, t2⟩ := hf 2 _ rfl
  obtain ⟨v3, y3, e3, t3⟩ := hf 3 _ rfl
  obtain ⟨v4, y4, e4, t4⟩ := hf 4 _ rfl
  obtain ⟨q0, rfl, _⟩ := one_int Tryd.underlying3 t0
  obtain ⟨q1, rfl, _⟩ := one_int Tryd.underlying3 t1
  obtain ⟨q2, rfl, _⟩ := one_int Tryd.underlying3 t2
  obtain ⟨q3, rfl, _⟩ := one_int Tryd.underlying3 t3
  obtain ⟨q4, rfl, _⟩ := one_int Tryd.underlying3 t4
  refine ⟨q0, q1, q2, q3, q4, ?_⟩
  have := list5 (by simpa using hl) e0 e1 e2 e3 e4
  obtain ⟨cs⟩ := cs
  simp [Value.cells] at this
  rw [this]
end
end Go.Proofs.YtibkadkodblefaaDoor
