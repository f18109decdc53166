/-
  A tanker, a ladder, a list of tankers as a law's argument.
-/
import Derived.Test.YtbjiipicbcamnaaOpen
import Derived.Test.YtbjiipicbcamnaaTank
namespace Go.Proofs.Ytbjiipicbcamnaa
open Go.RowKit Go.ChangeShapes Go.WideShapes Go.Deep

section
variable {H : Type} {enc : TypeId × Value → H} {w : World} {spare : Nat → Bool} {held : Bool}
set_option maxRecDepth 100000 in
theorem cells_tk {fuel : Nat} {cs : List Value} {x : DataW H × List MemPlace} (h : DataW.trod enc Try.prog w 0 spare held fuel 56 cs = some x) : ∃ t : Tk, cs = Tk.cells t := by
  obtain ⟨hl, n, hf⟩ := decode_struct Try.underlying56 (by kernel_rfl) (by kernel_rfl) h
  obtain ⟨v0, y0, e0, t0⟩ := hf 0 _ rfl
  obtain ⟨v1, y1, e1, t1⟩ := hf 1 _ rfl
  obtain ⟨v2, y2, e2, t2⟩ := hf 2 _ rfl
  obtain ⟨v3, y3, e3, t3⟩ := hf 3 _ rfl
  obtain ⟨q0, rfl, _⟩ := one_int Try.underlying3 t0
  obtain ⟨q1, rfl, _⟩ := one_int Try.underlying3 t1
  obtain ⟨q2, rfl, _⟩ := one_int Try.underlying3 t2
  obtain ⟨q3, rfl, _⟩ := one_int Try.underlying3 t3
  exact ⟨⟨q0, q1, q2, q3⟩, list4 (by simpa using hl) e0 e1 e2 e3⟩
set_option maxRecDepth 100000 in
theorem open_tk {r : Reach} {b0 : Nat} {v : Value} {d : DataW H} {p : List MemPlace} (hv : Value.okWide Try.prog w r b0 56 v) (h : DataW.Trod enc Try.prog w 0 spare held 56 v d p) :
    ∃ l f d e : Int, v = .agg #[.int .i64 l, .int .i64 f, .int .i64 d, .int .i64 e] := by
  obtain ⟨cs, rfl, _⟩ := okWide_struct Try.underlying56 hv
  obtain ⟨fuel, hf⟩ := h
  obtain ⟨t, ht⟩ := cells_tk hf
  refine ⟨t.l, t.f, t.d, t.e, ?_⟩
  have : cs.toList = Tk.cells t := ht
  obtain ⟨cs⟩ := cs
  simp at this
  rw [this]; rfl
set_option maxRecDepth 100000 in
theorem open_tks {r : Reach} {b0 : Nat} {v : Value} {d : DataW H} {p : List MemPlace} (hv : Value.okWide Try.prog w r b0 22 v) (h : DataW.Trod enc Try.prog w 0 spare held 22 v d p) : ∃ l : List Tk, Rd w v l.length (l.flatMap Tk.cells) := by
  obtain ⟨fuel, hf⟩ := h
  obtain ⟨v', rows, e, hrow, hrd⟩ := open_rows Try.underlying22 (sz := 4) (by kernel_rfl) (by omega) hf
  obtain ⟨l, hl, hfl⟩ := list_of_rows (f := Tk.cells) rows fun r hr => by
    obtain ⟨_, n, y, hy⟩ := hrow r hr
    exact cells_tk hy
  obtain ⟨a, len, cap, rfl⟩ := okWide_slice Try.underlying22 hv
  have e' : v' = .slice a len cap := by simpa [Value.cells] using e.symm
  subst e'
  exact ⟨l, by rw [hl, ← hfl]; exact hrd⟩
end
end Go.Proofs.Ytbjiipicbcamnaa
