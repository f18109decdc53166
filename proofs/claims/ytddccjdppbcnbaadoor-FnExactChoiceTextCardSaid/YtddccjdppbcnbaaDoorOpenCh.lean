/-
  A list of choices as a law's argument.
-/
import Derived.Test.YtddccjdppbcnbaaDoorOpen
import Derived.Test.YtddccjdppbcnbaaDoorCh
import Derived.Test.YtddccjdppbcnbaaDoorInts
namespace Go.Proofs.YtddccjdppbcnbaaDoor
open Go.RowKit Go.ChangeShapes Go.WideShapes Go.Deep

section
variable {H : Type} {enc : TypeId × Value → H} {w : World} {spare : Nat → Bool} {held : Bool}
set_option maxRecDepth 100000 in
theorem cells_ch {fuel : Nat} {cs : List Value} {x : DataW H × List MemPlace} (h : DataW.trod enc Tryd.prog w 0 spare held fuel 32 cs = some x) : ∃ t : {t : Ch // t.cn.size ≤ 9223372036854775807}, cs = Ch.cells t.1 := by
  obtain ⟨hl, n, hf⟩ := decode_struct Tryd.underlying32 (by kernel_rfl) (by kernel_rfl) h
  obtain ⟨v0, y0, e0, t0⟩ := hf 0 _ rfl
  obtain ⟨v1, y1, e1, t1⟩ := hf 1 _ rfl
  obtain ⟨q0, rfl, hq0⟩ := one_string Tryd.underlying9 t0
  obtain ⟨q1, rfl, _⟩ := one_int Tryd.underlying3 t1
  exact ⟨⟨⟨q0, q1⟩, by rw [maxLen_eq] at hq0; exact hq0⟩, list2 (by simpa using hl) e0 e1⟩
set_option maxRecDepth 100000 in
theorem open_chs {r : Reach} {b0 : Nat} {v : Value} {d : DataW H} {p : List MemPlace} (hv : Value.okWide Tryd.prog w r b0 22 v) (h : DataW.Trod enc Tryd.prog w 0 spare held 22 v d p) : ∃ l : List Ch, Rd w v l.length (l.flatMap Ch.cells) ∧ ∀ x ∈ l, x.cn.size ≤ 9223372036854775807 := by
  obtain ⟨fuel, hf⟩ := h
  obtain ⟨v', rows, e, hrow, hrd⟩ := open_rows Tryd.underlying22 (sz := 2) (by kernel_rfl) (by omega) hf
  obtain ⟨l, hl, hfl⟩ := list_of_rows (f := fun t : {t : Ch // t.cn.size ≤ 9223372036854775807} => Ch.cells t.1) rows fun r hr => by
    obtain ⟨_, n, y, hy⟩ := hrow r hr
    exact cells_ch hy
  obtain ⟨a, len, cap, rfl⟩ := okWide_slice Tryd.underlying22 hv
  have e' : v' = .slice a len cap := by simpa [Value.cells] using e.symm
  subst e'
  refine ⟨l.map (·.1), ?_, fun x hx => ?_⟩
  · rw [List.length_map, hl, List.flatMap_map, ← hfl]; exact hrd
  · obtain ⟨y, _, rfl⟩ := List.mem_map.1 hx
    exact y.2
end
end Go.Proofs.YtddccjdppbcnbaaDoor
