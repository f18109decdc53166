/-
  A list of appliances as a law's argument. (joined by pack.py: OpenFleet)
-/
import Derived.Test.YtddccjdppbcnbaaGreatK30
import Derived.Test.YtddccjdppbcnbaaGreatK5
import Derived.Test.YtddccjdppbcnbaaGreatK3
namespace Go.Proofs.YtddccjdppbcnbaaGreat
set_option linter.unusedVariables false
set_option linter.unusedSimpArgs false
open Go.RowKit Go.ChangeShapes Go.WideShapes Go.Deep

section
variable {H : Type} {enc : TypeId × Value → H} {w : World} {spare : Nat → Bool} {held : Bool}
set_option maxRecDepth 100000 in
theorem cells_ap {fuel : Nat} {cs : List Value} {x : DataW H × List MemPlace} (h : DataW.trod enc Tryz.prog w 0 spare held fuel 51 cs = some x) : ∃ t : {t : Ap // t.nm.size ≤ 9223372036854775807}, cs = Ap.cells t.1 := by
  obtain ⟨hl, n, hf⟩ := decode_struct Tryz.underlying51 (by kernel_rfl) (by kernel_rfl) h
  obtain ⟨v0, y0, e0, t0⟩ := hf 0 _ rfl
  obtain ⟨v1, y1, e1, t1⟩ := hf 1 _ rfl
  obtain ⟨v2, y2, e2, t2⟩ := hf 2 _ rfl
  obtain ⟨v3, y3, e3, t3⟩ := hf 3 _ rfl
  obtain ⟨v4, y4, e4, t4⟩ := hf 4 _ rfl
  obtain ⟨q0, rfl, hq0⟩ := one_string Tryz.underlying9 t0
  obtain ⟨q1, rfl, _⟩ := one_int Tryz.underlying3 t1
  obtain ⟨q2, rfl, _⟩ := one_int Tryz.underlying3 t2
  obtain ⟨q3, rfl, _⟩ := one_int Tryz.underlying3 t3
  obtain ⟨q4, rfl, _⟩ := one_int Tryz.underlying3 t4
  exact ⟨⟨⟨q0, q1, q2, q3, q4⟩, by rw [maxLen_eq] at hq0; exact hq0⟩, list5 (by simpa using hl) e0 e1 e2 e3 e4⟩
set_option maxRecDepth 100000 in
theorem open_aps {r : Reach} {b0 : Nat} {v : Value} {d : DataW H} {p : List MemPlace} (hv : Value.okWide Tryz.prog w r b0 25 v) (h : DataW.Trod enc Tryz.prog w 0 spare held 25 v d p) : ∃ l : List Ap, Rd w v l.length (l.flatMap Ap.cells) ∧ ∀ x ∈ l, x.nm.size ≤ 9223372036854775807 := by
  obtain ⟨fuel, hf⟩ := h
  obtain ⟨v', rows, e, hrow, hrd⟩ := open_rows Tryz.underlying25 (sz := 5) (by kernel_rfl) (by omega) hf
  obtain ⟨l, hl, hfl⟩ := list_of_rows (f := fun t : {t : Ap // t.nm.size ≤ 9223372036854775807} => Ap.cells t.1) rows fun r hr => by
    obtain ⟨_, n, y, hy⟩ := hrow r hr
    exact cells_ap hy
  obtain ⟨a, len, cap, rfl⟩ := okWide_slice Tryz.underlying25 hv
  have e' : v' = .slice a len cap := by simpa [Value.cells] using e.symm
  subst e'
  refine ⟨l.map (·.1), ?_, fun x hx => ?_⟩
  · rw [List.length_map, hl, List.flatMap_map, ← hfl]; exact hrd
  · obtain ⟨y, _, rfl⟩ := List.mem_map.1 hx
    exact y.2
end
end Go.Proofs.YtddccjdppbcnbaaGreat
