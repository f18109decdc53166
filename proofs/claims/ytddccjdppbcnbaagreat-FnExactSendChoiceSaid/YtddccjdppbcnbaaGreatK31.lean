/-
  A town and a list of ints as a law's argument. (joined by pack.py: OpenTown)
-/
import Derived.Test.YtddccjdppbcnbaaGreatK30
import Derived.Test.YtddccjdppbcnbaaGreatK10
import Derived.Test.YtddccjdppbcnbaaGreatK3
namespace Go.Proofs.YtddccjdppbcnbaaGreat
set_option linter.unusedVariables false
set_option linter.unusedSimpArgs false
open Go.RowKit Go.ChangeShapes Go.WideShapes Go.Deep

section
variable {H : Type} {enc : TypeId × Value → H} {w : World} {spare : Nat → Bool} {held : Bool}
set_option maxRecDepth 100000 in
theorem cells_st {fuel : Nat} {cs : List Value} {x : DataW H × List MemPlace} (h : DataW.trod enc Tryz.prog w 0 spare held fuel 79 cs = some x) : ∃ t : St, cs = St.cells t := by
  obtain ⟨hl, n, hf⟩ := decode_struct Tryz.underlying79 (by kernel_rfl) (by kernel_rfl) h
  obtain ⟨v0, y0, e0, t0⟩ := hf 0 _ rfl
  obtain ⟨v1, y1, e1, t1⟩ := hf 1 _ rfl
  obtain ⟨v2, y2, e2, t2⟩ := hf 2 _ rfl
  obtain ⟨q0, rfl, _⟩ := one_int Tryz.underlying3 t0
  obtain ⟨q1, rfl, _⟩ := one_int Tryz.underlying3 t1
  obtain ⟨q2, rfl, _⟩ := one_int Tryz.underlying3 t2
  exact ⟨⟨q0, q1, q2⟩, list3 (by simpa using hl) e0 e1 e2⟩
set_option maxRecDepth 100000 in
theorem rows_sts {fuel : Nat} {v : Value} {x : DataW H × List MemPlace} (h : DataW.trod enc Tryz.prog w 0 spare held fuel 22 [v] = some x) : ∃ l : List St, Rd w v l.length (l.flatMap St.cells) := by
  obtain ⟨v', rows, e, hrow, hrd⟩ := open_rows Tryz.underlying22 (sz := 3) (by kernel_rfl) (by omega) h
  obtain ⟨l, hl, hfl⟩ := list_of_rows (f := St.cells) rows fun r hr => by
    obtain ⟨_, n, y, hy⟩ := hrow r hr
    exact cells_st hy
  have e' : v = v' := by simpa using e
  subst e'
  exact ⟨l, by rw [hl, ← hfl]; exact hrd⟩
set_option maxRecDepth 100000 in
theorem open_town {r : Reach} {b0 : Nat} {v : Value} {d : DataW H} {p : List MemPlace} (hv : Value.okWide Tryz.prog w r b0 24 v) (h : DataW.Trod enc Tryz.prog w 0 spare held 24 v d p) :
    ∃ (n : Int) (s : Value) (l : List St), v = .agg #[.int .i64 n, s] ∧ Rd w s l.length (l.flatMap St.cells) := by
  obtain ⟨cs, rfl, _⟩ := okWide_struct Tryz.underlying24 hv
  obtain ⟨fuel, hf⟩ := h
  obtain ⟨hl, n, hf⟩ := decode_struct Tryz.underlying24 (by kernel_rfl) (by kernel_rfl) hf
  obtain ⟨v0, y0, e0, t0⟩ := hf 0 _ rfl
  obtain ⟨v1, y1, e1, t1⟩ := hf 1 _ rfl
  obtain ⟨q0, rfl, _⟩ := one_int Tryz.underlying3 t0
  obtain ⟨l, hr⟩ := rows_sts t1
  refine ⟨q0, v1, l, ?_, hr⟩
  have := list2 (by simpa using hl) e0 e1
  obtain ⟨cs⟩ := cs
  simp [Value.cells] at this
  rw [this]
set_option maxRecDepth 100000 in
theorem open_intS {r : Reach} {b0 : Nat} {v : Value} {d : DataW H} {p : List MemPlace} (hv : Value.okWide Tryz.prog w r b0 26 v) (h : DataW.Trod enc Tryz.prog w 0 spare held 26 v d p) : ∃ l : List Int, RdI w v l := by
  obtain ⟨fuel, hf⟩ := h
  obtain ⟨v', rows, e, hrow, hrd⟩ := open_rows Tryz.underlying26 (sz := 1) (by kernel_rfl) (by omega) hf
  obtain ⟨l, hl, hfl⟩ := list_of_rows (f := fun x : Int => [Value.int .i64 x]) rows fun r hr => by
    obtain ⟨hlen, n, y, hy⟩ := hrow r hr
    match r, hlen with
    | [u], _ =>
      obtain ⟨q, rfl, _⟩ := one_int Tryz.underlying3 hy
      exact ⟨q, rfl⟩
  obtain ⟨a, len, cap, rfl⟩ := okWide_slice Tryz.underlying26 hv
  have e' : v' = .slice a len cap := by simpa [Value.cells] using e.symm
  subst e'
  refine ⟨l, ?_⟩
  have hfi : ∀ l : List Int, (l.flatMap fun x => [Value.int .i64 x]) = ints l := fun l => by
    induction l with
    | nil => rfl
    | cons x l ih => rw [List.flatMap_cons, ih]; rfl
  unfold RdI
  rw [hl, ← hfi, ← hfl]; exact hrd
end
end Go.Proofs.YtddccjdppbcnbaaGreat
