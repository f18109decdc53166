/-
  A town and a list of ints as a law's argument.
-/
import Derived.Test.YtibkadkodblefaaDoorOpen
import Derived.Test.YtibkadkodblefaaDoorSt
import Derived.Test.YtibkadkodblefaaDoorInts
namespace Go.Proofs.YtibkadkodblefaaDoor
open Go.RowKit Go.ChangeShapes Go.WideShapes Go.Deep

section
variable {H : Type} {enc : TypeId × Value → H} {w : World} {spare : Nat → Bool} {held : Bool}
set_option maxRecDepth 100000 in
theorem open_intS {r : Reach} {b0 : Nat} {v : Value} {d : DataW H} {p : List MemPlace} (hv : Value.okWide Tryd.prog w r b0 22 v) (h : DataW.Trod enc Tryd.prog w 0 spare held 22 v d p) : ∃ l : List Int, RdI w v l := by
  obtain ⟨fuel, hf⟩ := h
  obtain ⟨v', rows, e, hrow, hrd⟩ := open_rows Tryd.underlying22 (sz := 1) (by kernel_rfl) (by omega) hf
  obtain ⟨l, hl, hfl⟩ := list_of_rows (f := fun x : Int => [Value.int .i64 x]) rows fun r hr => by
    obtain ⟨hlen, n, y, hy⟩ := hrow r hr
    match r, hlen with
    | [u], _ =>
      obtain ⟨q, rfl, _⟩ := one_int Tryd.underlying3 hy
      exact ⟨q, rfl⟩
  obtain ⟨a, len, cap, rfl⟩ := okWide_slice Tryd.underlying22 hv
  have e' : v' = .slice a len cap := by simpa [Value.cells] using e.symm
  subst e'
  refine ⟨l, ?_⟩
  have hfi : ∀ l : List Int, (l.flatMap fun x => [Value.int .i64 x]) = ints l := fun l => by
    induction l with
    | nil => rfl
    | cons x l ih => rw [List.flatMap_cons, ih]; rfl
  unfold RdI
  rw [hl, ← hfi, ← hfl]; exact hrd
end
end Go.Proofs.YtibkadkodblefaaDoor
