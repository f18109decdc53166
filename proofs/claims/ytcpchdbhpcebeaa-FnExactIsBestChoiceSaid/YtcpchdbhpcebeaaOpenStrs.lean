/-
  A list of strings as a law's argument.
-/
import Derived.Test.YtcpchdbhpcebeaaOpen
import Derived.Test.YtcpchdbhpcebeaaStrs
namespace Go.Proofs.Ytcpchdbhpcebeaa
open Go.RowKit Go.ChangeShapes Go.WideShapes Go.Deep

section
variable {H : Type} {enc : TypeId × Value → H} {w : World} {spare : Nat → Bool} {held : Bool}
set_option maxRecDepth 100000 in
theorem open_strS {r : Reach} {b0 : Nat} {v : Value} {d : DataW H} {p : List MemPlace} (hv : Value.okWide Try.prog w r b0 26 v) (h : DataW.Trod enc Try.prog w 0 spare held 26 v d p) : ∃ l : List ByteArray, RdS w v l ∧ ∀ x ∈ l, x.size ≤ 9223372036854775807 := by
  obtain ⟨fuel, hf⟩ := h
  obtain ⟨v', rows, e, hrow, hrd⟩ := open_rows Try.underlying26 (sz := 1) (by kernel_rfl) (by omega) hf
  obtain ⟨l, hl, hfl⟩ := list_of_rows (f := fun t : {t : ByteArray // t.size ≤ 9223372036854775807} => [Value.string t.1]) rows fun r hr => by
    obtain ⟨hlen, n, y, hy⟩ := hrow r hr
    match r, hlen with
    | [u], _ =>
      obtain ⟨q, rfl, hq⟩ := one_string Try.underlying9 hy
      exact ⟨⟨q, by rw [maxLen_eq] at hq; exact hq⟩, rfl⟩
  obtain ⟨a, len, cap, rfl⟩ := okWide_slice Try.underlying26 hv
  have e' : v' = .slice a len cap := by simpa [Value.cells] using e.symm
  subst e'
  refine ⟨l.map (·.1), ?_, fun x hx => ?_⟩
  · have hfi : ∀ l : List {t : ByteArray // t.size ≤ 9223372036854775807}, (l.flatMap fun x => [Value.string x.1]) = strs (l.map (·.1)) := fun l => by
      induction l with
      | nil => rfl
      | cons x l ih => rw [List.flatMap_cons, ih]; rfl
    unfold RdS
    rw [List.length_map, hl, ← hfi, ← hfl]; exact hrd
  · obtain ⟨y, _, rfl⟩ := List.mem_map.1 hx
    exact y.2
end
end Go.Proofs.Ytcpchdbhpcebeaa
