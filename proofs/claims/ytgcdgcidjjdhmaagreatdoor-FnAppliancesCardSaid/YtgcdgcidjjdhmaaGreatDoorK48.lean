/-
  A list of bytes as a law's argument. (joined by pack.py: OpenBytes)
-/
import Derived.Test.YtgcdgcidjjdhmaaGreatDoorK47
import Derived.Test.YtgcdgcidjjdhmaaGreatDoorK28
namespace Go.Proofs.YtgcdgcidjjdhmaaGreatDoor
set_option linter.unusedVariables false
set_option linter.unusedSimpArgs false
open Go.RowKit Go.ChangeShapes Go.WideShapes Go.Deep

section
variable {H : Type} {enc : TypeId × Value → H} {w : World} {spare : Nat → Bool} {held : Bool}
set_option maxRecDepth 100000 in
theorem open_bytes {r : Reach} {b0 : Nat} {v : Value} {d : DataW H} {p : List MemPlace} (hv : Value.okWide Tryz.prog w r b0 22 v) (h : DataW.Trod enc Tryz.prog w 0 spare held 22 v d p) : ∃ l : List Int, Rd w v l.length (bys l) ∧ BytesOk l ∧ l.length ≤ 9223372036854775807 := by
  obtain ⟨fuel, hf⟩ := h
  obtain ⟨v', rows, e, hrow, hrd⟩ := open_rows Tryz.underlying22 (sz := 1) (by kernel_rfl) (by omega) hf
  obtain ⟨l, hl, hfl⟩ := list_of_rows (f := fun t : {t : Int // 0 ≤ t ∧ t ≤ 255} => [Value.int .u8 t.1]) rows fun r hr => by
    obtain ⟨hlen, n, y, hy⟩ := hrow r hr
    match r, hlen with
    | [u], _ =>
      obtain ⟨q, rfl, hq⟩ := one_int Tryz.underlying5 hy
      refine ⟨⟨q, ?_⟩, rfl⟩
      simp [Lit.wf, IntKind.min, IntKind.max, IntKind.bits, IntKind.signed] at hq
      omega
  obtain ⟨a, len, cap, rfl⟩ := okWide_slice Tryz.underlying22 hv
  have e' : v' = .slice a len cap := by simpa [Value.cells] using e.symm
  subst e'
  have hfi : ∀ l : List {t : Int // 0 ≤ t ∧ t ≤ 255}, (l.flatMap fun x => [Value.int .u8 x.1]) = bys (l.map (·.1)) := fun l => by
    induction l with
    | nil => rfl
    | cons x l ih => rw [List.flatMap_cons, ih]; rfl
  have hrr : Rd w (.slice a len cap) (l.map (·.1)).length (bys (l.map (·.1))) := by
    rw [List.length_map, hl, ← hfi, ← hfl]; exact hrd
  refine ⟨l.map (·.1), hrr, fun x hx => ?_, ?_⟩
  · obtain ⟨y, _, rfl⟩ := List.mem_map.1 hx
    exact y.2
  · obtain ⟨_, _, _, h1, h2, _⟩ := hrr
    rw [maxLen_eq] at h2
    omega
end
end Go.Proofs.YtgcdgcidjjdhmaaGreatDoor
