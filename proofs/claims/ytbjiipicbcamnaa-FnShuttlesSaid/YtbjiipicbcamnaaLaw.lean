/-
  Words for the walks of the laws: what stays as it was while rows of the call's own are marked.
-/
import Derived.Test.YtbjiipicbcamnaaGro
import Derived.Test.YtbjiipicbcamnaaOwn
namespace Go.Proofs.Ytbjiipicbcamnaa
open Go.RowKit

theorem kept2 {a b : World} {base : Nat} {e : TypeId} {sz : Nat} {v v' : Value} {n : Nat} {xs : List Value} (h : a.ownsRow base e sz v n xs) (g : a.grownBy b v'.ownBlock) (sep : ∀ q q', v.ownBlock = some q → v'.ownBlock = some q' → q ≠ q') : b.ownsRow base e sz v n xs :=
  h.kept g (by
    cases hv : v.ownBlock with
    | none => exact .inl rfl
    | some q => exact .inr (fun hq => sep q q hv hq.symm rfl))
theorem bel_mark {B : Nat} {a b c : World} {r : Option Nat} (h : Below B a b) (hB : B ≤ b.heap.size) (g : b.grownBy c r) (hb : ∀ q', r = some q' → B ≤ q') : Below B a c :=
  ⟨g.os.trans h.os, g.tape.trans h.tape, g.output.trans h.output, Nat.le_trans h.size g.size, fun i hi => (g.block i (Nat.lt_of_lt_of_le hi hB) (fun e => by have := hb i e.symm; omega)).trans (h.block i hi)⟩
theorem cell_mark {b c : World} {r : Option Nat} (g : b.grownBy c r) {x o : Nat} (hx : x < b.heap.size) (hne : ∀ q', r = some q' → x ≠ q') : c.cell? ⟨x, o, none⟩ = b.cell? ⟨x, o, none⟩ :=
  World.cell?_of_block (g.block x hx (fun e => hne x e.symm rfl))
theorem ownIB_open {r : List Int × Bool} {w w' : World} {e : Ending} (h : OwnIB r w e w') : ∃ v, e = .returned (.tuple #[v, .bool r.2]) ∧ w'.ownsRow w.heap.size 3 1 v r.1.length (ints r.1) ∧ Below w.heap.size w w' := h
end Go.Proofs.Ytbjiipicbcamnaa
