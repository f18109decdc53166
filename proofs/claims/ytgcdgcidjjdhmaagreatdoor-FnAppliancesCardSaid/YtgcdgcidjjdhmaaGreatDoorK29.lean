/-
  Words for draws: rows that stay while a cursor draws; a cursor made anew. (joined by pack.py: DrawG)
-/
import Derived.Test.YtgcdgcidjjdhmaaGreatDoorK28
import Derived.Test.YtgcdgcidjjdhmaaGreatDoorK7
import Derived.Test.YtgcdgcidjjdhmaaGreatDoorK8
namespace Go.Proofs.YtgcdgcidjjdhmaaGreatDoor
set_option linter.unusedVariables false
set_option linter.unusedSimpArgs false
open Go.RowKit

theorem row_new (w : World) (xs : List Value) (t : TypeId) (n sz : Nat) (hl : xs.length = n * sz) (hm : n * sz ≤ 1000000) (h0 : n ≤ n * sz) : (w.alloc (.cells xs.toArray t)).ownsRow w.heap.size t sz (.slice (some ⟨w.heap.size, 0, none⟩) n n) n xs :=
  ⟨hl, .inr ⟨w.heap.size, n, xs.toArray, rfl, Nat.le_refl _, heap_alloc_new w _, Nat.le_refl _, by rw [maxLen_eq]; omega, by simpa using hl, by rw [List.take_of_length_le (by simp; omega)]⟩⟩
theorem own_draw {w w' : World} {base : Nat} {e : TypeId} {sz : Nat} {v : Value} {n : Nat} {xs : List Value} {B : Nat} (h : w.ownsRow base e sz v n xs) (g : w.grownBy w' (some B)) (hb : B < base) : w'.ownsRow base e sz v n xs :=
  h.kept g (by
    cases hv : v.ownBlock with
    | none => exact .inl rfl
    | some q => exact .inr (fun hq => by have h1 := (h.lt q hv).1; have h2 := Option.some.inj hq; omega))
theorem Drew.own {B : Nat} {l : List Int} {a k : Nat} {w W W' : World} {R : Nat} (h : Drew B l a k w W) (g : W.grownBy W' (some R)) (hR : w.heap.size ≤ R) (hB : B < w.heap.size) : Drew B l a k w W' :=
  ⟨h.1.gro g (fun q e => by have := Option.some.inj e; omega), ⟨g.os.trans h.2.os, g.tape.trans h.2.tape, g.output.trans h.2.output, Nat.le_trans h.2.size g.size, fun i hi hne => (g.block i (Nat.lt_of_lt_of_le hi h.2.size) (fun e => by have := Option.some.inj e; omega)).trans (h.2.block i hi hne)⟩⟩
theorem lit_ne {n m : Nat} {s B : Nat} (h : B < s) : ∀ (b : Nat) (off : Nat) (n' c : Nat), Value.slice (some ⟨s, 0, none⟩) n m = .slice (some ⟨b, off, none⟩) n' c → b ≠ B := fun b off n' c e => by
  injection e with e1
  injection e1 with e1
  injection e1 with e1
  omega
theorem Drew.app {B : Nat} {l : List Int} {a k : Nat} {w w4 w7 : World} {o : Obj} {r : Option Nat} (h : Drew B l a k w w4) (g : (w4.alloc o).grownBy w7 r) (hr : ∀ q, r = some q → w.heap.size ≤ q) (hB : B < w.heap.size) : Drew B l a k w w7 := by
  have h1 : Drew B l a k w (w4.alloc o) := h.bel (bel_al (Below.refl _ _) o)
  exact ⟨h1.1.gro g (fun q e => by have := hr q e; omega), ⟨g.os.trans h1.2.os, g.tape.trans h1.2.tape, g.output.trans h1.2.output, Nat.le_trans h1.2.size g.size, fun i hi hne => (g.block i (Nat.lt_of_lt_of_le hi h1.2.size) (fun e => by have := hr i e.symm; omega)).trans (h1.2.block i hi hne)⟩⟩
def lenOf : Value → Nat
  | .slice _ n _ => n
  | _ => 0
theorem cur_new (w : World) (v : Value) (l : List Int) (hr : Rd w v l.length (bys l)) (hl : l.length ≤ 9223372036854775807) (w1 : World) (h0 : w1.cell? ⟨w.heap.size, 0, none⟩ = some v) (h1 : w1.cell? ⟨w.heap.size, 1, none⟩ = some (.int .i64 0)) (h2 : w1.cell? ⟨w.heap.size, 2, none⟩ = some (.int .u64 0))
    (h3 : w1.frozen? ⟨w.heap.size, 1, none⟩ = false) (h4 : w1.frozen? ⟨w.heap.size, 2, none⟩ = false) (hb : Below w.heap.size w w1) : CurAt w.heap.size l 0 w1 := by
  obtain ⟨A, c, rfl, _, _, hc⟩ := hr
  refine ⟨0, A, c, 0, Nat.le_refl _, hl, h0, h1, h2, h3, h4, fun h => ?_⟩
  obtain ⟨b, off, rfl, hbl, hcl⟩ := hc h
  exact ⟨b, off, rfl, hbl, Nat.lt_of_lt_of_le hbl hb.size, fun j u hu => (hb.cell (p := ⟨b, off + j, none⟩) hbl).trans (hcl j u hu)⟩
theorem Drew.out {l : List Int} {a k : Nat} {w w1 w2 : World} (hb : Below w.heap.size w w1) (h : Drew w.heap.size l a k w1 w2) : Below w.heap.size w w2 := bel_grown hb h.2 (fun q e => by have := Option.some.inj e; omega)
end Go.Proofs.YtgcdgcidjjdhmaaGreatDoor
