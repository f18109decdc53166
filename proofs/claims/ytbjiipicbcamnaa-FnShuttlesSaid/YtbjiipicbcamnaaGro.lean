/-
  Words for loops that write one row alone.
-/
import Derived.Test.YtbjiipicbcamnaaMem
import Derived.Test.YtbjiipicbcamnaaInts
namespace Go.Proofs.Ytbjiipicbcamnaa
open Go.RowKit

theorem gro_al {a b : World} {r : Option Nat} (h : a.grownBy b r) (o : Obj) : a.grownBy (b.alloc o) r :=
  ⟨h.os, h.tape, h.output, Nat.le_trans h.size (by simp), fun k hk hr => by
    have h1 := h.block k hk hr
    have h2 : k < b.heap.size := Nat.lt_of_lt_of_le hk h.size
    rw [← h1]
    exact ((Below.refl b.heap.size b).alloc (Nat.le_refl _) o).block k h2⟩
theorem gro_dr {a b : World} {r : Option Nat} (h : a.grownBy b r) : a.grownBy b.drew r := ⟨h.os, h.tape, h.output, h.size, h.block⟩
theorem gro_drN {a b : World} {r : Option Nat} (h : a.grownBy b r) (n : Nat) : a.grownBy (b.drewN n) r := ⟨h.os, h.tape, h.output, h.size, h.block⟩
theorem gro_bel {a b c : World} {r : Option Nat} (h : a.grownBy b r) (k : Below b.heap.size b c) : a.grownBy c r :=
  ⟨k.os.trans h.os, k.tape.trans h.tape, k.output.trans h.output, Nat.le_trans h.size k.size, fun i hi hr => (k.block i (Nat.lt_of_lt_of_le hi h.size)).trans (h.block i hi hr)⟩
theorem gro_trans {a b c : World} {r : Option Nat} (h : a.grownBy b r) (k : b.grownBy c r) : a.grownBy c r :=
  ⟨k.os.trans h.os, k.tape.trans h.tape, k.output.trans h.output, Nat.le_trans h.size k.size, fun i hi hr => (k.block i (Nat.lt_of_lt_of_le hi h.size) hr).trans (h.block i hi hr)⟩
/-- Rows that are new: nothing old is touched. -/
theorem gro_new {a b c : World} {r : Option Nat} (h : Below a.heap.size a b) (k : b.grownBy c r) (hr : ∀ g, r = some g → a.heap.size ≤ g) : Below a.heap.size a c := h.grown k h.size hr
theorem gro_cell {a b : World} {g : Nat} (h : a.grownBy b (some g)) {x o : Nat} (hx : x < a.heap.size) (hne : x ≠ g) : b.cell? ⟨x, o, none⟩ = a.cell? ⟨x, o, none⟩ :=
  World.cell?_of_block (h.block x hx (fun e => hne (Option.some.inj e)))
theorem gro_frozen {a b : World} {g : Nat} (h : a.grownBy b (some g)) {x o : Nat} (hx : x < a.heap.size) (hne : x ≠ g) : b.frozen? ⟨x, o, none⟩ = a.frozen? ⟨x, o, none⟩ :=
  World.frozen?_of_block (h.block x hx (fun e => hne (Option.some.inj e)))
theorem own_dr {w : World} {base : Nat} {e : TypeId} {sz : Nat} {v : Value} {n : Nat} {xs : List Value} (h : w.ownsRow base e sz v n xs) : w.drew.ownsRow base e sz v n xs := h
theorem own_drN {w : World} {base : Nat} {e : TypeId} {sz : Nat} {v : Value} {n : Nat} {xs : List Value} (h : w.ownsRow base e sz v n xs) (q : Nat) : (w.drewN q).ownsRow base e sz v n xs := own_below h (below_drewN (Below.refl _ _) q)
/-- An owned row of at least one element lies at the head of a block. -/
theorem own_shape {w : World} {base : Nat} {e : TypeId} {sz : Nat} {v : Value} {n : Nat} {xs : List Value} (h : w.ownsRow base e sz v n xs) (hn : 0 < n) : ∃ g cap, v = .slice (some ⟨g, 0, none⟩) n cap ∧ base ≤ g ∧ g < w.heap.size ∧ n ≤ cap ∧ cap ≤ 9223372036854775807 := by
  rcases h.2 with ⟨_, h0⟩ | ⟨g, cap, cur, rfl, hb, hg, hc, hm, _⟩
  · omega
  · exact ⟨g, cap, rfl, hb, (Array.getElem?_eq_some_iff.1 hg).1, hc, by rw [maxLen_eq] at hm; exact hm⟩
theorem own_cell {w : World} {base : Nat} {e : TypeId} {g n cap : Nat} {d : List Int} (h : w.ownsRow base e 1 (.slice (some ⟨g, 0, none⟩) n cap) n (ints d)) {j : Nat} (hj : j < n) : w.cell? ⟨g, j, none⟩ = some (.int .i64 (d.getD j 0)) := by
  have hl := h.1
  rw [ints_len] at hl
  have hx : d[j]? = some (d.getD j 0) := by simp [List.getD, List.getElem?_eq_getElem (show j < d.length by omega)]
  exact (h.cellAt j (by omega)).trans (ints_get hx)
theorem own_setI {w : World} {base : Nat} {e : TypeId} {g n cap : Nat} {d : List Int} (h : w.ownsRow base e 1 (.slice (some ⟨g, 0, none⟩) n cap) n (ints d)) (j : Nat) (x : Int) : (w.setCell ⟨g, j, none⟩ (.int .i64 x)).ownsRow base e 1 (.slice (some ⟨g, 0, none⟩) n cap) n (ints (d.set j x)) := by
  have := (h.stored j (.int .i64 x)).1
  unfold ints at this ⊢
  rwa [← List.map_set] at this
end Go.Proofs.Ytbjiipicbcamnaa
