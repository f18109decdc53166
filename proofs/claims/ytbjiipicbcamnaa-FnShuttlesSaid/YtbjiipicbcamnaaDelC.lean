/-
  Deliveries: words for both sides.
-/
import Derived.Test.YtbjiipicbcamnaaDelP
import Derived.Test.YtbjiipicbcamnaaOwn
import Derived.Test.YtbjiipicbcamnaaGro
namespace Go.Proofs.Ytbjiipicbcamnaa
open Go.RowKit

theorem rowsUp_bd {l : List Tk} {s : Int} (h : okL l = true) (h1 : s ≤ 36000) (i : Nat) (hi : i ≤ l.length) : (rowsUp l s i).length ≤ 432012 := by
  obtain ⟨h12, hall⟩ := okL_true h
  have e := rowsUp_len l s (fun t ht => (times_bd (hall t ht) h1).1) i
  obtain ⟨_, b⟩ := sumTo_bd (f := fun t => t.times s) (B := 36001) (fun t ht => times_bd (hall t ht) h1) i hi
  have : (i : Int) * 36001 ≤ 12 * 36001 := Int.mul_le_mul_of_nonneg_right (by omega) (by omega)
  omega
theorem own_row3 (w : World) (x y z : Int) (base : Nat) (hb : base ≤ w.heap.size) : (w.alloc (.cells #[.int .i64 x, .int .i64 y, .int .i64 z] 3)).ownsRow base 3 1 (.slice (some ⟨w.heap.size, 0, none⟩) 3 3) 3 (ints [x, y, z]) :=
  own_base (World.ownsRow_lit (size := 1) w #[.int .i64 x, .int .i64 y, .int .i64 z] 3 (Nat.le_refl _) (by rw [maxLen_eq]; omega) (by rfl)) hb
theorem inB_36 {s : Int} (h : inB s 0 36000 = true) : 0 ≤ s ∧ s ≤ 36000 := inB_true h

/-- The struct that lies at a block's head. -/
def TkAt (w : World) (b : Nat) (l f d e : Int) : Prop :=
  w.cell? ⟨b, 0, none⟩ = some (.int .i64 l) ∧ w.cell? ⟨b, 1, none⟩ = some (.int .i64 f) ∧ w.cell? ⟨b, 2, none⟩ = some (.int .i64 d) ∧ w.cell? ⟨b, 3, none⟩ = some (.int .i64 e) ∧ b < w.heap.size
theorem tkAt_grown {a c : World} {row : Option Nat} {b : Nat} {l f d e : Int} (h : TkAt a b l f d e) (g : a.grownBy c row) (hne : row ≠ some b) : TkAt c b l f d e := by
  obtain ⟨h0, h1, h2, h3, hb⟩ := h
  have k : ∀ o, c.cell? ⟨b, o, none⟩ = a.cell? ⟨b, o, none⟩ := fun o => World.cell?_of_block (g.block b hb (fun e => hne e.symm))
  exact ⟨(k 0).trans h0, (k 1).trans h1, (k 2).trans h2, (k 3).trans h3, Nat.lt_of_lt_of_le hb g.size⟩
theorem tkAt_below {a c : World} {b : Nat} {l f d e : Int} (h : TkAt a b l f d e) (g : Below a.heap.size a c) : TkAt c b l f d e := by
  obtain ⟨h0, h1, h2, h3, hb⟩ := h
  have k : ∀ o, c.cell? ⟨b, o, none⟩ = a.cell? ⟨b, o, none⟩ := fun o => g.cell hb
  exact ⟨(k 0).trans h0, (k 1).trans h1, (k 2).trans h2, (k 3).trans h3, Nat.lt_of_lt_of_le hb g.size⟩
end Go.Proofs.Ytbjiipicbcamnaa
