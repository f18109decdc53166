/-
  spec's travel times: they are the least weights of ways.
-/
import Derived.Test.YtjogndeodgibfaaDoorTimesI
import Derived.Deep.LoopGhost
namespace Go.Proofs.YtjogndeodgibfaaDoor
open Go.RowKit

theorem flags1_fst {d r : List Int} {ch : Bool} {x : Arc} (h : (flag1 (d, ch) x).1 = r) : relax1 d x = r := by rw [← h, flag1_fst]
theorem relax_yes {d : List Int} {a b : Nat} {s x y : Int} (hx : d.getD a 0 = x) (hy : d.getD b 0 = y) (h : 0 ≤ x ∧ (y < 0 ∨ x + s < y)) : relax1 d (a, b, s) = d.set b (x + s) := by
  have := flag1_fst (d, false) (a, b, s); rw [flag_yes hx hy h] at this; exact this.symm
theorem relax_no {d : List Int} {a b : Nat} {s x y : Int} (hx : d.getD a 0 = x) (hy : d.getD b 0 = y) (h : ¬ (0 ≤ x ∧ (y < 0 ∨ x + s < y))) : relax1 d (a, b, s) = d := by
  have := flag1_fst (d, false) (a, b, s); rw [flag_no hx hy h] at this; exact this.symm
theorem rtwo0 {fa ta : Nat} {s : Int} {p r : List Int} (h : roundT ((arcs2 ⟨fa, ta, s⟩).take 0) p = r) : roundT ((arcs2 ⟨fa, ta, s⟩).take 1) p = relax1 r (fa, ta, s) := by
  subst h; simp [arcs2, roundT]
theorem rtwo1 {fa ta : Nat} {s : Int} {p r : List Int} (h : roundT ((arcs2 ⟨fa, ta, s⟩).take 1) p = r) : roundT ((arcs2 ⟨fa, ta, s⟩).take 2) p = relax1 r (ta, fa, s) := by
  subst h; simp [arcs2, roundT]
theorem roundT_append (a b : List Arc) (d : List Int) : roundT (a ++ b) d = roundT b (roundT a d) := by unfold roundT; rw [List.foldl_append]
def fill1 (n k : Nat) : List Int := List.replicate k (-1) ++ List.replicate (n - k) 0
theorem fill1_len {n k : Nat} (h : k ≤ n) : (fill1 n k).length = n := by simp [fill1]; omega
theorem fill1_set {n k : Nat} (h : k < n) : (fill1 n k).set k (-1) = fill1 n (k + 1) := by
  unfold fill1
  obtain ⟨m, hm⟩ : ∃ m, n - k = m + 1 := ⟨n - k - 1, by omega⟩
  rw [hm, show n - (k + 1) = m by omega, List.set_append_right (h := by simp)]
  rw [List.length_replicate, Nat.sub_self, List.replicate_succ (n := m), List.set_cons_zero, List.replicate_succ' (n := k), List.append_assoc]; rfl
theorem fill1_full (n : Nat) : fill1 n n = List.replicate n (-1) := by simp [fill1]
theorem made_ints (n : Nat) : (madeCells (Value.int IntKind.i64 0).cells (n * 1)).toList = ints (List.replicate n 0) := by
  rw [made_fil 0 n, fil_zero]; simp [ints]

end Go.Proofs.YtjogndeodgibfaaDoor
