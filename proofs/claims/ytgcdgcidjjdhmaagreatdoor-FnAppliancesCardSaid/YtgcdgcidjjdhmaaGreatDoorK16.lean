/-
  impl's travel times: they are the least weights of ways. spec's travel times: they are the least weights of ways. (joined by pack.py: TimesI TimesS)
-/
import Derived.Test.YtgcdgcidjjdhmaaGreatDoorK11
import Derived.Test.YtgcdgcidjjdhmaaGreatDoorK6
import Derived.Test.YtgcdgcidjjdhmaaGreatDoorK15
import Derived.Deep.LoopGhost
import Derived.Outline
namespace Go.Proofs.YtgcdgcidjjdhmaaGreatDoor
set_option linter.unusedVariables false
set_option linter.unusedSimpArgs false
open Go.RowKit

theorem flags_len (ar : List Arc) (p : List Int × Bool) : (ar.foldl flag1 p).1.length = p.1.length := by rw [flags_fst, roundT_len]
/-- A bound for all that stands in a list on the way. -/
theorem mid_bd {n : Int} {l : List St} (h : goodTown n l = true) {N src k : Nat} (hk : k < 14) (pre : List Arc) (hp : ∀ x ∈ pre, x ∈ arcs l) (hl : pre.length ≤ 82) (b : Bool) :
    ∀ v, -1 ≤ ((pre.foldl flag1 (iterT (arcs l) (startT N src) k, b)).1).getD v 0 ∧ ((pre.foldl flag1 (iterT (arcs l) (startT N src) k, b)).1).getD v 0 ≤ 5000000 := by
  obtain ⟨_, _, h40, _⟩ := goodTown_true h
  have hA := arcs_bd h
  have h1 := bd_iter hA N src k
  have hlen : (arcs l).length ≤ 80 := by rw [arcs_len]; omega
  have hm : (arcs l).length * k ≤ 80 * 13 := Nat.mul_le_mul hlen (by omega)
  have h0 : (0 : Int) ≤ 3600 * (arcs l).length * k := Int.mul_nonneg (by omega) (by omega)
  have h2 := bd_fold pre _ _ h1 h0 (fun x hx => hA x (hp x hx))
  intro v
  have h3 := h2 v
  rw [flags_fst]
  have e : (3600 * ((arcs l).length : Int) * (k : Int)) = 3600 * (((arcs l).length * k : Nat) : Int) := by rw [Int.natCast_mul, Int.mul_assoc]
  rw [e] at h3
  generalize (arcs l).length * k = q at h3 hm
  dsimp only
  omega

theorem arcs_snoc {l : List St} {i : Nat} {s : St} (h : l[i]? = some s) : arcs (l.take (i + 1)) = arcs (l.take i) ++ arcs2 s := by
  unfold arcs
  rw [take_succ_of h, List.flatMap_append]
  simp
theorem arcs_take_mem {l : List St} {i : Nat} : ∀ x ∈ arcs (l.take i), x ∈ arcs l := by
  intro x hx
  unfold arcs at hx ⊢
  obtain ⟨s, hs, hm⟩ := List.mem_flatMap.1 hx
  exact List.mem_flatMap.2 ⟨s, List.mem_of_mem_take hs, hm⟩

theorem flag_yes {d : List Int} {ch : Bool} {a b : Nat} {s x y : Int} (hx : d.getD a 0 = x) (hy : d.getD b 0 = y) (h : 0 ≤ x ∧ (y < 0 ∨ x + s < y)) : flag1 (d, ch) (a, b, s) = (d.set b (x + s), true) := by
  have hb : better d a b s = true := by unfold better; rw [hx, hy]; simp only [Bool.and_eq_true, Bool.or_eq_true, decide_eq_true_eq]; exact h
  unfold flag1
  rw [if_pos hb, hx]
theorem flag_no {d : List Int} {ch : Bool} {a b : Nat} {s x y : Int} (hx : d.getD a 0 = x) (hy : d.getD b 0 = y) (h : ¬ (0 ≤ x ∧ (y < 0 ∨ x + s < y))) : flag1 (d, ch) (a, b, s) = (d, ch) := by
  have hb : better d a b s = false := by unfold better; rw [hx, hy]; simp only [Bool.and_eq_false_iff, Bool.or_eq_false_iff, decide_eq_false_iff_not]; omega
  unfold flag1
  rw [hb]; rfl
theorem two0 {fa ta : Nat} {s : Int} {p r : List Int × Bool} (h : ((arcs2 ⟨fa, ta, s⟩).take 0).foldl flag1 p = r) : ((arcs2 ⟨fa, ta, s⟩).take 1).foldl flag1 p = flag1 r (fa, ta, s) := by
  subst h; simp [arcs2]
theorem two1 {fa ta : Nat} {s : Int} {p r : List Int × Bool} (h : ((arcs2 ⟨fa, ta, s⟩).take 1).foldl flag1 p = r) : ((arcs2 ⟨fa, ta, s⟩).take 2).foldl flag1 p = flag1 r (ta, fa, s) := by
  subst h; simp [arcs2]
theorem mid_mem {l : List St} {i j : Nat} {s : St} (h : l[i]? = some s) : ∀ x ∈ arcs (l.take i) ++ (arcs2 s).take j, x ∈ arcs l := by
  intro x hx
  rcases List.mem_append.1 hx with hx | hx
  · exact arcs_take_mem x hx
  · exact List.mem_flatMap.2 ⟨s, List.mem_of_getElem? h, List.mem_of_mem_take hx⟩
theorem mid_len {l : List St} {i j : Nat} {s : St} (hl : l.length ≤ 40) : (arcs (l.take i) ++ (arcs2 s).take j).length ≤ 82 := by
  rw [List.length_append, arcs_len, List.length_take, List.length_take]
  have : (arcs2 s).length = 2 := rfl
  omega

end Go.Proofs.YtgcdgcidjjdhmaaGreatDoor

namespace Go.Proofs.YtgcdgcidjjdhmaaGreatDoor
set_option linter.unusedVariables false
set_option linter.unusedSimpArgs false
open Go.RowKit

theorem flags1_fst {d r : List Int} {ch : Bool} {x : Arc} (h : (flag1 (d, ch) x).1 = r) : relax1 d x = r := by rw [← h, flag1_fst]
theorem relax_yes {d : List Int} {a b : Nat} {s x y : Int} (hx : d.getD a 0 = x) (hy : d.getD b 0 = y) (h : 0 ≤ x ∧ (y < 0 ∨ x + s < y)) : relax1 d (a, b, s) = d.set b (x + s) := by
  have := flag1_fst (d, false) (a, b, s); rw [flag_yes hx hy h] at this; exact this.symm
theorem relax_no {d : List Int} {a b : Nat} {s x y : Int} (hx : d.getD a 0 = x) (hy : d.getD b 0 = y) (h : ¬ (0 ≤ x ∧ (y < 0 ∨ x + s < y))) : relax1 d (a, b, s) = d := by
  have := flag1_fst (d, false) (a, b, s); rw [flag_no hx hy h] at this; exact this.symm
theorem rtwo0 {fa ta : Nat} {s : Int} {p r : List Int} (h : roundT ((arcs2 ⟨fa, ta, s⟩).take 0) p = r) : roundT ((arcs2 ⟨fa, ta, s⟩).take 1) p = relax1 r (fa, ta, s) := by
  subst h; simp [arcs2, roundT]
theorem rtwo1 {fa ta : Nat} {s : Int} {p r : List Int} (h : roundT ((arcs2 ⟨fa, ta, s⟩).take 1) p = r) : roundT ((arcs2 ⟨fa, ta, s⟩).take 2) p = relax1 r (ta, fa, s) := by
  subst h; simp [arcs2, roundT]
theorem roundT_append (a b : List Arc) (d : List Int) : roundT (a ++ b) d = roundT b (roundT a d) := by unfold roundT; rw [List.foldl_append]
def fill1 (n k : Nat) : List Int := List.replicate k (-1) ++ List.replicate (n - k) 0
theorem fill1_len {n k : Nat} (h : k ≤ n) : (fill1 n k).length = n := by simp [fill1]; omega
theorem fill1_set {n k : Nat} (h : k < n) : (fill1 n k).set k (-1) = fill1 n (k + 1) := by
  unfold fill1
  obtain ⟨m, hm⟩ : ∃ m, n - k = m + 1 := ⟨n - k - 1, by omega⟩
  rw [hm, show n - (k + 1) = m by omega, List.set_append_right (h := by simp)]
  rw [List.length_replicate, Nat.sub_self, List.replicate_succ (n := m), List.set_cons_zero, List.replicate_succ' (n := k), List.append_assoc]; rfl
theorem fill1_full (n : Nat) : fill1 n n = List.replicate n (-1) := by simp [fill1]
theorem made_ints (n : Nat) : (madeCells (Value.int IntKind.i64 0).cells (n * 1)).toList = ints (List.replicate n 0) := by
  rw [made_fil 0 n, fil_zero]; simp [ints]

end Go.Proofs.YtgcdgcidjjdhmaaGreatDoor
