/-
  WeakestNode, LeastLimit and CoverText on both sides.
-/
import Derived.Test.YtemcdgchleijbaaCovC
import Derived.Test.YtemcdgchleijbaaMost
import Derived.Outline
namespace Go.Proofs.Ytemcdgchleijbaa
open Go.RowKit

def BdI (m : Int) (d : List Int) : Prop := ∀ x ∈ d, -1 ≤ x ∧ x ≤ m
theorem bdI_dist {n : Int} {l : List St} (h : goodTown n l = true) (N src : Nat) (hN : N ≤ 14) : BdI 5000000 (distT N (arcs l) src) := by
  obtain ⟨_, _, h40, _⟩ := goodTown_true h
  intro x hx
  obtain ⟨i, hi, rfl⟩ := List.getElem_of_mem hx
  have hb := bd_iter (arcs_bd h) N src N i
  have e : (distT N (arcs l) src)[i] = (iterT (arcs l) (startT N src) N).getD i 0 := by unfold distT at hi ⊢; simp [List.getD, hi]
  rw [← e] at hb
  have hlen : (arcs l).length ≤ 80 := by rw [arcs_len]; omega
  have hm : (arcs l).length * N ≤ 80 * 14 := Nat.mul_le_mul hlen hN
  have e2 : (3600 * ((arcs l).length : Int) * (N : Int)) = 3600 * (((arcs l).length * N : Nat) : Int) := by rw [Int.natCast_mul, Int.mul_assoc]
  rw [e2] at hb
  generalize (arcs l).length * N = q at hb hm
  omega
theorem bdI_merge {m : Int} {d e : List Int} (hd : BdI m d) (he : BdI m e) : BdI m (mergeT d e) := by
  intro x hx
  unfold mergeT at hx
  obtain ⟨i, hi, rfl⟩ := List.getElem_of_mem hx
  rw [List.length_zipWith] at hi
  rw [List.getElem_zipWith]
  have h1 := hd _ (List.getElem_mem (l := d) (n := i) (by omega))
  have h2 := he _ (List.getElem_mem (l := e) (n := i) (by omega))
  unfold pickT
  split <;> omega
theorem bdI_cover {n : Int} {l : List St} (h : goodTown n l = true) (N : Nat) (hN : N ≤ 14) (q : List Int) : BdI 5000000 (coverL N (arcs l) q) := by
  unfold coverL
  have : ∀ (q d : List Int), BdI 5000000 d → BdI 5000000 (q.foldl (fun d s => mergeT d (distT N (arcs l) s.toNat)) d) := by
    intro q
    induction q with
    | nil => intro d hd; exact hd
    | cons s q ih => intro d hd; exact ih _ (bdI_merge hd (bdI_dist h N _ hN))
  exact this q _ (fun x hx => by rw [(List.mem_replicate.1 hx).2]; omega)
theorem getD_bd {m : Int} {d : List Int} (h : BdI m d) {j : Nat} (hj : j < d.length) : -1 ≤ d.getD j 0 ∧ d.getD j 0 ≤ m := by
  have := h _ (List.getElem_mem (l := d) (n := j) hj)
  simpa [List.getD, List.getElem?_eq_getElem hj] using this
theorem getD_some {d : List Int} {j : Nat} (hj : j < d.length) : d[j]? = some (d.getD j 0) := by simp [List.getD, List.getElem?_eq_getElem hj]
theorem mem_take_getD {d : List Int} {j : Nat} {x : Int} (h : x ∈ d.take j) : ∃ i, i < j ∧ i < d.length ∧ x = d.getD i 0 := by
  obtain ⟨i, hi, rfl⟩ := List.getElem_of_mem h
  rw [List.length_take] at hi
  refine ⟨i, by omega, by omega, ?_⟩
  rw [List.getElem_take]
  simp [List.getD, List.getElem?_eq_getElem (show i < d.length by omega)]
theorem foldl_max_ge (l : List Int) : ∀ y, y ≤ l.foldl max y ∧ (∀ x ∈ l, x ≤ l.foldl max y) ∧ (l.foldl max y = y ∨ l.foldl max y ∈ l) := by
  induction l with
  | nil => intro y; simp
  | cons z l ih =>
    intro y
    rw [List.foldl_cons]
    obtain ⟨h1, h2, h3⟩ := ih (max y z)
    refine ⟨by omega, fun x hx => ?_, ?_⟩
    · rcases List.mem_cons.1 hx with rfl | hx
      · omega
      · exact h2 x hx
    · rcases h3 with h3 | h3
      · rw [h3]
        rcases Int.le_total y z with h | h
        · right; rw [Int.max_eq_right h]; simp
        · left; exact Int.max_eq_left h
      · right; simp [h3]
theorem maxL_spec {d : List Int} (h : 0 < d.length) : maxL d ∈ d ∧ ∀ x ∈ d, x ≤ maxL d := by
  cases d with
  | nil => simp at h
  | cons y l =>
    obtain ⟨h1, h2, h3⟩ := foldl_max_ge l y
    refine ⟨?_, fun x hx => ?_⟩
    · show l.foldl max y ∈ y :: l
      rcases h3 with h3 | h3
      · rw [h3]; simp
      · simp [h3]
    · rcases List.mem_cons.1 hx with rfl | hx
      · exact h1
      · exact h2 x hx
theorem foldl_min_le (l : List Int) : ∀ y, l.foldl min y ≤ y ∧ (∀ x ∈ l, l.foldl min y ≤ x) ∧ (l.foldl min y = y ∨ l.foldl min y ∈ l) := by
  induction l with
  | nil => intro y; simp
  | cons z l ih =>
    intro y
    rw [List.foldl_cons]
    obtain ⟨h1, h2, h3⟩ := ih (min y z)
    refine ⟨by omega, fun x hx => ?_, ?_⟩
    · rcases List.mem_cons.1 hx with rfl | hx
      · omega
      · exact h2 x hx
    · rcases h3 with h3 | h3
      · rw [h3]
        rcases Int.le_total y z with h | h
        · left; exact Int.min_eq_left h
        · right; rw [Int.min_eq_right h]; simp
      · right; simp [h3]
theorem minL_spec {d : List Int} (h : 0 < d.length) : minL d ∈ d ∧ ∀ x ∈ d, minL d ≤ x := by
  cases d with
  | nil => simp at h
  | cons y l =>
    obtain ⟨h1, h2, h3⟩ := foldl_min_le l y
    refine ⟨?_, fun x hx => ?_⟩
    · show l.foldl min y ∈ y :: l
      rcases h3 with h3 | h3
      · rw [h3]; simp
      · simp [h3]
    · rcases List.mem_cons.1 hx with rfl | hx
      · exact h1
      · exact h2 x hx
theorem maxL_eq {d : List Int} {x : Int} (h : x ∈ d) (hx : ∀ y ∈ d, y ≤ x) : maxL d = x := by
  have hl : 0 < d.length := List.length_pos_of_mem h
  have h1 := maxL_spec hl
  have := hx _ h1.1
  have := h1.2 _ h
  omega

/-! ### WeakestNode -/
def weakW (d : List Int) : Int × Int × Bool := if 0 ≤ idxI d (-1) then (idxI d (-1), -1, true) else (idxI d (maxL d), maxL d, true)
def weakestNodeW (m : Nat) (l : List St) (q : List Int) : Int × Int × Bool := weakW (coverL m (arcs l) q)
def weakestNodeV (n : Int) (l : List St) (q : List Int) : Int × Int × Bool := if goodSta n l q = true then weakestNodeW n.toNat l q else (0, 0, false)
/-- What holds of the node that stands first after k of them. -/
def WeakInv (d : List Int) (k b : Nat) : Prop := (k = 0 ∧ b = 0) ∨ (b < k ∧ d.getD b 0 < 0 ∧ ∀ j, j < b → 0 ≤ d.getD j 0) ∨ (b < k ∧ ∀ j, j < k → 0 ≤ d.getD j 0 ∧ d.getD j 0 ≤ d.getD b 0 ∧ (j < b → d.getD j 0 < d.getD b 0))
theorem weak_first {d : List Int} : WeakInv d 1 0 := by
  unfold WeakInv
  by_cases h : d.getD 0 0 < 0
  · exact Or.inr (Or.inl ⟨by omega, h, fun j hj => by omega⟩)
  · exact Or.inr (Or.inr ⟨by omega, fun j hj => by obtain rfl : j = 0 := by omega
                                                   exact ⟨by omega, by omega, fun h => by omega⟩⟩)
theorem weak_yes {d : List Int} {k b : Nat} (h : WeakInv d k b) (hb : 0 ≤ d.getD b 0) (hk : d.getD k 0 < 0 ∨ d.getD b 0 < d.getD k 0) : WeakInv d (k + 1) k := by
  rcases h with ⟨rfl, rfl⟩ | ⟨_, h, _⟩ | ⟨hlt, h⟩
  · exact weak_first
  · omega
  · rcases hk with hk | hk
    · exact Or.inr (Or.inl ⟨by omega, hk, fun j hj => (h j hj).1⟩)
    · refine Or.inr (Or.inr ⟨by omega, fun j hj => ?_⟩)
      rcases Nat.lt_or_ge j k with hj' | hj'
      · have := h j hj'; exact ⟨by omega, by omega, fun _ => by omega⟩
      · obtain rfl : j = k := by omega
        exact ⟨by omega, by omega, fun h => by omega⟩
theorem weak_no {d : List Int} {k b : Nat} (h : WeakInv d k b) (hn : ¬ (0 ≤ d.getD b 0 ∧ (d.getD k 0 < 0 ∨ d.getD b 0 < d.getD k 0))) : WeakInv d (k + 1) b := by
  rcases h with ⟨rfl, rfl⟩ | ⟨h1, h2, h3⟩ | ⟨hlt, h⟩
  · exact weak_first
  · exact Or.inr (Or.inl ⟨by omega, h2, h3⟩)
  · have hb := h b hlt
    refine Or.inr (Or.inr ⟨by omega, fun j hj => ?_⟩)
    rcases Nat.lt_or_ge j k with hj' | hj'
    · exact h j hj'
    · obtain rfl : j = k := by omega
      exact ⟨by omega, by omega, fun h => by omega⟩
theorem weak_end {d : List Int} {m : Int} {b : Nat} (hbd : BdI m d) (hl : 0 < d.length) (h : WeakInv d d.length b) : weakW d = ((b : Int), d.getD b 0, true) := by
  unfold weakW
  rcases h with ⟨h0, _⟩ | ⟨h1, h2, h3⟩ | ⟨hlt, h⟩
  · omega
  · have hm := (getD_bd hbd h1).1
    have e : d.getD b 0 = -1 := by omega
    have hi : idxI d (-1) = (b : Int) := idxI_at (by rw [getD_some h1, e]) (fun hmem => by
      obtain ⟨i, hi, _, hx⟩ := mem_take_getD hmem
      have := h3 i hi
      omega)
    rw [hi, if_pos (by omega), e]
  · have hn : (-1 : Int) ∉ d := fun hmem => by
      obtain ⟨i, hi, hx⟩ := List.getElem_of_mem hmem
      have := h i hi
      have e : d.getD i 0 = d[i] := by simp [List.getD, hi]
      rw [e, hx] at this
      omega
    rw [idxI_none hn, if_neg (by omega)]
    have hmx : maxL d = d.getD b 0 := maxL_eq (List.mem_of_getElem? (getD_some hlt)) (fun y hy => by
      obtain ⟨i, hi, rfl⟩ := List.getElem_of_mem hy
      have := (h i hi).2.1
      have e : d.getD i 0 = d[i] := by simp [List.getD, hi]
      rw [← e]; exact this)
    rw [hmx, idxI_at (getD_some hlt) (fun hmem => by
      obtain ⟨i, hi, hi2, hx⟩ := mem_take_getD hmem
      have := (h i hi2).2.2 hi
      omega)]

/-! ### LeastLimit -/
def leastW (d : List Int) : Int × Bool := if minL d < 0 ∨ 36000 < maxL d then (0, false) else (maxL d, true)
def leastLimitW (m : Nat) (l : List St) (q : List Int) : Int × Bool := leastW (coverL m (arcs l) q)
def leastLimitV (n : Int) (l : List St) (q : List Int) : Int × Bool := if goodSta n l q = true then leastLimitW n.toNat l q else (0, false)
theorem least_neg {d : List Int} {k : Nat} (hk : k < d.length) (h : d.getD k 0 < 0) : leastW d = (0, false) := by
  unfold leastW
  rw [if_pos (Or.inl _)]
  have := (minL_spec (by omega : 0 < d.length)).2 _ (List.mem_of_getElem? (getD_some hk))
  omega
theorem least_fit {d : List Int} (hl : 0 < d.length) (h : ∀ x ∈ d, 0 ≤ x) : leastW d = (if inB (d.foldl max 0) 0 36000 = true then (d.foldl max 0, true) else (0, false)) := by
  have hm := minL_spec hl
  have hx := maxL_spec hl
  obtain ⟨h1, h2, h3⟩ := foldl_max_ge d 0
  have e : d.foldl max 0 = maxL d := by
    have a1 := h2 _ hx.1
    rcases h3 with h3 | h3
    · have := h _ hx.1; omega
    · have := hx.2 _ h3; omega
  have h0 := h _ hm.1
  have h4 := h _ hx.1
  unfold leastW
  rw [e]
  unfold inB
  by_cases hc : maxL d ≤ 36000
  · rw [if_neg (by omega), if_pos (by simp [hc, h4])]
  · rw [if_pos (by omega), if_neg (by simp [hc])]
end Go.Proofs.Ytemcdgchleijbaa
