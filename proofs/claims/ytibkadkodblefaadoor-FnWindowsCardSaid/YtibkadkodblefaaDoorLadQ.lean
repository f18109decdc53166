/-
  Ladders: the plain laws of the highest and the farthest point, of roots, of the places that reach windows.
-/
import Derived.Test.YtibkadkodblefaaDoorLadP
namespace Go.Proofs.YtibkadkodblefaaDoor
open Go.RowKit

/-! ### A greatest value over two loops -/
theorem foldMax {α : Type} (p : α → Bool) (f : α → Int) : ∀ (l : List α) (B v : Int), v ≤ l.foldl (fun B x => if p x = true then maxI B (f x) else B) B ↔ v ≤ B ∨ ∃ x ∈ l, p x = true ∧ v ≤ f x := by
  intro l
  induction l with
  | nil => intro B v; simp
  | cons x l ih =>
    intro B v
    rw [List.foldl_cons, ih]
    by_cases h : p x = true
    · rw [if_pos h]
      have hm : v ≤ maxI B (f x) ↔ v ≤ B ∨ v ≤ f x := by rw [maxI_eq]; omega
      rw [hm]
      constructor
      · rintro ((h1 | h1) | ⟨y, hy, h2⟩)
        · exact .inl h1
        · exact .inr ⟨x, by simp, h, h1⟩
        · exact .inr ⟨y, by simp [hy], h2⟩
      · rintro (h1 | ⟨y, hy, h2, h3⟩)
        · exact .inl (.inl h1)
        · rcases List.mem_cons.1 hy with rfl | hy
          · exact .inl (.inr h3)
          · exact .inr ⟨y, hy, h2, h3⟩
    · rw [if_neg h]
      constructor
      · rintro (h1 | ⟨y, hy, h2⟩)
        · exact .inl h1
        · exact .inr ⟨y, by simp [hy], h2⟩
      · rintro (h1 | ⟨y, hy, h2, h3⟩)
        · exact .inl h1
        · rcases List.mem_cons.1 hy with rfl | hy
          · exact absurd h2 h
          · exact .inr ⟨y, hy, h2, h3⟩
def lenMax (p : Nat → Nat → Bool) (f : Nat → Nat → Int) (a : Nat) (k : Nat) (B : Int) : Int := (List.range k).foldl (fun B n => if p a n = true then maxI B (f a n) else B) B
def angMax (p : Nat → Nat → Bool) (f : Nat → Nat → Int) (L s k : Nat) : Int := (List.range k).foldl (fun B i => lenMax p f (s + i) (L + 1) B) (-1)
theorem lenMax_zero (p : Nat → Nat → Bool) (f : Nat → Nat → Int) (a : Nat) (B : Int) : lenMax p f a 0 B = B := rfl
theorem lenMax_succ (p : Nat → Nat → Bool) (f : Nat → Nat → Int) (a k : Nat) (B : Int) : lenMax p f a (k + 1) B = if p a k = true then maxI (lenMax p f a k B) (f a k) else lenMax p f a k B := by
  unfold lenMax; rw [List.range_succ, List.foldl_append]; rfl
theorem angMax_succ (p : Nat → Nat → Bool) (f : Nat → Nat → Int) (L s k : Nat) : angMax p f L s (k + 1) = lenMax p f (s + k) (L + 1) (angMax p f L s k) := by
  unfold angMax; rw [List.range_succ, List.foldl_append]; rfl
theorem angMax_le (p : Nat → Nat → Bool) (f : Nat → Nat → Int) (L s : Nat) (v : Int) : ∀ k, v ≤ angMax p f L s k ↔ v ≤ -1 ∨ ∃ i < k, ∃ n ≤ L, p (s + i) n = true ∧ v ≤ f (s + i) n := by
  intro k
  induction k with
  | zero => simp [angMax]
  | succ k ih =>
    rw [angMax_succ]
    unfold lenMax
    rw [foldMax, ih]
    constructor
    · rintro ((h | ⟨i, hi, h⟩) | ⟨n, hn, h⟩)
      · exact .inl h
      · exact .inr ⟨i, by omega, h⟩
      · exact .inr ⟨k, by omega, n, by have := List.mem_range.1 hn; omega, h⟩
    · rintro (h | ⟨i, hi, n, hn, h⟩)
      · exact .inl (.inl h)
      · by_cases e : i = k
        · subst e; exact .inr ⟨n, List.mem_range.2 (by omega), h⟩
        · exact .inl (.inr ⟨i, by omega, n, hn, h⟩)
theorem lenMax_bd {p : Nat → Nat → Bool} {f : Nat → Nat → Int} {a : Nat} {B : Int} (hB : -1 ≤ B ∧ B ≤ 600) : ∀ k, (∀ n < k, p a n = true → f a n ≤ 600) → -1 ≤ lenMax p f a k B ∧ lenMax p f a k B ≤ 600 := by
  intro k
  induction k with
  | zero => intro _; exact hB
  | succ k ih =>
    intro h
    have h1 := ih (fun n hn => h n (by omega))
    rw [lenMax_succ]
    split
    · rename_i hp; have := h k (by omega) hp; rw [maxI_eq]; omega
    · exact h1

/-- The greatest number up to k with R. -/
def downF (R : Nat → Bool) : Nat → Option Nat
  | 0 => if R 0 then some 0 else none
  | k + 1 => if R (k + 1) then some (k + 1) else downF R k
theorem downF_some {R : Nat → Bool} : ∀ {k u : Nat}, u ≤ k → R u = true → (∀ v, u < v → v ≤ k → R v = false) → downF R k = some u := by
  intro k
  induction k with
  | zero => intro u hu hr _; obtain rfl : u = 0 := by omega
            unfold downF; rw [if_pos hr]
  | succ k ih =>
    intro u hu hr hn
    unfold downF
    by_cases e : u = k + 1
    · subst e; rw [if_pos hr]
    · rw [if_neg (by rw [hn (k + 1) (by omega) (by omega)]; simp)]
      exact ih (by omega) hr (fun v h1 h2 => hn v h1 (by omega))
theorem downF_none {R : Nat → Bool} : ∀ {k : Nat}, (∀ v, v ≤ k → R v = false) → downF R k = none := by
  intro k
  induction k with
  | zero => intro h; unfold downF; rw [if_neg (by rw [h 0 (by omega)]; simp)]
  | succ k ih => intro h; unfold downF; rw [if_neg (by rw [h (k + 1) (by omega)]; simp)]; exact ih (fun v hv => h v (by omega))
/-- The loop from above, at k. -/
theorem downF_step {R : Nat → Bool} {k : Nat} (h : R (k + 1) = false) : downF R (k + 1) = downF R k := by
  show (if R (k + 1) = true then some (k + 1) else downF R k) = _
  rw [if_neg (by rw [h]; simp)]
theorem downF_here {R : Nat → Bool} {k : Nat} (h : R k = true) : downF R k = some k := by cases k <;> (unfold downF; rw [if_pos h])
theorem downF_low {R : Nat → Bool} (h : R 0 = false) : downF R 0 = none := by unfold downF; rw [if_neg (by rw [h]; simp)]
def downR (R : Nat → Bool) : Int × Bool := match downF R 600 with | some u => ((u : Int), true) | none => (0, false)
def bestR (B : Int) : Int × Bool := if B < 0 then (0, false) else (B, true)
theorem down_best {R : Nat → Bool} {B : Int} (h1 : ∀ u : Nat, u ≤ 600 → R u = true → (u : Int) ≤ B) (h2 : 0 ≤ B → B ≤ 600 ∧ R B.toNat = true) : downR R = bestR B := by
  unfold downR bestR
  by_cases h : B < 0
  · rw [if_pos h, downF_none (fun v hv => by
      cases hr : R v with
      | false => rfl
      | true => have := h1 v hv hr; omega)]
  · obtain ⟨h3, h4⟩ := h2 (by omega)
    rw [if_neg h, downF_some (u := B.toNat) (by omega) h4 (fun v hv hv2 => by
      cases hr : R v with
      | false => rfl
      | true => have := h1 v hv2 hr; omega)]
    dsimp only
    rw [Int.toNat_of_nonneg (by omega)]

theorem ptAll_pos {b o : Int} {L s m : Nat} {x y : Int} : 0 < ptAll b o L s m x y ↔ ∃ i < m + 1 - s, ∃ n ≤ L, hitB b o x y (s + i) n = true := by
  rw [ptAll_at, ptV_pos]
  unfold angF
  rw [List.find?_isSome]
  constructor
  · rintro ⟨a, ha, h⟩
    obtain ⟨i, hi, rfl⟩ := List.mem_map.1 ha
    exact ⟨i, List.mem_range.1 hi, reachB_iff.1 h⟩
  · rintro ⟨i, hi, h⟩
    exact ⟨s + i, List.mem_map.2 ⟨i, List.mem_range.2 hi, rfl⟩, reachB_iff.2 h⟩
/-- What HighestAt and FarthestFor ask of an angle and a length. -/
def hiP (b o out : Int) (a n : Nat) : Bool := decide (out ≤ tipL n (sn (90 - a))) && decide (tipL n (sn (90 - a)) ≤ out + 1) && decide (tipL n (sn (90 - a)) ≤ o) && decide (b + tipL n (sn a) ≤ 601)
def hiF (b : Int) (a n : Nat) : Int := minI (b + tipL n (sn a)) 600
def faP (b o up : Int) (a n : Nat) : Bool := decide (up ≤ b + tipL n (sn a)) && decide (b + tipL n (sn a) ≤ up + 1) && decide (tipL n (sn (90 - a)) ≤ o)
def faF (a n : Nat) : Int := tipL n (sn (90 - a))
theorem highest_law {b o : Int} {L s m : Nat} {out : Int} (hb : 0 ≤ b) (hm : m ≤ 85) (hL : L ≤ 600) : downR (fun u => decide (0 < ptAll b o L s m out (u : Int))) = bestR (angMax (hiP b o out) (hiF b) L s (m + 1 - s)) := by
  refine down_best (fun u hu hr => ?_) (fun h0 => ?_)
  · obtain ⟨i, hi, n, hn, hh⟩ := ptAll_pos.1 (of_decide_eq_true hr)
    obtain ⟨q1, q2, q3, q4, q5⟩ := hitB_iff.1 hh
    rw [angMax_le]
    refine .inr ⟨i, hi, n, hn, ?_, ?_⟩
    · unfold hiP
      simp only [Bool.and_eq_true, decide_eq_true_eq]; omega
    · unfold hiF; rw [minI_eq]; omega
  · obtain ⟨B, hB⟩ : ∃ B, angMax (hiP b o out) (hiF b) L s (m + 1 - s) = B := ⟨_, rfl⟩
    rw [hB] at h0 ⊢
    rcases (angMax_le _ _ _ _ B _).1 (Int.le_of_eq hB.symm) with h | ⟨i, hi, n, hn, hp, hf⟩
    · omega
    · have hge := (angMax_le (hiP b o out) (hiF b) L s (hiF b (s + i) n) (m + 1 - s)).2 (.inr ⟨i, hi, n, hn, hp, Int.le_refl _⟩)
      rw [hB] at hge
      have ht := tipL_bd (n := n) (s := sn (s + i)) (sn_bd (by omega)).1 (sn_bd (by omega)).2 (by omega)
      unfold hiP at hp
      simp only [Bool.and_eq_true, decide_eq_true_eq] at hp
      unfold hiF at hf hge
      rw [minI_eq] at hf hge
      refine ⟨by omega, decide_eq_true (ptAll_pos.2 ⟨i, hi, n, hn, hitB_iff.2 ?_⟩)⟩
      rw [Int.toNat_of_nonneg h0]
      omega
theorem farthest_law {b o : Int} {L s m : Nat} {up : Int} (ho : o ≤ 600) (hm : m ≤ 85) (hL : L ≤ 600) : downR (fun u => decide (0 < ptAll b o L s m (u : Int) up)) = bestR (angMax (faP b o up) faF L s (m + 1 - s)) := by
  refine down_best (fun u hu hr => ?_) (fun h0 => ?_)
  · obtain ⟨i, hi, n, hn, hh⟩ := ptAll_pos.1 (of_decide_eq_true hr)
    obtain ⟨q1, q2, q3, q4, q5⟩ := hitB_iff.1 hh
    rw [angMax_le]
    refine .inr ⟨i, hi, n, hn, ?_, ?_⟩
    · unfold faP
      simp only [Bool.and_eq_true, decide_eq_true_eq]; omega
    · unfold faF; omega
  · obtain ⟨B, hB⟩ : ∃ B, angMax (faP b o up) faF L s (m + 1 - s) = B := ⟨_, rfl⟩
    rw [hB] at h0 ⊢
    rcases (angMax_le _ _ _ _ B _).1 (Int.le_of_eq hB.symm) with h | ⟨i, hi, n, hn, hp, hf⟩
    · omega
    · have hge := (angMax_le (faP b o up) faF L s (faF (s + i) n) (m + 1 - s)).2 (.inr ⟨i, hi, n, hn, hp, Int.le_refl _⟩)
      rw [hB] at hge
      unfold faP at hp
      simp only [Bool.and_eq_true, decide_eq_true_eq] at hp
      unfold faF at hf hge
      refine ⟨by omega, decide_eq_true (ptAll_pos.2 ⟨i, hi, n, hn, hitB_iff.2 ?_⟩)⟩
      rw [Int.toNat_of_nonneg h0]
      omega

/-! ### Roots -/
def IsRoot (q : Int) (r : Nat) : Prop := (r : Int) * r ≤ q ∧ q < ((r : Int) + 1) * (r + 1)
theorem isRoot_one {q : Int} {r t : Nat} (h : IsRoot q r) (k : IsRoot q t) : r = t := by
  obtain ⟨h1, h2⟩ := h
  obtain ⟨k1, k2⟩ := k
  have aux : ∀ a b : Nat, a < b → ((a : Int) + 1) * (a + 1) ≤ (b : Int) * b := fun a b hab => Int.mul_le_mul (by omega) (by omega) (by omega) (by omega)
  rcases Nat.lt_trichotomy r t with hlt | e | hlt
  · have := aux r t hlt; omega
  · exact e
  · have := aux t r hlt; omega
theorem isRoot_ex : ∀ q : Nat, ∃ r, IsRoot (q : Int) r := by
  intro q
  induction q with
  | zero => exact ⟨0, by unfold IsRoot; omega⟩
  | succ q ih =>
    obtain ⟨r, h1, h2⟩ := ih
    by_cases h : ((r : Int) + 1) * (r + 1) ≤ ((q + 1 : Nat) : Int)
    · refine ⟨r + 1, ?_, ?_⟩
      · have e : ((r + 1 : Nat) : Int) = (r : Int) + 1 := by omega
        rw [e]; exact h
      · have e : ((r + 1 : Nat) : Int) = (r : Int) + 1 := by omega
        rw [e]
        have e2 : ((r : Int) + 1 + 1) * (r + 1 + 1) = ((r : Int) + 1) * (r + 1) + 2 * (r + 1) + 1 := by
          rw [Int.add_mul _ 1, Int.mul_add]; omega
        omega
    · exact ⟨r, by omega, by omega⟩
theorem isRoot_le {q : Int} {r B : Nat} (h : IsRoot q r) (hq : q < ((B : Int) + 1) * (B + 1)) : r ≤ B := by
  rcases Nat.lt_or_ge B r with hlt | h2
  · have : ((B : Int) + 1) * (B + 1) ≤ (r : Int) * r := Int.mul_le_mul (by omega) (by omega) (by omega) (by omega)
    have := h.1; omega
  · exact h2
theorem root_step {q : Int} {r k : Nat} (h : IsRoot q r) : ((k : Int) + 1) * (k + 1) ≤ q ↔ k < r := by
  constructor
  · intro hk
    rcases Nat.lt_or_ge k r with h2 | h2
    · exact h2
    · have : ((r : Int) + 1) * (r + 1) ≤ ((k : Int) + 1) * (k + 1) := Int.mul_le_mul (by omega) (by omega) (by omega) (by omega)
      have := h.2; omega
  · intro hk
    have : ((k : Int) + 1) * (k + 1) ≤ (r : Int) * r := Int.mul_le_mul (by omega) (by omega) (by omega) (by omega)
    have := h.1; omega
theorem root_sq {q : Int} {r k : Nat} (h : IsRoot q r) : (k : Int) * k ≤ q ↔ k ≤ r := by
  cases k with
  | zero => have := h.1; have h2 : (0 : Int) ≤ (r : Int) * r := Int.mul_nonneg (by omega) (by omega); simp; omega
  | succ k =>
    have e : ((k + 1 : Nat) : Int) = (k : Int) + 1 := by omega
    rw [e, root_step h]; omega
end Go.Proofs.YtibkadkodblefaaDoor
