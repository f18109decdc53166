/-
  Ladders: the plain law of the fewest places: the search over sets of bits and the search over what is left give the same.
-/
import Derived.Test.YtibkadkodblefaaDoorLadQ
import Derived.Test.YtibkadkodblefaaDoorSel
namespace Go.Proofs.YtibkadkodblefaaDoor
open Go.RowKit

/-- The first k' of j numbers from k on at which f gives something, with 50 k' set ahead of it. -/
def gof (f : Nat → Option (List Int)) : Nat → Nat → Option (List Int)
  | _, 0 => none
  | k, j + 1 => match f k with
    | some T => some (50 * (k : Int) :: T)
    | none => gof f (k + 1) j
theorem gof_yes {f : Nat → Option (List Int)} {k j : Nat} {T : List Int} (h : f k = some T) : gof f k (j + 1) = some (50 * (k : Int) :: T) := by simp only [gof]; rw [h]
theorem gof_no {f : Nat → Option (List Int)} {k j : Nat} (h : f k = none) : gof f k (j + 1) = gof f (k + 1) j := by simp only [gof]; rw [h]
theorem gof_congr {f g : Nat → Option (List Int)} : ∀ (j k : Nat), (∀ k', k ≤ k' → k' < k + j → f k' = g k') → gof f k j = gof g k j := by
  intro j
  induction j with
  | zero => intro k _; rfl
  | succ j ih =>
    intro k h
    simp only [gof]
    rw [h k (by omega) (by omega), ih (k + 1) (fun k' h1 h2 => h k' (by omega) (by omega))]
theorem gof_none {f : Nat → Option (List Int)} : ∀ (j k : Nat), gof f k j = none → ∀ k', k ≤ k' → k' < k + j → f k' = none := by
  intro j
  induction j with
  | zero => intro k _ k' h1 h2; omega
  | succ j ih =>
    intro k h k' h1 h2
    cases hf : f k with
    | some T => rw [gof_yes hf] at h; cases h
    | none =>
      rw [gof_no hf] at h
      by_cases e : k' = k
      · rw [e]; exact hf
      · exact ih (k + 1) h k' (by omega) (by omega)
def covS (ls : List (List Int)) : Nat → Nat → List Int → Option (List Int)
  | 0, _, left => if left = [] then some [] else none
  | n + 1, k, left => if left = [] then none else gof (fun k' => covS ls n (k' + 1) (left.filter fun i => !decide (i ∈ ls.getD k' []))) k (ls.length - k)
def srchS (M : List Nat) (all : Nat) : Nat → Nat → Nat → Option (List Int)
  | 0, _, r => if r = all then some [] else none
  | n + 1, k, r => gof (fun k' => srchS M all n (k' + 1) (r ||| M.getD k' 0)) k (M.length - k)
/-- n places from k on together with P reach all windows. -/
def Cv (h : Nat → Nat → Bool) (nW nP : Nat) : Nat → Nat → (Nat → Bool) → Prop
  | 0, _, P => ∀ i, i < nW → P i = true
  | n + 1, k, P => ∃ k', k ≤ k' ∧ k' < nP ∧ Cv h nW nP n (k' + 1) fun i => P i || h k' i
def MaskOf (nW : Nat) (P : Nat → Bool) (r : Nat) : Prop := ∀ i, r.testBit i = (decide (i < nW) && P i)
theorem mask_or {nW : Nat} {P Q : Nat → Bool} {r t : Nat} (h : MaskOf nW P r) (k : MaskOf nW Q t) : MaskOf nW (fun i => P i || Q i) (r ||| t) := fun i => by
  rw [Nat.testBit_or, h i, k i]
  cases decide (i < nW) <;> rfl
theorem mask_all {nW : Nat} {P : Nat → Bool} {r : Nat} (h : MaskOf nW P r) : r = 2 ^ nW - 1 ↔ ∀ i, i < nW → P i = true := by
  constructor
  · intro e i hi
    have h1 := h i
    rw [e, Nat.testBit_two_pow_sub_one, decide_eq_true hi, Bool.true_and] at h1
    exact h1.symm
  · intro hp
    refine Nat.eq_of_testBit_eq (fun i => ?_)
    rw [h i, Nat.testBit_two_pow_sub_one]
    by_cases hi : i < nW
    · rw [hp i hi, Bool.and_true]
    · rw [decide_eq_false hi, Bool.false_and]
theorem selD_nil {P : Nat → Bool} {n : Nat} : selD (fun i => !P i) n = [] ↔ ∀ i, i < n → P i = true := by
  unfold selD
  rw [List.map_eq_nil_iff, List.filter_eq_nil_iff]
  constructor
  · intro h i hi
    have := h i (List.mem_range.2 hi)
    simpa using this
  · intro h i hi
    rw [h i (List.mem_range.1 hi)]; simp
theorem selD_in {P : Nat → Bool} {n i : Nat} : (i : Int) ∈ selD P n ↔ i < n ∧ P i = true := by
  unfold selD
  rw [List.mem_map]
  constructor
  · rintro ⟨j, hj, e⟩
    obtain rfl : j = i := by omega
    exact ⟨List.mem_range.1 (List.mem_filter.1 hj).1, (List.mem_filter.1 hj).2⟩
  · rintro ⟨h1, h2⟩
    exact ⟨i, List.mem_filter.2 ⟨List.mem_range.2 h1, h2⟩, rfl⟩
theorem selD_less {P Q : Nat → Bool} {n : Nat} : (selD (fun i => !P i) n).filter (fun i => !decide (i ∈ selD Q n)) = selD (fun i => !(P i || Q i)) n := by
  have hs : ∀ R : Nat → Bool, selD R n = ((List.range n).filter R).map fun (i : Nat) => (i : Int) := fun _ => rfl
  rw [hs (fun i => !P i), hs (fun i => !(P i || Q i)), List.filter_map, List.filter_filter]
  congr 1
  refine List.filter_congr (fun i hi => ?_)
  have hn := List.mem_range.1 hi
  have : decide ((i : Int) ∈ selD Q n) = Q i := by
    cases hq : Q i with
    | true => exact decide_eq_true (selD_in.2 ⟨hn, hq⟩)
    | false => exact decide_eq_false (fun h => by have := (selD_in.1 h).2; rw [hq] at this; cases this)
  simp only [Function.comp]
  rw [this]
  cases P i <;> cases Q i <;> rfl
theorem srch_none {h : Nat → Nat → Bool} {nW : Nat} {M : List Nat} (hM : ∀ k, k < M.length → MaskOf nW (h k) (M.getD k 0)) : ∀ (n k r : Nat) (P : Nat → Bool), MaskOf nW P r → srchS M (2 ^ nW - 1) n k r = none → ¬ Cv h nW M.length n k P := by
  intro n
  induction n with
  | zero =>
    intro k r P hr hn hc
    simp only [srchS] at hn
    rw [if_pos ((mask_all hr).2 hc)] at hn
    cases hn
  | succ n ih =>
    rintro k r P hr hn ⟨k', h1, h2, h3⟩
    simp only [srchS] at hn
    exact ih (k' + 1) _ _ (mask_or hr (hM k' h2)) (gof_none _ _ hn k' h1 (by omega)) h3
theorem cov_srch {h : Nat → Nat → Bool} {nW : Nat} {M : List Nat} {ls : List (List Int)} (hM : ∀ k, k < M.length → MaskOf nW (h k) (M.getD k 0)) (hl : ls.length = M.length) (hls : ∀ k, k < M.length → ls.getD k [] = selD (h k) nW) :
    ∀ (n k r : Nat) (P : Nat → Bool), MaskOf nW P r → (∀ j, j < n → ¬ Cv h nW M.length j k P) → covS ls n k (selD (fun i => !P i) nW) = srchS M (2 ^ nW - 1) n k r := by
  intro n
  induction n with
  | zero =>
    intro k r P hr _
    simp only [covS, srchS]
    by_cases e : ∀ i, i < nW → P i = true
    · rw [if_pos (selD_nil.2 e), if_pos ((mask_all hr).2 e)]
    · rw [if_neg (fun x => e (selD_nil.1 x)), if_neg (fun x => e ((mask_all hr).1 x))]
  | succ n ih =>
    intro k r P hr hno
    simp only [covS, srchS]
    rw [if_neg (fun x => hno 0 (by omega) (selD_nil.1 x)), hl]
    refine gof_congr _ _ (fun k' h1 h2 => ?_)
    have hk : k' < M.length := by omega
    rw [hls k' hk, selD_less]
    exact ih (k' + 1) _ _ (mask_or hr (hM k' hk)) (fun j hj hc => hno (j + 1) (by omega) ⟨k', h1, hk, hc⟩)
def firstSome (f : Nat → Option (List Int)) : Nat → Option (List Int)
  | 0 => none
  | n + 1 => match firstSome f n with
    | some T => some T
    | none => f n
theorem firstSome_none {f : Nat → Option (List Int)} : ∀ {n : Nat}, firstSome f n = none → ∀ j, j < n → f j = none := by
  intro n
  induction n with
  | zero => intro _ j hj; omega
  | succ n ih =>
    intro h j hj
    simp only [firstSome] at h
    cases hf : firstSome f n with
    | some T => rw [hf] at h; cases h
    | none =>
      rw [hf] at h
      by_cases e : j = n
      · rw [e]; exact h
      · exact ih hf j (by omega)
theorem fewest_law {h : Nat → Nat → Bool} {nW : Nat} {M : List Nat} {ls : List (List Int)} (hM : ∀ k, k < M.length → MaskOf nW (h k) (M.getD k 0)) (hl : ls.length = M.length) (hls : ∀ k, k < M.length → ls.getD k [] = selD (h k) nW) :
    ∀ n, firstSome (fun n => covS ls n 0 (selD (fun i => !false) nW)) n = firstSome (fun n => srchS M (2 ^ nW - 1) n 0 0) n := by
  have h0 : MaskOf nW (fun _ => false) 0 := fun i => by simp
  intro n
  induction n with
  | zero => rfl
  | succ n ih =>
    simp only [firstSome]
    rw [ih]
    cases hf : firstSome (fun n => srchS M (2 ^ nW - 1) n 0 0) n with
    | some T => rfl
    | none => exact cov_srch hM hl hls n 0 0 (fun _ => false) h0 (fun j hj => srch_none hM j 0 0 _ h0 (firstSome_none hf j hj))
end Go.Proofs.YtibkadkodblefaaDoor
