/-
  BlockedStations: the plain law. The best of all sets, and the first set of the least size, are one.
-/
import Derived.Test.YtgdigcnpjkkmfaaMvN
namespace Go.Proofs.Ytgdigcnpjkkmfaa
open Go.RowKit

theorem inc_ext : ∀ {a b : List Int}, a.Pairwise (· < ·) → b.Pairwise (· < ·) → (∀ x, x ∈ a ↔ x ∈ b) → a = b := by
  intro a
  induction a with
  | nil =>
    intro b _ _ h
    cases b with
    | nil => rfl
    | cons y b => have := (h y).2 (by simp); simp at this
  | cons x a ih =>
    intro b ha hb h
    cases b with
    | nil => have := (h x).1 (by simp); simp at this
    | cons y b =>
      rw [List.pairwise_cons] at ha hb
      have hx := (h x).1 (by simp)
      have hy := (h y).2 (by simp)
      rw [List.mem_cons] at hx hy
      have e : x = y := by
        rcases hx with hx | hx
        · exact hx
        · rcases hy with hy | hy
          · exact hy.symm
          · have h1 := hb.1 x hx; have h2 := ha.1 y hy; omega
      subst e
      rw [ih ha.2 hb.2 (fun z => ?_)]
      have hz := h z
      rw [List.mem_cons, List.mem_cons] at hz
      constructor
      · intro hm
        rcases hz.1 (.inr hm) with h1 | h1
        · subst h1; have := ha.1 z hm; omega
        · exact h1
      · intro hm
        rcases hz.2 (.inr hm) with h1 | h1
        · subst h1; have := hb.1 z hm; omega
        · exact h1
theorem selI_inc (p : Nat → Bool) : ∀ n, (selI p n).Pairwise (· < ·) := by
  intro n
  induction n with
  | zero => simp [selI]
  | succ n ih =>
    cases h : p n with
    | true =>
      rw [selI_yes h, List.pairwise_append]
      refine ⟨ih, by simp, fun x hx y hy => ?_⟩
      rw [List.mem_singleton] at hy
      subst hy
      obtain ⟨i, rfl, hi, _⟩ := selI_mem.1 hx
      omega
    | false => rw [selI_no h]; exact ih
/-- How many numbers below 7 are in P. -/
def cntP (P : Nat → Bool) : Nat := (selI P 7).length
theorem cntP_congr {P Q : Nat → Bool} (h : ∀ i, i < 7 → P i = Q i) : cntP P = cntP Q := by unfold cntP; rw [selI_same h]
theorem cntP_le (P : Nat → Bool) : cntP P ≤ 7 := selI_len _ _
theorem cnt_upd (P : Nat → Bool) (m : Nat) : ∀ n, (selI (updP P m) n).length = (selI P n).length + if m < n ∧ P m = false then 1 else 0 := by
  intro n
  induction n with
  | zero => simp [selI]
  | succ n ih =>
    by_cases hm : n = m
    · subst hm
      have hu : updP P n n = true := by simp [updP]
      rw [selI_yes hu, List.length_append, ih, if_neg (by omega)]
      cases hP : P n with
      | true => rw [selI_yes hP]; simp
      | false => rw [selI_no hP]; simp
    · have hu : updP P m n = P n := by simp [updP, hm]
      have e : (m < n + 1 ∧ P m = false) ↔ (m < n ∧ P m = false) := by constructor <;> (rintro ⟨h1, h2⟩; exact ⟨by omega, h2⟩)
      cases hP : P n with
      | true => rw [selI_yes (hu.trans hP), selI_yes hP, List.length_append, List.length_append, ih]; simp only [e, List.length_singleton]; omega
      | false => rw [selI_no (hu.trans hP), selI_no hP, ih]; simp only [e]
theorem cntP_yes {P : Nat → Bool} {m : Nat} (h : P m = true) : cntP (updP P m) = cntP P := by unfold cntP; rw [cnt_upd, if_neg (by rw [h]; simp)]; rfl
theorem cntP_no {P : Nat → Bool} {m : Nat} (h : P m = false) (h7 : m < 7) : cntP (updP P m) = cntP P + 1 := by unfold cntP; rw [cnt_upd, if_pos ⟨h7, h⟩]
theorem len_cnt {q : List Int} {P : Nat → Bool} (hi : q.Pairwise (· < ·)) (hb : ∀ x ∈ q, ∃ i : Nat, x = (i : Int) ∧ i < 7) (hU : UsedL q P) : q.length = cntP P := by
  unfold cntP
  rw [inc_ext hi (selI_inc P 7) (fun x => ⟨fun hx => ?_, fun hx => ?_⟩)]
  · obtain ⟨i, rfl, h7⟩ := hb x hx
    exact selI_mem.2 ⟨i, rfl, h7, by rw [← hU i h7]; exact decide_eq_true hx⟩
  · obtain ⟨i, rfl, h7, hp⟩ := selI_mem.1 hx
    rw [← hU i h7] at hp
    exact of_decide_eq_true hp

/-- The movers that reach a station of S. -/
def hitL (ls : List (List Int)) (S : List Int) (i : Nat) : Bool := S.any fun k => decide ((i : Int) ∈ ls.getD k.toNat [])
def orP (P : Nat → Bool) (l : List Int) (i : Nat) : Bool := P i || decide ((i : Int) ∈ l)
def unP (P Q : Nat → Bool) (i : Nat) : Bool := P i || Q i
theorem hitL_snoc (ls : List (List Int)) (S : List Int) (k : Nat) (i : Nat) : hitL ls (S ++ [(k : Int)]) i = orP (hitL ls S) (ls.getD k []) i := by
  unfold hitL orP
  rw [List.any_append]; simp
theorem hitL_cons (ls : List (List Int)) (k : Nat) (S : List Int) (P : Nat → Bool) (i : Nat) : unP P (hitL ls ((k : Int) :: S)) i = unP (orP P (ls.getD k [])) (hitL ls S) i := by
  unfold unP hitL orP
  rw [List.any_cons]; simp [Bool.or_assoc]
def blkS (ls : List (List Int)) (S : List Int) : Bool := decide (cntP (hitL ls S) < S.length)
theorem blkS_ne {ls : List (List Int)} {S : List Int} (h : blkS ls S = true) : S ≠ [] := by
  rintro rfl
  unfold blkS at h
  simp at h

/-- The order of lists, as a number. -/
def cmpL : List Int → List Int → Int
  | [], [] => 0
  | [], _ :: _ => -1
  | _ :: _, [] => 1
  | x :: s, y :: t => if x < y then -1 else if y < x then 1 else cmpL s t
theorem cmpL_anti : ∀ s t, cmpL t s = - cmpL s t := by
  intro s
  induction s with
  | nil => intro t; cases t <;> simp [cmpL]
  | cons x s ih =>
    intro t
    cases t with
    | nil => simp [cmpL]
    | cons y t =>
      simp only [cmpL]
      rcases Int.lt_trichotomy x y with h | h | h
      · rw [if_neg (by omega), if_pos h, if_pos h]; rfl
      · subst h; simp [ih]
      · rw [if_pos h, if_neg (by omega), if_pos h]
theorem cmpL_zero : ∀ s t, cmpL s t = 0 → s = t := by
  intro s
  induction s with
  | nil => intro t h; cases t with
    | nil => rfl
    | cons y t => simp [cmpL] at h
  | cons x s ih =>
    intro t h
    cases t with
    | nil => simp [cmpL] at h
    | cons y t =>
      simp only [cmpL] at h
      rcases Int.lt_trichotomy x y with h1 | h1 | h1
      · rw [if_pos h1] at h; omega
      · subst h1; simp at h; rw [ih t h]
      · rw [if_neg (by omega), if_pos h1] at h; omega
theorem cmpL_trans : ∀ a b c, cmpL a b < 0 → cmpL b c < 0 → cmpL a c < 0 := by
  intro a
  induction a with
  | nil =>
    intro b c h1 h2
    cases b with
    | nil => simp [cmpL] at h1
    | cons y b => cases c with
      | nil => simp [cmpL] at h2
      | cons z c => simp [cmpL]
  | cons x a ih =>
    intro b c h1 h2
    cases b with
    | nil => simp [cmpL] at h1
    | cons y b => cases c with
      | nil => simp [cmpL] at h2
      | cons z c =>
        simp only [cmpL] at h1 h2 ⊢
        split at h1
        · split at h2
          · rw [if_pos (by omega)]; omega
          · split at h2
            · omega
            · rw [if_pos (by omega)]; omega
        · split at h1
          · omega
          · split at h2
            · rw [if_pos (by omega)]; omega
            · split at h2
              · omega
              · rw [if_neg (by omega), if_neg (by omega)]; exact ih b c h1 h2
theorem cmpL_01 : ∀ s t, -1 ≤ cmpL s t ∧ cmpL s t ≤ 1 := by
  intro s
  induction s with
  | nil => intro t; cases t <;> simp [cmpL]
  | cons x s ih =>
    intro t
    cases t with
    | nil => simp [cmpL]
    | cons y t =>
      simp only [cmpL]
      split
      · omega
      · split
        · omega
        · exact ih t
def cmpT (s t : List Int) : Int := if s.length < t.length then -1 else if t.length < s.length then 1 else cmpL s t
theorem cmpT_trans {a b c : List Int} (h1 : cmpT a b < 0) (h2 : cmpT b c < 0) : cmpT a c < 0 := by
  unfold cmpT at h1 h2 ⊢
  split at h1
  · split at h2
    · rw [if_pos (by omega)]; omega
    · split at h2
      · omega
      · rw [if_pos (by omega)]; omega
  · split at h1
    · omega
    · split at h2
      · rw [if_pos (by omega)]; omega
      · split at h2
        · omega
        · rw [if_neg (by omega), if_neg (by omega)]; exact cmpL_trans _ _ _ h1 h2

/-- The best blocked set among those with the numbers 1 to t; nothing if there is none. -/
def bestS (ls : List (List Int)) : Nat → List Int
  | 0 => []
  | t + 1 => if blkS ls (selI (t + 1).testBit ls.length) = true ∧ (bestS ls t = [] ∨ cmpT (selI (t + 1).testBit ls.length) (bestS ls t) < 0) then selI (t + 1).testBit ls.length else bestS ls t
theorem bestS_spec (ls : List (List Int)) : ∀ t, (bestS ls t = [] → ∀ s, 1 ≤ s → s ≤ t → blkS ls (selI s.testBit ls.length) = false) ∧
    (bestS ls t ≠ [] → (∃ s, 1 ≤ s ∧ s ≤ t ∧ bestS ls t = selI s.testBit ls.length) ∧ blkS ls (bestS ls t) = true ∧ ∀ s, 1 ≤ s → s ≤ t → blkS ls (selI s.testBit ls.length) = true → ¬ cmpT (selI s.testBit ls.length) (bestS ls t) < 0) := by
  intro t
  induction t with
  | zero => exact ⟨fun _ s h1 h2 => by omega, fun h => absurd rfl h⟩
  | succ t ih =>
    obtain ⟨i1, i2⟩ := ih
    simp only [bestS]
    generalize hS : selI (t + 1).testBit ls.length = S
    by_cases hc : blkS ls S = true ∧ (bestS ls t = [] ∨ cmpT S (bestS ls t) < 0)
    · rw [if_pos hc]
      refine ⟨fun h => absurd h (blkS_ne hc.1), fun _ => ⟨⟨t + 1, by omega, by omega, hS.symm⟩, hc.1, fun s h1 h2 h3 => ?_⟩⟩
      by_cases hs : s = t + 1
      · subst hs
        rw [hS]
        unfold cmpT
        rw [if_neg (by omega), if_neg (by omega)]
        have := cmpL_anti S S
        omega
      · rcases hc.2 with h4 | h4
        · have := i1 h4 s h1 (by omega)
          rw [this] at h3; cases h3
        · intro h5
          by_cases h6 : bestS ls t = []
          · have := i1 h6 s h1 (by omega)
            rw [this] at h3; cases h3
          · exact (i2 h6).2.2 s h1 (by omega) h3 (cmpT_trans h5 h4)
    · rw [if_neg hc]
      refine ⟨fun h s h1 h2 => ?_, fun h => ?_⟩
      · by_cases hs : s = t + 1
        · subst hs
          rw [hS]
          cases hb : blkS ls S with
          | false => rfl
          | true => exact absurd ⟨hb, .inl h⟩ hc
        · exact i1 h s h1 (by omega)
      · obtain ⟨⟨s0, a1, a2, a3⟩, a4, a5⟩ := i2 h
        refine ⟨⟨s0, a1, by omega, a3⟩, a4, fun s h1 h2 h3 => ?_⟩
        by_cases hs : s = t + 1
        · subst hs
          rw [hS] at h3 ⊢
          exact fun h4 => hc ⟨h3, .inr h4⟩
        · exact a5 s h1 (by omega) h3

/-- The first place k of j, from k on, with a rest. -/
def blkG (f : Nat → Option (List Int)) : Nat → Nat → Option (List Int)
  | _, 0 => none
  | k, j + 1 => match f k with
    | some T => some ((k : Int) :: T)
    | none => blkG f (k + 1) j
/-- The first set of n further stations from k on that, with those before, has fewer movers than N. -/
def blkT (ls : List (List Int)) (N : Nat) : Nat → Nat → (Nat → Bool) → Option (List Int)
  | 0, _, P => if cntP P < N then some [] else none
  | n + 1, k, P => blkG (fun i => blkT ls N n (i + 1) (orP P (ls.getD i []))) k (ls.length - k)
def Inc (lo hi : Nat) (T : List Int) : Prop := T.Pairwise (· < ·) ∧ ∀ x ∈ T, (lo : Int) ≤ x ∧ x < (hi : Int)
theorem inc_cons {lo hi : Nat} {x : Int} {T : List Int} (h : Inc lo hi (x :: T)) : ∃ k : Nat, x = (k : Int) ∧ lo ≤ k ∧ k < hi ∧ Inc (k + 1) hi T := by
  obtain ⟨h1, h2⟩ := h
  rw [List.pairwise_cons] at h1
  have hx := h2 x (by simp)
  refine ⟨x.toNat, by omega, by omega, by omega, h1.2, fun y hy => ?_⟩
  have a1 := h1.1 y hy
  have a2 := h2 y (List.mem_cons_of_mem _ hy)
  omega
theorem inc_mk {k lo hi : Nat} {T : List Int} (h : Inc (k + 1) hi T) (h1 : lo ≤ k) (h2 : k < hi) : Inc lo hi ((k : Int) :: T) := by
  refine ⟨List.pairwise_cons.2 ⟨fun y hy => ?_, h.1⟩, fun y hy => ?_⟩
  · have := h.2 y hy; omega
  · rcases List.mem_cons.1 hy with rfl | hy
    · omega
    · have := h.2 y hy; omega
theorem blkG_none {f : Nat → Option (List Int)} : ∀ j k, blkG f k j = none → ∀ i, k ≤ i → i < k + j → f i = none := by
  intro j
  induction j with
  | zero => intro k _ i h1 h2; omega
  | succ j ih =>
    intro k h i h1 h2
    simp only [blkG] at h
    split at h
    · cases h
    · rename_i hf
      by_cases hi : i = k
      · subst hi; exact hf
      · exact ih (k + 1) h i (by omega) (by omega)
theorem blkG_some {f : Nat → Option (List Int)} : ∀ j k T, blkG f k j = some T → ∃ i T', k ≤ i ∧ i < k + j ∧ T = (i : Int) :: T' ∧ f i = some T' ∧ ∀ i', k ≤ i' → i' < i → f i' = none := by
  intro j
  induction j with
  | zero => intro k T h; simp [blkG] at h
  | succ j ih =>
    intro k T h
    simp only [blkG] at h
    split at h
    · rename_i T' hf
      exact ⟨k, T', Nat.le_refl _, by omega, (Option.some.inj h).symm, hf, fun i' h1 h2 => by omega⟩
    · rename_i hf
      obtain ⟨i, T', a1, a2, a3, a4, a5⟩ := ih (k + 1) T h
      refine ⟨i, T', by omega, by omega, a3, a4, fun i' h1 h2 => ?_⟩
      by_cases hi : i' = k
      · subst hi; exact hf
      · exact a5 i' (by omega) h2
theorem blkT_none (ls : List (List Int)) (N : Nat) : ∀ n k P, blkT ls N n k P = none → ∀ T, T.length = n → Inc k ls.length T → ¬ cntP (unP P (hitL ls T)) < N := by
  intro n
  induction n with
  | zero =>
    intro k P h T hT _
    obtain rfl := List.eq_nil_of_length_eq_zero hT
    have e : cntP (unP P (hitL ls [])) = cntP P := cntP_congr (fun i _ => by simp [unP, hitL])
    rw [e]
    simp only [blkT] at h
    split at h
    · cases h
    · assumption
  | succ n ih =>
    intro k P h T hT hI
    cases T with
    | nil => simp at hT
    | cons x T =>
      obtain ⟨i, rfl, h1, h2, h3⟩ := inc_cons hI
      simp only [blkT] at h
      have h4 := blkG_none _ _ h i h1 (by omega)
      have h5 := ih _ _ h4 T (by simpa using hT) h3
      rw [cntP_congr (fun j _ => hitL_cons ls i T P j)]
      exact h5
theorem blkT_some (ls : List (List Int)) (N : Nat) : ∀ n k P T, blkT ls N n k P = some T → T.length = n ∧ Inc k ls.length T ∧ cntP (unP P (hitL ls T)) < N ∧
    ∀ T', T'.length = n → Inc k ls.length T' → cntP (unP P (hitL ls T')) < N → ¬ cmpL T' T < 0 := by
  intro n
  induction n with
  | zero =>
    intro k P T h
    simp only [blkT] at h
    split at h
    · rename_i hc
      obtain rfl := Option.some.inj h
      have e : cntP (unP P (hitL ls [])) = cntP P := cntP_congr (fun i _ => by simp [unP, hitL])
      refine ⟨rfl, ⟨List.Pairwise.nil, fun x hx => by simp at hx⟩, by rw [e]; exact hc, fun T' h1 _ _ => ?_⟩
      obtain rfl := List.eq_nil_of_length_eq_zero h1
      simp [cmpL]
    · cases h
  | succ n ih =>
    intro k P T h
    simp only [blkT] at h
    obtain ⟨i, T1, a1, a2, rfl, a4, a5⟩ := blkG_some _ _ _ h
    obtain ⟨b1, b2, b3, b4⟩ := ih _ _ _ a4
    refine ⟨by simp [b1], inc_mk b2 a1 (by omega), by rw [cntP_congr (fun j _ => hitL_cons ls i T1 P j)]; exact b3, fun T' h1 h2 h3 => ?_⟩
    cases T' with
    | nil => simp at h1
    | cons x T' =>
      obtain ⟨i', rfl, c1, c2, c3⟩ := inc_cons h2
      rw [cntP_congr (fun j _ => hitL_cons ls i' T' P j)] at h3
      simp only [cmpL]
      rcases Nat.lt_trichotomy i' i with hi | hi | hi
      · exact absurd h3 (blkT_none ls N n _ _ (a5 i' c1 hi) T' (by simpa using h1) c3)
      · subst hi
        rw [if_neg (by omega), if_neg (by omega)]
        exact b4 T' (by simpa using h1) c3 h3
      · rw [if_neg (by omega), if_pos (by omega)]; omega
/-- The first set of the least size from N on, in j sizes. -/
def blkN (ls : List (List Int)) : Nat → Nat → Option (List Int)
  | _, 0 => none
  | N, j + 1 => match blkT ls N N 0 noneP with
    | some T => some T
    | none => blkN ls (N + 1) j
theorem blkN_none {ls : List (List Int)} : ∀ j N, blkN ls N j = none → ∀ M, N ≤ M → M < N + j → blkT ls M M 0 noneP = none := by
  intro j
  induction j with
  | zero => intro N _ M h1 h2; omega
  | succ j ih =>
    intro N h M h1 h2
    simp only [blkN] at h
    split at h
    · cases h
    · rename_i hf
      by_cases hi : M = N
      · subst hi; exact hf
      · exact ih (N + 1) h M (by omega) (by omega)
theorem blkN_some {ls : List (List Int)} : ∀ j N T, blkN ls N j = some T → ∃ M, N ≤ M ∧ M < N + j ∧ blkT ls M M 0 noneP = some T ∧ ∀ M', N ≤ M' → M' < M → blkT ls M' M' 0 noneP = none := by
  intro j
  induction j with
  | zero => intro N T h; simp [blkN] at h
  | succ j ih =>
    intro N T h
    simp only [blkN] at h
    split at h
    · rename_i T' hf
      exact ⟨N, Nat.le_refl _, by omega, by rw [hf]; exact h, fun i' h1 h2 => by omega⟩
    · rename_i hf
      obtain ⟨M, a1, a2, a3, a4⟩ := ih (N + 1) T h
      refine ⟨M, by omega, by omega, a3, fun i' h1 h2 => ?_⟩
      by_cases hi : i' = N
      · subst hi; exact hf
      · exact a4 i' (by omega) h2
theorem bits_exist (L : Nat) : ∀ S : List Int, (∀ x ∈ S, 0 ≤ x ∧ x < (L : Int)) → ∃ M, M < 2 ^ L ∧ ∀ i : Nat, i < L → M.testBit i = decide ((i : Int) ∈ S) := by
  intro S
  induction S with
  | nil => intro _; exact ⟨0, Nat.two_pow_pos _, fun i _ => by simp⟩
  | cons x S ih =>
    intro h
    obtain ⟨M, h1, h2⟩ := ih (fun y hy => h y (List.mem_cons_of_mem _ hy))
    obtain ⟨k, rfl⟩ := Int.eq_ofNat_of_zero_le (h x (by simp)).1
    have hk := (h (k : Int) (by simp)).2
    refine ⟨M ||| 2 ^ k, Nat.or_lt_two_pow h1 (Nat.pow_lt_pow_right (by omega) (by omega)), fun i hi => ?_⟩
    rw [Nat.testBit_or, h2 i hi, Nat.testBit_two_pow]
    by_cases e : k = i
    · subst e; simp
    · have : ¬ ((i : Int) = (k : Int)) := by omega
      simp [e, this]
theorem inc_bits {L : Nat} {S : List Int} (h : Inc 0 L S) (hne : S ≠ []) : ∃ s, 1 ≤ s ∧ s ≤ 2 ^ L - 1 ∧ selI s.testBit L = S := by
  obtain ⟨M, h1, h2⟩ := bits_exist L S (fun x hx => h.2 x hx)
  have e : selI M.testBit L = S := by
    refine inc_ext (selI_inc _ _) h.1 (fun x => ⟨fun hx => ?_, fun hx => ?_⟩)
    · obtain ⟨i, rfl, hi, hb⟩ := selI_mem.1 hx
      rw [h2 i hi] at hb
      exact of_decide_eq_true hb
    · have hb := h.2 x hx
      obtain ⟨i, rfl⟩ := Int.eq_ofNat_of_zero_le hb.1
      exact selI_mem.2 ⟨i, rfl, by omega, by rw [h2 i (by omega)]; exact decide_eq_true hx⟩
  refine ⟨M, ?_, by omega, e⟩
  rcases Nat.eq_zero_or_pos M with h0 | h0
  · subst h0
    exfalso
    apply hne
    rw [← e]
    unfold selI
    simp
  · exact h0
theorem selI_Inc (p : Nat → Bool) (L : Nat) : Inc 0 L (selI p L) := ⟨selI_inc p L, fun x hx => by obtain ⟨i, rfl, hi, _⟩ := selI_mem.1 hx; omega⟩
theorem blk_of {ls : List (List Int)} {T : List Int} : cntP (unP noneP (hitL ls T)) = cntP (hitL ls T) := cntP_congr (fun i _ => by simp [unP, noneP])
def blockedR (ls : List (List Int)) : List Int := bestS ls (2 ^ ls.length - 1)
theorem blocked_none {ls : List (List Int)} (h : blkN ls 1 ls.length = none) : blockedR ls = [] := by
  rcases Decidable.em (blockedR ls = []) with h0 | h0
  · exact h0
  · exfalso
    obtain ⟨⟨s, _, _, hs⟩, hb, _⟩ := (bestS_spec ls _).2 h0
    have hI : Inc 0 ls.length (blockedR ls) := by rw [show blockedR ls = _ from hs]; exact selI_Inc _ _
    have hl : (blockedR ls).length ≤ ls.length := by rw [show blockedR ls = _ from hs]; exact selI_len _ _
    have hp := List.length_pos_iff.2 h0
    have hn := blkN_none _ _ h (blockedR ls).length (by omega) (by omega)
    have := blkT_none ls _ _ _ _ hn _ rfl hI
    rw [blk_of] at this
    exact this (of_decide_eq_true hb)
theorem blocked_some {ls : List (List Int)} {T : List Int} (h : blkN ls 1 ls.length = some T) : blockedR ls = T ∧ T ≠ [] := by
  obtain ⟨N, a1, a2, a3, a4⟩ := blkN_some _ _ _ h
  obtain ⟨b1, b2, b3, b4⟩ := blkT_some ls N _ _ _ _ a3
  have hT : T ≠ [] := by rintro rfl; simp at b1; omega
  refine ⟨?_, hT⟩
  rw [blk_of] at b3
  have hTb : blkS ls T = true := by unfold blkS; rw [b1]; exact decide_eq_true b3
  obtain ⟨s, s1, s2, s3⟩ := inc_bits b2 hT
  have h0 : blockedR ls ≠ [] := fun e => by
    have := (bestS_spec ls _).1 e s s1 s2
    rw [s3, hTb] at this
    cases this
  obtain ⟨⟨s', _, _, hs⟩, hb, hmin⟩ := (bestS_spec ls _).2 h0
  have hm := hmin s s1 s2 (by rw [s3]; exact hTb)
  rw [s3] at hm
  change ¬ cmpT T (blockedR ls) < 0 at hm
  have hI : Inc 0 ls.length (blockedR ls) := by rw [show blockedR ls = _ from hs]; exact selI_Inc _ _
  have hl : (blockedR ls).length ≤ ls.length := by rw [show blockedR ls = _ from hs]; exact selI_len _ _
  have hp := List.length_pos_iff.2 h0
  have hc := of_decide_eq_true (show decide (cntP (hitL ls (blockedR ls)) < (blockedR ls).length) = true from hb)
  have hge : N ≤ (blockedR ls).length := by
    rcases Nat.lt_or_ge (blockedR ls).length N with h1 | h1
    · exfalso
      have hn := a4 (blockedR ls).length (by omega) h1
      have := blkT_none ls _ _ _ _ hn _ rfl hI
      rw [blk_of] at this
      exact this hc
    · exact h1
  unfold cmpT at hm
  rw [b1] at hm
  by_cases he : N < (blockedR ls).length
  · rw [if_pos he] at hm; omega
  · rw [if_neg he, if_neg (by omega)] at hm
    have hN : (blockedR ls).length = N := by omega
    have h5 := b4 _ hN hI (by rw [blk_of]; rw [hN] at hc; exact hc)
    have h6 := cmpL_anti T (blockedR ls)
    exact (cmpL_zero _ _ (by omega)).symm
end Go.Proofs.Ytgdigcnpjkkmfaa
