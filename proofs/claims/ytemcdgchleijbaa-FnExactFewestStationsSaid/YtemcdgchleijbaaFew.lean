/-
  The fewest stations that cover all: both sides' search, in plain words, and that they find the same.
-/
import Derived.Test.YtemcdgchleijbaaBits
namespace Go.Proofs.Ytemcdgchleijbaa

/-- The first place from i on at which f finds something. -/
def tryFrom (f : Nat → Option (List Int)) : Nat → Nat → Option (List Int)
  | _, 0 => none
  | i, k + 1 => match f i with
    | some r => some ((i : Int) :: r)
    | none => tryFrom f (i + 1) k
theorem tryFrom_none {f : Nat → Option (List Int)} : ∀ (k i : Nat), tryFrom f i k = none → ∀ j, i ≤ j → j < i + k → f j = none := by
  intro k
  induction k with
  | zero => intro i _ j h1 h2; omega
  | succ k ih =>
    intro i h j h1 h2
    unfold tryFrom at h
    cases hf : f i with
    | some r => rw [hf] at h; simp at h
    | none =>
      rw [hf] at h
      rcases Nat.eq_or_lt_of_le h1 with e | e
      · rw [← e]; exact hf
      · exact ih (i + 1) h j (by omega) (by omega)
theorem tryFrom_congr {f g : Nat → Option (List Int)} : ∀ (k i : Nat), (∀ j, i ≤ j → j < i + k → f j = g j) → tryFrom f i k = tryFrom g i k := by
  intro k
  induction k with
  | zero => intro i _; rfl
  | succ k ih =>
    intro i h
    unfold tryFrom
    rw [h i (by omega) (by omega), ih (i + 1) (fun j h1 h2 => h j (by omega) (by omega))]
theorem tryFrom_len {f : Nat → Option (List Int)} {n : Nat} (hf : ∀ j r, f j = some r → r.length = n) : ∀ (k i : Nat) (r : List Int), tryFrom f i k = some r → r.length = n + 1 := by
  intro k
  induction k with
  | zero => intro i r h; simp [tryFrom] at h
  | succ k ih =>
    intro i r h
    unfold tryFrom at h
    cases hfi : f i with
    | some r' => rw [hfi] at h; simp at h; subst h; simp [hf i r' hfi]
    | none => rw [hfi] at h; exact ih _ _ h
def implS (sets : List Nat) (all : Nat) : Nat → Nat → Nat → Option (List Int)
  | 0, _, cov => if cov = all then some [] else none
  | left + 1, first, cov => tryFrom (fun i => implS sets all left (i + 1) (cov ||| sets.getD i 0)) first (sets.length - first)
def specS (sets : List Nat) (all : Nat) : Nat → Nat → Nat → Option (List Int)
  | 0, _, cov => if cov = all then some [] else none
  | left + 1, first, cov => if cov = all then none else tryFrom (fun i => specS sets all left (i + 1) (cov ||| sets.getD i 0)) first (sets.length - first)
theorem implS_len (sets : List Nat) (all : Nat) : ∀ (left first cov : Nat) (r : List Int), implS sets all left first cov = some r → r.length = left := by
  intro left
  induction left with
  | zero => intro first cov r h; unfold implS at h; split at h <;> simp at h; subst h; rfl
  | succ left ih => intro first cov r h; unfold implS at h; exact tryFrom_len (fun j r' h' => ih _ _ _ h') _ _ _ h
theorem specS_len (sets : List Nat) (all : Nat) : ∀ (left first cov : Nat) (r : List Int), specS sets all left first cov = some r → r.length = left := by
  intro left
  induction left with
  | zero => intro first cov r h; unfold specS at h; split at h <;> simp at h; subst h; rfl
  | succ left ih =>
    intro first cov r h
    unfold specS at h
    split at h
    · cases h
    · exact tryFrom_len (fun j r' h' => ih _ _ _ h') _ _ _ h
/-- Places from one on, increasing. -/
def Sel (N : Nat) : Nat → List Nat → Prop
  | _, [] => True
  | first, i :: e => first ≤ i ∧ i < N ∧ Sel N (i + 1) e
def coverS (sets : List Nat) (cov : Nat) (e : List Nat) : Nat := e.foldl (fun c i => c ||| sets.getD i 0) cov
theorem implS_none (sets : List Nat) (all : Nat) : ∀ (left first cov : Nat), implS sets all left first cov = none → ∀ e, Sel sets.length first e → e.length = left → coverS sets cov e ≠ all := by
  intro left
  induction left with
  | zero =>
    intro first cov h e _ hl
    have : e = [] := List.eq_nil_of_length_eq_zero hl
    subst this
    unfold implS at h
    intro hc
    have hc' : cov = all := hc
    rw [if_pos hc'] at h; cases h
  | succ left ih =>
    intro first cov h e hs hl
    cases e with
    | nil => simp at hl
    | cons i e =>
      obtain ⟨h1, h2, h3⟩ := hs
      unfold implS at h
      have := tryFrom_none _ _ h i h1 (by omega)
      exact ih _ _ this e h3 (by simpa using hl)
theorem spec_eq_impl (sets : List Nat) (all : Nat) : ∀ (left first cov : Nat), (∀ e, Sel sets.length first e → e.length < left → coverS sets cov e ≠ all) → specS sets all left first cov = implS sets all left first cov := by
  intro left
  induction left with
  | zero => intro first cov _; rfl
  | succ left ih =>
    intro first cov h
    have h0 : cov ≠ all := h [] trivial (by simp)
    unfold specS implS
    rw [if_neg h0]
    refine tryFrom_congr _ _ (fun j h1 h2 => ih _ _ (fun e he hl => ?_))
    exact h (j :: e) ⟨h1, by omega, he⟩ (by simp; omega)
/-- The first number from k on for which f finds something. -/
def firstN (f : Nat → Option (List Int)) : Nat → Nat → Option (List Int)
  | _, 0 => none
  | k, n + 1 => match f k with
    | some r => some r
    | none => firstN f (k + 1) n
theorem firstN_len {f : Nat → Option (List Int)} (hf : ∀ j r, f j = some r → r.length = j) : ∀ (n k : Nat) (r : List Int), firstN f k n = some r → r.length ≤ k + n := by
  intro n
  induction n with
  | zero => intro k r h; simp [firstN] at h
  | succ n ih =>
    intro k r h
    unfold firstN at h
    cases hfi : f k with
    | some r' => rw [hfi] at h; simp at h; subst h; rw [hf k r' hfi]; omega
    | none => rw [hfi] at h; have := ih _ _ h; omega
theorem few_eq (sets : List Nat) (all : Nat) : ∀ (n k : Nat), (∀ j, j < k → implS sets all j 0 0 = none) → firstN (fun j => specS sets all j 0 0) k n = firstN (fun j => implS sets all j 0 0) k n := by
  intro n
  induction n with
  | zero => intro k _; rfl
  | succ n ih =>
    intro k h
    have e : specS sets all k 0 0 = implS sets all k 0 0 := spec_eq_impl sets all k 0 0 (fun e he hl => implS_none sets all e.length 0 0 (h _ hl) e he rfl)
    unfold firstN
    rw [e]
    cases hk : implS sets all k 0 0 with
    | some r => rfl
    | none =>
      show firstN _ (k + 1) n = firstN _ (k + 1) n
      refine ih (k + 1) (fun j hj => ?_)
      rcases Nat.lt_or_ge j k with h1 | h1
      · exact h j h1
      · obtain rfl : j = k := by omega
        exact hk
def optL : Option (List Int) → List Int × Bool
  | none => ([], false)
  | some l => (l, true)
def setsL (m : Nat) (ar : List Arc) (a : Int) : List Nat := (List.range m).map (reachM m ar a)
theorem setsL_len (m : Nat) (ar : List Arc) (a : Int) : (setsL m ar a).length = m := by simp [setsL]
theorem setsL_get {m : Nat} {ar : List Arc} {a : Int} {n : Nat} (h : n < m) : (setsL m ar a).getD n 0 = reachM m ar a n := by simp [setsL, List.getD, h]
theorem few_all (m : Nat) (ar : List Arc) (a : Int) (hm : 1 ≤ m) (n : Nat) : firstN (fun j => specS (setsL m ar a) (2 ^ m - 1) j 0 0) 1 n = firstN (fun j => implS (setsL m ar a) (2 ^ m - 1) j 0 0) 1 n := by
  refine few_eq _ _ n 1 (fun j hj => ?_)
  obtain rfl : j = 0 := by omega
  unfold implS
  rw [if_neg]
  have : 2 ^ 1 ≤ 2 ^ m := Nat.pow_le_pow_right (by omega) hm
  omega
end Go.Proofs.Ytemcdgchleijbaa
