/-
  Plain facts on lists; no program, no memory. Insertion from the right into a list, and the stable sort by it. No program. Hall's theorem for finite families, by Rado's way: whoever has two ways loses one. (joined by pack.py: Pure Ins Hall)
-/

namespace Go.Proofs.YthgegghdkoeofaaGreatDoor
set_option linter.unusedVariables false
set_option linter.unusedSimpArgs false

theorem take_succ_of {α : Type} {l : List α} {k : Nat} {x : α} (h : l[k]? = some x) : l.take (k + 1) = l.take k ++ [x] := by
  rw [List.take_add_one, h]; rfl
theorem all_take_succ {α : Type} {l : List α} {k : Nat} {x : α} {p : α → Bool} (h : l[k]? = some x) : (l.take (k + 1)).all p = ((l.take k).all p && p x) := by
  rw [take_succ_of h]; simp
theorem all_false_at {α : Type} {l : List α} {k : Nat} {x : α} {p : α → Bool} (h : l[k]? = some x) (hp : p x = false) : l.all p = false := by
  rw [List.all_eq_false]
  exact ⟨x, List.mem_of_getElem? h, by simp [hp]⟩
end Go.Proofs.YthgegghdkoeofaaGreatDoor

namespace Go.Proofs.YthgegghdkoeofaaGreatDoor
set_option linter.unusedVariables false
set_option linter.unusedSimpArgs false

/-- x is put behind the first j of p, or further to the left, past all that are greater. -/
def insFrom (gt : Int → Int → Bool) (x : Int) (p : List Int) : Nat → List Int
  | 0 => x :: p
  | j + 1 => if gt (p.getD j 0) x then insFrom gt x p j else p.take (j + 1) ++ x :: p.drop (j + 1)
def insR (gt : Int → Int → Bool) (p : List Int) (x : Int) : List Int := insFrom gt x p p.length
def isort (gt : Int → Int → Bool) (l : List Int) : List Int := l.foldl (insR gt) []

theorem insFrom_perm (gt : Int → Int → Bool) (x : Int) (p : List Int) : ∀ j, (insFrom gt x p j).Perm (x :: p) := by
  intro j
  induction j with
  | zero => exact List.Perm.refl _
  | succ j ih =>
    unfold insFrom
    split
    · exact ih
    · have h : (p.take (j + 1) ++ x :: p.drop (j + 1)).Perm (x :: (p.take (j + 1) ++ p.drop (j + 1))) := List.perm_middle
      rwa [List.take_append_drop] at h
theorem insR_perm (gt : Int → Int → Bool) (p : List Int) (x : Int) : (insR gt p x).Perm (x :: p) := insFrom_perm gt x p _
theorem isort_foldl_perm (gt : Int → Int → Bool) : ∀ (l acc : List Int), (l.foldl (insR gt) acc).Perm (acc ++ l) := by
  intro l
  induction l with
  | nil => intro acc; simp
  | cons x l ih =>
    intro acc
    rw [List.foldl_cons]
    refine (ih _).trans ?_
    refine ((insR_perm gt acc x).append_right l).trans ?_
    exact (List.perm_middle (a := x) (l₁ := acc) (l₂ := l)).symm
theorem isort_perm (gt : Int → Int → Bool) (l : List Int) : (isort gt l).Perm l := by simpa [isort] using isort_foldl_perm gt l []
theorem isort_length (gt : Int → Int → Bool) (l : List Int) : (isort gt l).length = l.length := (isort_perm gt l).length_eq
theorem isort_snoc (gt : Int → Int → Bool) (l : List Int) (x : Int) : isort gt (l ++ [x]) = insR gt (isort gt l) x := by simp [isort]
theorem isort_one (gt : Int → Int → Bool) (d : List Int) : isort gt (d.take 1) ++ d.drop 1 = d := by
  cases d with
  | nil => rfl
  | cons a d => simp [isort, insR, insFrom]
/-- The place at which x stands after j steps. -/
def insAt (x : Int) (p : List Int) (j : Nat) : List Int := p.take j ++ x :: p.drop j
theorem insFrom_stop {gt : Int → Int → Bool} {x : Int} {p : List Int} {j : Nat} (h : j = 0 ∨ gt (p.getD (j - 1) 0) x = false) : insFrom gt x p j = insAt x p j := by
  cases j with
  | zero => simp [insFrom, insAt]
  | succ j =>
    rcases h with h | h
    · omega
    · simp at h
      unfold insFrom insAt
      rw [if_neg (by simp [h])]
theorem insFrom_go {gt : Int → Int → Bool} {x : Int} {p : List Int} {j : Nat} (h : gt (p.getD j 0) x = true) : insFrom gt x p (j + 1) = insFrom gt x p j := by
  rw [show insFrom gt x p (j + 1) = if gt (p.getD j 0) x then insFrom gt x p j else p.take (j + 1) ++ x :: p.drop (j + 1) from rfl, if_pos h]
theorem insAt_len {x : Int} {p : List Int} {j : Nat} : (insAt x p j).length = p.length + 1 := by
  unfold insAt
  rw [List.length_append, List.length_cons, List.length_take, List.length_drop]; omega
theorem insAt_get_self {x : Int} {p : List Int} {j : Nat} (h : j ≤ p.length) : (insAt x p j)[j]? = some x := by
  unfold insAt
  rw [List.getElem?_append_right (by rw [List.length_take]; omega), List.length_take, Nat.min_eq_left h]; simp
theorem insAt_get_left {x : Int} {p : List Int} {j : Nat} (h : j < p.length) : (insAt x p (j + 1))[j]? = some (p.getD j 0) := by
  unfold insAt
  rw [List.getElem?_append_left (by rw [List.length_take]; omega), List.getElem?_take, if_pos (by omega), List.getElem?_eq_getElem h]
  simp [List.getD, h]
/-- The exchange of two neighbours moves x one place to the left. -/
theorem insAt_swap {x : Int} {p : List Int} {j : Nat} (h : j < p.length) : ((insAt x p (j + 1)).set (j + 1) (p.getD j 0)).set j x = insAt x p j := by
  have hd : p.drop j = p[j] :: p.drop (j + 1) := List.drop_eq_getElem_cons h
  have ht : p.take (j + 1) = p.take j ++ [p[j]] := by rw [List.take_add_one, List.getElem?_eq_getElem h]; rfl
  have hg : p.getD j 0 = p[j] := by simp [List.getD, h]
  unfold insAt
  rw [hg, ht, hd, List.append_assoc]
  have hl : (p.take j).length = j := by rw [List.length_take]; omega
  rw [List.set_append_right (h := by omega), hl, List.set_append_right (h := by omega), hl]
  simp
end Go.Proofs.YthgegghdkoeofaaGreatDoor

namespace Go.Proofs.YthgegghdkoeofaaGreatDoor
set_option linter.unusedVariables false
set_option linter.unusedSimpArgs false

def cn (p : Nat → Bool) : Nat → Nat
  | 0 => 0
  | n + 1 => cn p n + if p n = true then 1 else 0
theorem cn_mono {p q : Nat → Bool} : ∀ n, (∀ i, i < n → p i = true → q i = true) → cn p n ≤ cn q n := by
  intro n
  induction n with
  | zero => intro _; exact Nat.le_refl _
  | succ n ih =>
    intro h
    have h1 := ih (fun i hi => h i (by omega))
    have h2 := h n (by omega)
    simp only [cn]
    cases hp : p n with
    | true => rw [h2 hp]; simp; exact h1
    | false => simp; omega
theorem cn_congr {p q : Nat → Bool} (n : Nat) (h : ∀ i, i < n → p i = q i) : cn p n = cn q n :=
  Nat.le_antisymm (cn_mono n fun i hi e => by rw [← h i hi]; exact e) (cn_mono n fun i hi e => by rw [h i hi]; exact e)
theorem cn_uni (p q : Nat → Bool) : ∀ n, cn (fun i => p i || q i) n + cn (fun i => p i && q i) n = cn p n + cn q n := by
  intro n
  induction n with
  | zero => rfl
  | succ n ih =>
    simp only [cn]
    rcases Bool.eq_false_or_eq_true (p n) with h1 | h1 <;> rcases Bool.eq_false_or_eq_true (q n) with h2 | h2 <;> simp [h1, h2] <;> omega
theorem cn_none : ∀ n, cn (fun _ => false) n = 0 := by
  intro n; induction n with
  | zero => rfl
  | succ n ih => simp [cn, ih]
theorem cn_one (m : Nat) : ∀ n, cn (fun i => decide (i = m)) n = if m < n then 1 else 0 := by
  intro n
  induction n with
  | zero => simp [cn]
  | succ n ih =>
    simp only [cn, ih, decide_eq_true_eq]
    by_cases h : n = m
    · rw [if_neg (by omega), if_pos h, if_pos (by omega)]
    · rw [if_neg h]
      by_cases h2 : m < n
      · rw [if_pos h2, if_pos (by omega)]
      · rw [if_neg h2, if_neg (by omega)]
/-- A set without one. -/
def offB (p : Nat → Bool) (m : Nat) : Nat → Bool := fun i => p i && !decide (i = m)
theorem cn_off {p : Nat → Bool} {m n : Nat} (h : p m = true) (hm : m < n) : cn p n = cn (offB p m) n + 1 := by
  have h1 := cn_uni (offB p m) (fun i => decide (i = m)) n
  have h2 : cn (fun i => offB p m i || decide (i = m)) n = cn p n := cn_congr n fun i _ => by
    unfold offB
    by_cases e : i = m
    · subst e; simp [h]
    · simp [e]
  have h3 : cn (fun i => offB p m i && decide (i = m)) n = cn (fun _ => false) n := cn_congr n fun i _ => by
    unfold offB; by_cases e : i = m <;> simp [e]
  rw [h2, h3, cn_none, cn_one, if_pos hm] at h1
  omega
theorem cn_pos {p : Nat → Bool} : ∀ {n}, 0 < cn p n → ∃ i, i < n ∧ p i = true := by
  intro n
  induction n with
  | zero => intro h; simp [cn] at h
  | succ n ih =>
    intro h
    simp only [cn] at h
    cases hp : p n with
    | true => exact ⟨n, by omega, hp⟩
    | false =>
      rw [hp] at h
      obtain ⟨i, hi, h⟩ := ih (by simpa using h)
      exact ⟨i, by omega, h⟩
/-- Whoever is reached from S. -/
def nbB (A : Nat → Nat → Bool) (n : Nat) (S : Nat → Bool) (m : Nat) : Bool := (List.range n).any fun i => S i && A i m
theorem nbB_iff {A : Nat → Nat → Bool} {n : Nat} {S : Nat → Bool} {m : Nat} : nbB A n S m = true ↔ ∃ i, i < n ∧ S i = true ∧ A i m = true := by
  unfold nbB; simp [List.any_eq_true]
def offA (A : Nat → Nat → Bool) (i x : Nat) : Nat → Nat → Bool := fun j m => A j m && !(decide (j = i) && decide (m = x))
def totA (A : Nat → Nat → Bool) (M : Nat) : Nat → Nat
  | 0 => 0
  | n + 1 => totA A M n + cn (A n) M
theorem tot_mono {A B : Nat → Nat → Bool} {M : Nat} : ∀ n, (∀ i, i < n → cn (A i) M ≤ cn (B i) M) → totA A M n ≤ totA B M n := by
  intro n
  induction n with
  | zero => intro _; exact Nat.le_refl _
  | succ n ih => intro h; simp only [totA]; exact Nat.add_le_add (ih fun i hi => h i (by omega)) (h n (by omega))
theorem tot_less {A B : Nat → Nat → Bool} {M : Nat} : ∀ n, (∀ i, i < n → cn (A i) M ≤ cn (B i) M) → (∃ i, i < n ∧ cn (A i) M < cn (B i) M) → totA A M n < totA B M n := by
  intro n
  induction n with
  | zero => rintro _ ⟨i, hi, _⟩; omega
  | succ n ih =>
    rintro h ⟨i, hi, hl⟩
    simp only [totA]
    have h1 := h n (by omega)
    by_cases e : i = n
    · subst e
      have := tot_mono i (fun j hj => h j (by omega))
      omega
    · have := ih (fun j hj => h j (by omega)) ⟨i, by omega, hl⟩
      omega
theorem off_sub {A : Nat → Nat → Bool} {i x j m : Nat} (h : offA A i x j m = true) : A j m = true := by
  unfold offA at h; simp only [Bool.and_eq_true] at h; exact h.1
theorem off_tot {A : Nat → Nat → Bool} {i x n M : Nat} (hi : i < n) (hx : x < M) (h : A i x = true) : totA (offA A i x) M n < totA A M n := by
  refine tot_less n (fun j _ => cn_mono M fun m _ e => off_sub e) ⟨i, hi, ?_⟩
  rw [cn_off h hx]
  have : cn (offA A i x i) M = cn (offB (A i) x) M := cn_congr M fun m _ => by unfold offA offB; simp
  omega
def HallB (A : Nat → Nat → Bool) (n M : Nat) : Prop := ∀ S : Nat → Bool, cn S n ≤ cn (nbB A n S) M
theorem off_hall {A : Nat → Nat → Bool} {n M i x y : Nat} (hA : HallB A n M) (hi : i < n) (hxy : x ≠ y) (h1 : ¬ HallB (offA A i x) n M) (h2 : ¬ HallB (offA A i y) n M) : False := by
  have key : ∀ z, ¬ HallB (offA A i z) n M → ∃ S : Nat → Bool, S i = true ∧ cn (nbB (offA A i z) n S) M < cn S n := by
    intro z hz
    unfold HallB at hz
    obtain ⟨S, hS⟩ := Classical.not_forall.1 hz
    refine ⟨S, ?_, by omega⟩
    cases hSi : S i with
    | true => rfl
    | false =>
      exfalso
      have := hA S
      have e : cn (nbB (offA A i z) n S) M = cn (nbB A n S) M := cn_congr M fun m _ => by
        rw [Bool.eq_iff_iff, nbB_iff, nbB_iff]
        constructor
        · rintro ⟨j, hj, hs, ha⟩; exact ⟨j, hj, hs, off_sub ha⟩
        · rintro ⟨j, hj, hs, ha⟩
          refine ⟨j, hj, hs, ?_⟩
          have : j ≠ i := by rintro rfl; rw [hSi] at hs; cases hs
          unfold offA; simp [ha, this]
      omega
  obtain ⟨S, s1, s2⟩ := key x h1
  obtain ⟨T, t1, t2⟩ := key y h2
  have u1 := cn_uni S T n
  have u2 := cn_uni (nbB (offA A i x) n S) (nbB (offA A i y) n T) M
  have u3 := hA (fun j => S j || T j)
  have u4 := hA (offB (fun j => S j && T j) i)
  have u5 : cn (fun j => S j && T j) n = cn (offB (fun j => S j && T j) i) n + 1 := cn_off (by simp [s1, t1]) hi
  have u6 : cn (nbB A n (fun j => S j || T j)) M ≤ cn (fun m => nbB (offA A i x) n S m || nbB (offA A i y) n T m) M := cn_mono M fun m _ hm => by
    obtain ⟨j, hj, hs, ha⟩ := nbB_iff.1 hm
    rw [Bool.or_eq_true, nbB_iff, nbB_iff]
    by_cases e : j = i
    · subst e
      by_cases em : m = x
      · exact .inr ⟨j, hj, t1, by unfold offA; have : m ≠ y := by omega
                                  simp [ha, this]⟩
      · exact .inl ⟨j, hj, s1, by unfold offA; simp [ha, em]⟩
    · rw [Bool.or_eq_true] at hs
      rcases hs with hs | hs
      · exact .inl ⟨j, hj, hs, by unfold offA; simp [ha, e]⟩
      · exact .inr ⟨j, hj, hs, by unfold offA; simp [ha, e]⟩
  have u7 : cn (nbB A n (offB (fun j => S j && T j) i)) M ≤ cn (fun m => nbB (offA A i x) n S m && nbB (offA A i y) n T m) M := cn_mono M fun m _ hm => by
    obtain ⟨j, hj, hs, ha⟩ := nbB_iff.1 hm
    unfold offB at hs
    simp only [Bool.and_eq_true, Bool.not_eq_true', decide_eq_false_iff_not] at hs
    rw [Bool.and_eq_true, nbB_iff, nbB_iff]
    exact ⟨⟨j, hj, hs.1.1, by unfold offA; simp [ha, hs.2]⟩, ⟨j, hj, hs.1.2, by unfold offA; simp [ha, hs.2]⟩⟩
  omega
theorem rado (n M : Nat) : ∀ s A, totA A M n ≤ s → HallB A n M → ∃ f : Nat → Nat, (∀ i, i < n → f i < M ∧ A i (f i) = true) ∧ ∀ i j, i < n → j < n → f i = f j → i = j := by
  intro s
  induction s with
  | zero =>
    intro A hs hA
    -- every set is empty: so there is none
    by_cases hn : n = 0
    · subst hn; exact ⟨fun _ => 0, fun i hi => by omega, fun i j hi => by omega⟩
    · exfalso
      have h1 := hA (fun i => decide (i = 0))
      rw [cn_one, if_pos (by omega)] at h1
      obtain ⟨m, hm, hx⟩ := cn_pos h1
      obtain ⟨i, hi, hs0, ha⟩ := nbB_iff.1 hx
      have := off_tot hi hm ha
      omega
  | succ s ih =>
    intro A hs hA
    by_cases htwo : ∃ i x y, i < n ∧ x < M ∧ y < M ∧ x ≠ y ∧ A i x = true ∧ A i y = true
    · obtain ⟨i, x, y, hi, hx, hy, hxy, ax, ay⟩ := htwo
      have lift : ∀ z, z < M → A i z = true → HallB (offA A i z) n M → ∃ f : Nat → Nat, (∀ i, i < n → f i < M ∧ A i (f i) = true) ∧ ∀ i j, i < n → j < n → f i = f j → i = j := by
        intro z hz az hz2
        have := off_tot hi hz az
        obtain ⟨f, f1, f2⟩ := ih (offA A i z) (by omega) hz2
        exact ⟨f, fun j hj => ⟨(f1 j hj).1, off_sub (f1 j hj).2⟩, f2⟩
      by_cases h1 : HallB (offA A i x) n M
      · exact lift x hx ax h1
      · by_cases h2 : HallB (offA A i y) n M
        · exact lift y hy ay h2
        · exact (off_hall hA hi hxy h1 h2).elim
    · have one : ∀ i, ∃ m, i < n → m < M ∧ A i m = true := by
        intro i
        by_cases hi : i < n
        · have h1 := hA (fun j => decide (j = i))
          rw [cn_one, if_pos hi] at h1
          obtain ⟨m, hm, hx⟩ := cn_pos h1
          obtain ⟨j, hj, hs0, ha⟩ := nbB_iff.1 hx
          have := of_decide_eq_true hs0
          subst this
          exact ⟨m, fun _ => ⟨hm, ha⟩⟩
        · exact ⟨0, fun h => absurd h hi⟩
      refine ⟨fun i => Classical.choose (one i), fun i hi => Classical.choose_spec (one i) hi, fun i j hi hj e => ?_⟩
      obtain ⟨f, hf⟩ : ∃ f : Nat → Nat, (fun i => Classical.choose (one i)) = f := ⟨_, rfl⟩
      have f1 : ∀ i, i < n → f i < M ∧ A i (f i) = true := fun i hi => by rw [← hf]; exact Classical.choose_spec (one i) hi
      have e2 : f i = f j := by rw [← hf]; exact e
      rcases Decidable.em (i = j) with h | h
      · exact h
      · exfalso
        have h1 := hA (fun k => decide (k = i) || decide (k = j))
        have h2 := cn_uni (fun k => decide (k = i)) (fun k => decide (k = j)) n
        have h3 : cn (fun k => decide (k = i) && decide (k = j)) n = 0 := by
          rw [← cn_none n]
          refine cn_congr n fun k _ => ?_
          by_cases e1 : k = i
          · subst e1; simp [h]
          · simp [e1]
        rw [h3, cn_one, cn_one, if_pos hi, if_pos hj] at h2
        have h4 : cn (nbB A n (fun k => decide (k = i) || decide (k = j))) M ≤ cn (fun m => decide (m = f i)) M := cn_mono M fun m hm hx => by
          obtain ⟨k, hk, hs0, ha⟩ := nbB_iff.1 hx
          have hk2 : m = f k := by
            rcases Decidable.em (m = f k) with h5 | h5
            · exact h5
            · exact absurd ⟨k, m, f k, hk, hm, (f1 k hk).1, h5, ha, (f1 k hk).2⟩ htwo
          rw [Bool.or_eq_true, decide_eq_true_eq, decide_eq_true_eq] at hs0
          rcases hs0 with h6 | h6 <;> subst h6 <;> simp [hk2, e2]
        have h5 := (cn_one (f i) M)
        split at h5 <;> omega
/-- Distinct ones are no more than those that are reached. -/
theorem sdr_count {A : Nat → Nat → Bool} {n M : Nat} {f : Nat → Nat} (f1 : ∀ i, i < n → f i < M ∧ A i (f i) = true) (f2 : ∀ i j, i < n → j < n → f i = f j → i = j) (S : Nat → Bool) : cn S n ≤ cn (nbB A n S) M := by
  have key : ∀ k, k ≤ n → cn S k = cn (fun m => (List.range k).any fun i => S i && decide (f i = m)) M := by
    intro k
    induction k with
    | zero => intro _; simp [cn, cn_none]
    | succ k ih =>
      intro hk
      simp only [cn]
      rw [ih (by omega)]
      cases hS : S k with
      | false =>
        simp only [Bool.false_eq_true, if_false, Nat.add_zero]
        exact cn_congr M fun m _ => by simp [List.range_succ, hS]
      | true =>
        simp only [if_true]
        obtain ⟨hM, _⟩ := f1 k (by omega)
        rw [cn_off (p := fun m => (List.range (k + 1)).any fun i => S i && decide (f i = m)) (m := f k) (by simp [List.range_succ, hS]) hM]
        congr 1
        refine cn_congr M fun m _ => ?_
        rw [Bool.eq_iff_iff]
        simp only [List.any_eq_true, List.mem_range, Bool.and_eq_true, decide_eq_true_eq, offB, Bool.not_eq_true', decide_eq_false_iff_not]
        constructor
        · rintro ⟨i, hi, hs, rfl⟩
          exact ⟨⟨i, by omega, hs, rfl⟩, fun e => by have := f2 i k (by omega) (by omega) e; omega⟩
        · rintro ⟨⟨i, hi, hs, rfl⟩, hne⟩
          refine ⟨i, ?_, hs, rfl⟩
          have : i ≠ k := by rintro rfl; exact hne rfl
          omega
  rw [key n (Nat.le_refl _)]
  refine cn_mono M fun m _ hm => ?_
  rw [List.any_eq_true] at hm
  obtain ⟨i, hi, h⟩ := hm
  rw [List.mem_range] at hi
  rw [Bool.and_eq_true, decide_eq_true_eq] at h
  exact nbB_iff.2 ⟨i, hi, h.1, h.2 ▸ (f1 i hi).2⟩
end Go.Proofs.YthgegghdkoeofaaGreatDoor
