/-
  Plain facts on lists; no program, no memory. Insertion from the right into a list, and the stable sort by it. No program. (joined by pack.py: Pure Ins)
-/

namespace Go.Proofs.YtgcdgcidjjdhmaaGreatDoor
set_option linter.unusedVariables false
set_option linter.unusedSimpArgs false

theorem take_succ_of {α : Type} {l : List α} {k : Nat} {x : α} (h : l[k]? = some x) : l.take (k + 1) = l.take k ++ [x] := by
  rw [List.take_add_one, h]; rfl
theorem all_take_succ {α : Type} {l : List α} {k : Nat} {x : α} {p : α → Bool} (h : l[k]? = some x) : (l.take (k + 1)).all p = ((l.take k).all p && p x) := by
  rw [take_succ_of h]; simp
theorem all_false_at {α : Type} {l : List α} {k : Nat} {x : α} {p : α → Bool} (h : l[k]? = some x) (hp : p x = false) : l.all p = false := by
  rw [List.all_eq_false]
  exact ⟨x, List.mem_of_getElem? h, by simp [hp]⟩
end Go.Proofs.YtgcdgcidjjdhmaaGreatDoor

namespace Go.Proofs.YtgcdgcidjjdhmaaGreatDoor
set_option linter.unusedVariables false
set_option linter.unusedSimpArgs false

/-- x is put behind the first j of p, or further to the left, past all that are greater. -/
def insFrom (gt : Int → Int → Bool) (x : Int) (p : List Int) : Nat → List Int
  | 0 => x :: p
  | j + 1 => if gt (p.getD j 0) x then insFrom gt x p j else p.take (j + 1) ++ x :: p.drop (j + 1)
def insR (gt : Int → Int → Bool) (p : List Int) (x : Int) : List Int := insFrom gt x p p.length
def isort (gt : Int → Int → Bool) (l : List Int) : List Int := l.foldl (insR gt) []

theorem insFrom_perm (gt : Int → Int → Bool) (x : Int) (p : List Int) : ∀ j, (insFrom gt x p j).Perm (x :: p) := by
  intro j
  induction j with
  | zero => exact List.Perm.refl _
  | succ j ih =>
    unfold insFrom
    split
    · exact ih
    · have h : (p.take (j + 1) ++ x :: p.drop (j + 1)).Perm (x :: (p.take (j + 1) ++ p.drop (j + 1))) := List.perm_middle
      rwa [List.take_append_drop] at h
theorem insR_perm (gt : Int → Int → Bool) (p : List Int) (x : Int) : (insR gt p x).Perm (x :: p) := insFrom_perm gt x p _
theorem isort_foldl_perm (gt : Int → Int → Bool) : ∀ (l acc : List Int), (l.foldl (insR gt) acc).Perm (acc ++ l) := by
  intro l
  induction l with
  | nil => intro acc; simp
  | cons x l ih =>
    intro acc
    rw [List.foldl_cons]
    refine (ih _).trans ?_
    refine ((insR_perm gt acc x).append_right l).trans ?_
    exact (List.perm_middle (a := x) (l₁ := acc) (l₂ := l)).symm
theorem isort_perm (gt : Int → Int → Bool) (l : List Int) : (isort gt l).Perm l := by simpa [isort] using isort_foldl_perm gt l []
theorem isort_length (gt : Int → Int → Bool) (l : List Int) : (isort gt l).length = l.length := (isort_perm gt l).length_eq
theorem isort_snoc (gt : Int → Int → Bool) (l : List Int) (x : Int) : isort gt (l ++ [x]) = insR gt (isort gt l) x := by simp [isort]
theorem isort_one (gt : Int → Int → Bool) (d : List Int) : isort gt (d.take 1) ++ d.drop 1 = d := by
  cases d with
  | nil => rfl
  | cons a d => simp [isort, insR, insFrom]
/-- The place at which x stands after j steps. -/
def insAt (x : Int) (p : List Int) (j : Nat) : List Int := p.take j ++ x :: p.drop j
theorem insFrom_stop {gt : Int → Int → Bool} {x : Int} {p : List Int} {j : Nat} (h : j = 0 ∨ gt (p.getD (j - 1) 0) x = false) : insFrom gt x p j = insAt x p j := by
  cases j with
  | zero => simp [insFrom, insAt]
  | succ j =>
    rcases h with h | h
    · omega
    · simp at h
      unfold insFrom insAt
      rw [if_neg (by simp [h])]
theorem insFrom_go {gt : Int → Int → Bool} {x : Int} {p : List Int} {j : Nat} (h : gt (p.getD j 0) x = true) : insFrom gt x p (j + 1) = insFrom gt x p j := by
  rw [show insFrom gt x p (j + 1) = if gt (p.getD j 0) x then insFrom gt x p j else p.take (j + 1) ++ x :: p.drop (j + 1) from rfl, if_pos h]
theorem insAt_len {x : Int} {p : List Int} {j : Nat} : (insAt x p j).length = p.length + 1 := by
  unfold insAt
  rw [List.length_append, List.length_cons, List.length_take, List.length_drop]; omega
theorem insAt_get_self {x : Int} {p : List Int} {j : Nat} (h : j ≤ p.length) : (insAt x p j)[j]? = some x := by
  unfold insAt
  rw [List.getElem?_append_right (by rw [List.length_take]; omega), List.length_take, Nat.min_eq_left h]; simp
theorem insAt_get_left {x : Int} {p : List Int} {j : Nat} (h : j < p.length) : (insAt x p (j + 1))[j]? = some (p.getD j 0) := by
  unfold insAt
  rw [List.getElem?_append_left (by rw [List.length_take]; omega), List.getElem?_take, if_pos (by omega), List.getElem?_eq_getElem h]
  simp [List.getD, h]
/-- The exchange of two neighbours moves x one place to the left. -/
theorem insAt_swap {x : Int} {p : List Int} {j : Nat} (h : j < p.length) : ((insAt x p (j + 1)).set (j + 1) (p.getD j 0)).set j x = insAt x p j := by
  have hd : p.drop j = p[j] :: p.drop (j + 1) := List.drop_eq_getElem_cons h
  have ht : p.take (j + 1) = p.take j ++ [p[j]] := by rw [List.take_add_one, List.getElem?_eq_getElem h]; rfl
  have hg : p.getD j 0 = p[j] := by simp [List.getD, h]
  unfold insAt
  rw [hg, ht, hd, List.append_assoc]
  have hl : (p.take j).length = j := by rw [List.length_take]; omega
  rw [List.set_append_right (h := by omega), hl, List.set_append_right (h := by omega), hl]
  simp
end Go.Proofs.YtgcdgcidjjdhmaaGreatDoor
