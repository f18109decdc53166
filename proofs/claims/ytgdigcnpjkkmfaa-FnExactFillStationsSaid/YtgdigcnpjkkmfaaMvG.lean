/-
  FillStations: the plain law.
-/
import Derived.Test.YtgdigcnpjkkmfaaMvN
namespace Go.Proofs.Ytgdigcnpjkkmfaa
open Go.RowKit

/-- Whether mover x may be chosen: free, and the rest can still be filled as often as wanted. -/
def mayP (rest : List (List Int)) (P : Nat → Bool) (left : Nat) (x : Int) : Bool := !(P x.toNat) && decide (1 + mostR rest (updP P x.toNat) = left)
def chooseR (rest : List (List Int)) (P : Nat → Bool) (left : Nat) : List Int → Int
  | [] => -1
  | x :: l => if mayP rest P left x = true then x else chooseR rest P left l
def fillR : List (List Int) → (Nat → Bool) → Nat → List Int
  | [], _, _ => []
  | l :: rest, P, left => if chooseR rest P left l < 0 then (-1) :: fillR rest P left else chooseR rest P left l :: fillR rest (updP P (chooseR rest P left l).toNat) (left - 1)
theorem fillR_len : ∀ (ls : List (List Int)) (P : Nat → Bool) (left : Nat), (fillR ls P left).length = ls.length := by
  intro ls
  induction ls with
  | nil => intro P left; rfl
  | cons l ls ih => intro P left; unfold fillR; split <;> simp [ih]
theorem choose_here {rest : List (List Int)} {P : Nat → Bool} {left : Nat} {l : List Int} {i : Nat} {x : Int} (h : l[i]? = some x) (hm : mayP rest P left x = true) : chooseR rest P left (l.drop i) = x := by
  have hi := (List.getElem?_eq_some_iff.1 h).1
  rw [List.drop_eq_getElem_cons hi]
  rw [List.getElem?_eq_getElem hi] at h
  rw [Option.some.inj h]
  simp only [chooseR]; rw [if_pos hm]
theorem choose_next {rest : List (List Int)} {P : Nat → Bool} {left : Nat} {l : List Int} {i : Nat} {x : Int} (h : l[i]? = some x) (hm : mayP rest P left x = false) : chooseR rest P left (l.drop i) = chooseR rest P left (l.drop (i + 1)) := by
  have hi := (List.getElem?_eq_some_iff.1 h).1
  rw [List.drop_eq_getElem_cons hi]
  rw [List.getElem?_eq_getElem hi] at h
  rw [Option.some.inj h]
  simp only [chooseR]; rw [if_neg (by rw [hm]; simp)]
theorem choose_end {rest : List (List Int)} {P : Nat → Bool} {left : Nat} {l : List Int} : chooseR rest P left (l.drop l.length) = -1 := by
  rw [List.drop_length]; rfl
/-- What is chosen is a mover, and one station less is wanted then. -/
theorem choose_some {rest : List (List Int)} {P : Nat → Bool} {left : Nat} : ∀ {l : List Int}, 0 ≤ chooseR rest P left l → chooseR rest P left l ∈ l ∧ 1 ≤ left := by
  intro l
  induction l with
  | nil => intro h; simp [chooseR] at h
  | cons x l ih =>
    intro h
    simp only [chooseR] at h ⊢
    by_cases hm : mayP rest P left x = true
    · rw [if_pos hm]
      refine ⟨by simp, ?_⟩
      unfold mayP at hm
      simp only [Bool.and_eq_true, decide_eq_true_eq] at hm
      omega
    · rw [if_neg hm] at h ⊢
      exact ⟨List.mem_cons_of_mem _ (ih h).1, (ih h).2⟩
theorem fillR_none {l : List Int} {rest : List (List Int)} {P : Nat → Bool} {left : Nat} (h : chooseR rest P left l = -1) : fillR (l :: rest) P left = (-1) :: fillR rest P left := by
  simp only [fillR]; rw [h]; rfl
theorem fillR_some {l : List Int} {rest : List (List Int)} {P : Nat → Bool} {left m : Nat} (h : chooseR rest P left l = (m : Int)) : fillR (l :: rest) P left = (m : Int) :: fillR rest (updP P m) (left - 1) := by
  simp only [fillR]; rw [h, if_neg (by omega), Int.toNat_natCast]
end Go.Proofs.Ytgdigcnpjkkmfaa
