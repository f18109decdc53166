/-
  Times of attendance of stations: the least travel time from one of them, on both sides.
-/
import Derived.Test.YtjogndeodgibfaaDoorTimesS
namespace Go.Proofs.YtjogndeodgibfaaDoor
open Go.RowKit

def pickT (o x : Int) : Int := if 0 ≤ x ∧ (o < 0 ∨ x < o) then x else o
def mergeT (d e : List Int) : List Int := List.zipWith pickT d e
def coverL (n : Nat) (ar : List Arc) (q : List Int) : List Int := q.foldl (fun d s => mergeT d (distT n ar s.toNat)) (List.replicate n (-1))
def mixT (d e : List Int) (j : Nat) : List Int := (mergeT d e).take j ++ d.drop j
theorem distT_len (n : Nat) (ar : List Arc) (s : Nat) : (distT n ar s).length = n := by unfold distT; rw [iterT_len, startT_len]
theorem mergeT_len {d e : List Int} {n : Nat} (hd : d.length = n) (he : e.length = n) : (mergeT d e).length = n := by unfold mergeT; simp [hd, he]
theorem mixT_zero (d e : List Int) : mixT d e 0 = d := by simp [mixT]
theorem mixT_full {d e : List Int} {n : Nat} (hd : d.length = n) (he : e.length = n) : mixT d e n = mergeT d e := by
  unfold mixT; rw [List.take_of_length_le (by rw [mergeT_len hd he]; omega), List.drop_eq_nil_of_le (by omega), List.append_nil]
theorem mixT_len {d e : List Int} {n j : Nat} (hd : d.length = n) (he : e.length = n) (hj : j ≤ n) : (mixT d e j).length = n := by
  unfold mixT; rw [List.length_append, List.length_take, mergeT_len hd he, List.length_drop]; omega
theorem mixT_getD {d e : List Int} {n j : Nat} (hd : d.length = n) (he : e.length = n) (hj : j < n) : (mixT d e j).getD j 0 = d.getD j 0 := by
  unfold mixT
  simp only [List.getD]
  rw [List.getElem?_append_right (by rw [List.length_take, mergeT_len hd he]; omega), List.length_take, mergeT_len hd he, List.getElem?_drop]
  congr 2; omega
theorem mixT_set {d e : List Int} {n j : Nat} (hd : d.length = n) (he : e.length = n) (hj : j < n) : (mixT d e j).set j (pickT (d.getD j 0) (e.getD j 0)) = mixT d e (j + 1) := by
  have hm : (mergeT d e)[j]? = some (pickT (d.getD j 0) (e.getD j 0)) := by
    unfold mergeT
    simp [List.getElem?_zipWith, List.getD, List.getElem?_eq_getElem (show j < d.length by omega), List.getElem?_eq_getElem (show j < e.length by omega)]
  unfold mixT
  have hl : ((mergeT d e).take j).length = j := by rw [List.length_take, mergeT_len hd he]; omega
  rw [List.set_append_right (h := by omega), hl, Nat.sub_self, List.drop_eq_getElem_cons (show j < d.length by omega), List.set_cons_zero, take_succ_of hm, List.append_assoc]
  rfl
theorem pick_yes {o x : Int} (h : 0 ≤ x ∧ (o < 0 ∨ x < o)) : pickT o x = x := by unfold pickT; rw [if_pos h]
theorem pick_no {o x : Int} (h : ¬ (0 ≤ x ∧ (o < 0 ∨ x < o))) : pickT o x = o := by unfold pickT; rw [if_neg h]
theorem mix_yes {d e : List Int} {n j : Nat} {o x : Int} (hd : d.length = n) (he : e.length = n) (hj : j < n) (ho : d.getD j 0 = o) (hx : e.getD j 0 = x) (h : 0 ≤ x ∧ (o < 0 ∨ x < o)) : (mixT d e j).set j x = mixT d e (j + 1) := by
  rw [← mixT_set hd he hj, ho, hx, pick_yes h]
theorem mix_no {d e : List Int} {n j : Nat} {o x : Int} (hd : d.length = n) (he : e.length = n) (hj : j < n) (ho : d.getD j 0 = o) (hx : e.getD j 0 = x) (h : ¬ (0 ≤ x ∧ (o < 0 ∨ x < o))) : mixT d e j = mixT d e (j + 1) := by
  rw [← mixT_set hd he hj, ho, hx, pick_no h]
  have h1 : (mixT d e j).getD j 0 = o := by rw [mixT_getD hd he hj, ho]
  have h2 : j < (mixT d e j).length := by rw [mixT_len hd he (by omega)]; exact hj
  rw [← h1]
  simp [List.getD, List.getElem?_eq_getElem h2]
theorem coverL_len (n : Nat) (ar : List Arc) (q : List Int) : (coverL n ar q).length = n := by
  unfold coverL
  have : ∀ (q d : List Int), d.length = n → (q.foldl (fun d s => mergeT d (distT n ar s.toNat)) d).length = n := by
    intro q
    induction q with
    | nil => intro d h; exact h
    | cons s q ih => intro d h; exact ih _ (mergeT_len h (distT_len n ar _))
  exact this q _ (by simp)
theorem coverL_snoc (n : Nat) (ar : List Arc) {q : List Int} {i : Nat} {s : Int} (h : q[i]? = some s) : coverL n ar (q.take (i + 1)) = mergeT (coverL n ar (q.take i)) (distT n ar s.toNat) := by
  unfold coverL; rw [take_succ_of h, List.foldl_append]; rfl

end Go.Proofs.YtjogndeodgibfaaDoor
