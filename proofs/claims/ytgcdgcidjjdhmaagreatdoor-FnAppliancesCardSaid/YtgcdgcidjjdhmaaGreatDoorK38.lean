/-
  Texts of fleets read back: plain laws (what each side's ParseFleet gives, that both give the same, and a fleet's text gives the fleet). The reference's l1Split and l1Read: what they give at every text. (joined by pack.py: ParP ParS)
-/
import Derived.Test.YtgcdgcidjjdhmaaGreatDoorK35
import Derived.Test.YtgcdgcidjjdhmaaGreatDoorK9
import Derived.Lib.SplitLaws
import Derived.Lib.AtoiAll
import Derived.Lib.ItoaNum
import Derived.Lib.Strings
import Derived.Test.YtgcdgcidjjdhmaaGreatDoorK7
import Derived.Test.YtgcdgcidjjdhmaaGreatDoorK6
import Derived.Test.YtgcdgcidjjdhmaaGreatDoorK8
namespace Go.Proofs.YtgcdgcidjjdhmaaGreatDoor
set_option linter.unusedVariables false
set_option linter.unusedSimpArgs false
open Go.RowKit

theorem ba_ext {a b : ByteArray} (h : a.data.toList = b.data.toList) : a = b := ByteArray.ext (Array.ext' h)
theorem idx_hit (c : UInt8) : ∀ (a b : List UInt8), c ∉ a → Lib.index (a ++ c :: b) [c] = (a.length : Int)
  | [], b, _ => by simp [Lib.index, List.isPrefixOf]
  | x :: a, b, h => by
    have hx : ¬ c = x := fun e => h (by simp [e])
    have ih := idx_hit c a b (fun e => h (List.mem_cons_of_mem _ e))
    show Lib.index (x :: (a ++ c :: b)) [c] = _
    unfold Lib.index
    rw [ih]
    have e1 : ([c].isPrefixOf (x :: (a ++ c :: b))) = false := by simp [List.isPrefixOf, hx]
    have e2 : ((a.length : Int) == -1) = false := by rw [beq_eq_false_iff_ne]; omega
    rw [e1, e2]
    simp
theorem idx_none (c : UInt8) : ∀ (a : List UInt8), c ∉ a → Lib.index a [c] = -1
  | [], _ => by simp [Lib.index]
  | x :: a, h => by
    have hx : ¬ c = x := fun e => h (by simp [e])
    have ih := idx_none c a (fun e => h (List.mem_cons_of_mem _ e))
    unfold Lib.index
    rw [ih]
    simp [List.isPrefixOf, hx]
theorem splitK_hit (c : UInt8) (save k : Nat) (a b : List UInt8) (h : c ∉ a) : Lib.splitK [c] save (k + 1) (a ++ c :: b) = (a ++ c :: b).take (a.length + save) :: Lib.splitK [c] save k b := by
  rw [Lib.splitK, idx_hit c a b h]
  have e2 : ((a.length : Int) == -1) = false := by rw [beq_eq_false_iff_ne]; omega
  have e3 : (a ++ c :: b).drop (a.length + 1) = b := by
    rw [show a ++ c :: b = (a ++ [c]) ++ b by simp, show a.length + 1 = (a ++ [c]).length by simp, List.drop_left]
  rw [e2, if_neg (by simp), Int.toNat_natCast, List.length_singleton, e3]

/-- A number's bytes; an appliance's. -/
def numL (n : Nat) : List UInt8 := (numB n).data.toList
def rowL (a : Ap) : List UInt8 := a.nm.data.toList ++ 47 :: (numL a.kd.toNat ++ 47 :: (numL a.nd.toNat ++ 47 :: (numL a.cr.toNat ++ 47 :: numL a.sv.toNat)))
def apL (a : Ap) : List UInt8 := rowL a ++ [59]
theorem apT_list (a : Ap) : (apT a).data.toList = apL a := by simp [apT, apL, rowL, numL]
theorem flT_take (l : List Ap) : ∀ k, k ≤ l.length → (flT l k).data.toList = (l.take k).flatMap apL
  | 0, _ => by simp [flT]
  | k + 1, h => by
    have hx : l[k]? = some l[k] := List.getElem?_eq_getElem (by omega)
    have ih := flT_take l k (by omega)
    have e : (flT l k ++ apT l[k]).data.toList = (flT l k).data.toList ++ (apT l[k]).data.toList := by simp
    rw [flT_succ hx, List.take_add_one, hx, e, ih, apT_list, List.flatMap_append]
    simp only [Option.toList_some, List.flatMap_cons, List.flatMap_nil, List.append_nil]
theorem flT_list (l : List Ap) : (flT l l.length).data.toList = l.flatMap apL := by rw [flT_take l _ (Nat.le_refl _), List.take_length]
theorem numL_dig : ∀ k, k < 14 → ∀ x ∈ numL k, 48 ≤ x.toNat ∧ x.toNat ≤ 57 := by decide
theorem numL_no (k : Nat) (h : k < 14) : (47 : UInt8) ∉ numL k ∧ (59 : UInt8) ∉ numL k :=
  ⟨fun e => by have := (numL_dig k h _ e).1; revert this; decide, fun e => by have := (numL_dig k h _ e).2; revert this; decide⟩
theorem name_no {s : ByteArray} (h : nameB s = true) : (47 : UInt8) ∉ s.data.toList ∧ (59 : UInt8) ∉ s.data.toList := by
  have hall : ∀ x ∈ s.data.toList, isLet x.toNat = true ∨ isDig x.toNat = true := by
    intro x hx
    obtain ⟨i, hi, rfl⟩ := List.getElem_of_mem hx
    have hi' : i < s.size := by rw [Lib.size_eq]; exact hi
    unfold nameB at h
    rw [Bool.and_eq_true, List.all_eq_true] at h
    have hc := h.1 i (List.mem_range.2 hi')
    rw [chB_at hi'] at hc
    have e : s[i] = s.data.toList[i] := by simp [ByteArray.getElem_eq_getElem_data]
    rw [← e]
    simp only [Bool.or_eq_true, Bool.and_eq_true] at hc
    rcases hc with hc | hc
    · exact .inl hc
    · exact .inr hc.1
  exact ⟨fun e => by have := hall _ e; revert this; decide, fun e => by have := hall _ e; revert this; decide⟩
theorem goodAp_name {a : Ap} (h : goodAp a = true) : nameB a.nm = true := by
  unfold goodAp at h
  simp only [Bool.and_eq_true] at h
  exact h.1.1.1.1
theorem row_no {a : Ap} (h : goodAp a = true) : (59 : UInt8) ∉ rowL a := by
  obtain ⟨g1, g2, g3, g4, g5, g6, g7, g8, g9⟩ := goodAp_true h
  have n0 := (name_no (goodAp_name h)).2
  have n1 := (numL_no a.kd.toNat (by omega)).2
  have n2 := (numL_no a.nd.toNat (by omega)).2
  have n3 := (numL_no a.cr.toNat (by omega)).2
  have n4 := (numL_no a.sv.toNat (by omega)).2
  have n5 : ¬ (59 : UInt8) = 47 := by decide
  unfold rowL
  simp [n0, n1, n2, n3, n4, n5]
theorem split_fleet : ∀ (l : List Ap), (∀ a ∈ l, goodAp a = true) → Lib.splitK [59] 1 l.length (l.flatMap apL) = l.map apL ++ [[]]
  | [], _ => rfl
  | a :: l, h => by
    have ih := split_fleet l (fun x hx => h x (List.mem_cons_of_mem _ hx))
    have e : (a :: l).flatMap apL = rowL a ++ 59 :: l.flatMap apL := by simp [apL]
    rw [e, List.length_cons, splitK_hit _ _ _ _ _ (row_no (h a List.mem_cons_self)), ih]
    have e2 : (rowL a ++ 59 :: l.flatMap apL).take ((rowL a).length + 1) = apL a := by
      rw [show rowL a ++ 59 :: l.flatMap apL = apL a ++ l.flatMap apL by simp [apL], show (rowL a).length + 1 = (apL a).length by simp [apL], List.take_left]
    rw [e2]
    rfl
theorem count_fleet : ∀ (l : List Ap), (∀ a ∈ l, goodAp a = true) → (l.flatMap apL).count 59 = l.length
  | [], _ => rfl
  | a :: l, h => by
    have ih := count_fleet l (fun x hx => h x (List.mem_cons_of_mem _ hx))
    have e : (a :: l).flatMap apL = rowL a ++ 59 :: l.flatMap apL := by simp [apL]
    rw [e, List.count_append, List.count_cons_self, ih, List.count_eq_zero_of_not_mem (row_no (h a List.mem_cons_self)), List.length_cons]
    omega

/-- What the program gives: a word's number; the words' numbers; a part's appliance; the parts' appliances; the fleet. -/
def rnV (s : List UInt8) : Int × Bool := match Lib.atoiAll s with
  | .ok v => (v, decide (Lib.itoa v = s))
  | .syntax => (0, false)
  | .range => (Lib.atoiSat s, false)
def rnStep (o : Option (List Int)) (x : ByteArray) : Option (List Int) := o.bind fun l => if (rnV x.data.toList).2 = true then some (l ++ [(rnV x.data.toList).1]) else none
def rnsV (p : List ByteArray) : Option (List Int) := p.foldl rnStep (some [])
def nameI (s : ByteArray) : ByteArray := ⟨(Lib.cut (Lib.trimSuffix s.data.toList [59]) [47]).1.toArray⟩
def restI (s : ByteArray) : ByteArray := ⟨(Lib.cut (Lib.trimSuffix s.data.toList [59]) [47]).2.1.toArray⟩
def wordsI (s : ByteArray) : List ByteArray := Lib.splitB ⟨#[47]⟩ 0 (Lib.countB s ⟨#[47]⟩) s
def rowI (s : ByteArray) : Option Ap := match rnsV (wordsI (restI s)) with
  | some [a, b, c, d] => some ⟨nameI s, a, b, c, d⟩
  | _ => none
def apStep (f : ByteArray → Option Ap) (o : Option (List Ap)) (x : ByteArray) : Option (List Ap) := o.bind fun l => (f x).map fun a => l ++ [a]
def apStepI (o : Option (List Ap)) (x : ByteArray) : Option (List Ap) := if x.size = 0 then o else apStep rowI o x
def partsI (s : ByteArray) : List ByteArray := Lib.splitB ⟨#[59]⟩ 1 (Lib.countB s ⟨#[59]⟩) s
def endV (s : ByteArray) (o : Option (List Ap)) : List Ap × Bool := match o with
  | none => ([], false)
  | some l => if goodFl l = true ∧ flT l l.length = s then (l, true) else ([], false)
def parI (s : ByteArray) : List Ap × Bool := endV s ((partsI s).foldl apStepI (some []))
theorem endV_or (s : ByteArray) (o : Option (List Ap)) : endV s o = ([], false) ∨ ∃ l, goodFl l = true ∧ flT l l.length = s ∧ endV s o = (l, true) := by
  unfold endV
  split
  · exact .inl rfl
  · split
    · rename_i l h
      exact .inr ⟨l, h.1, h.2, rfl⟩
    · exact .inl rfl
theorem endV_of {l : List Ap} (h : goodFl l = true) : endV (flT l l.length) (some l) = (l, true) := by simp [endV, h]
theorem itoa_num (k : Nat) (h : k < 14) : Lib.itoa (k : Int) = numL k := by
  unfold Lib.itoa numL numB
  rw [if_neg (by omega), Int.toNat_natCast]
  by_cases h1 : k < 10
  · rw [if_pos h1, Lib.decDigits_one h1]
  · rw [if_neg h1, Lib.decDigits, dif_neg h1, Lib.decDigits_one (by omega)]
    simp
theorem atoi_num : ∀ k, k < 14 → Lib.atoiAll (numL k) = .ok (k : Int) := by decide +kernel
theorem rnV_num (k : Nat) (h : k < 14) : rnV (numL k) = ((k : Int), true) := by
  unfold rnV
  rw [atoi_num k h]
  simp [itoa_num k h]
theorem words_of (x : List UInt8) : wordsI ⟨x.toArray⟩ = (Lib.splitK [47] 0 (x.count 47) x).map fun r => ⟨r.toArray⟩ := by
  have e := Lib.splitB_data ⟨#[47]⟩ 0 (x.count 47) ⟨x.toArray⟩
  have e1 : Lib.countB ⟨x.toArray⟩ ⟨#[47]⟩ = x.count 47 := Lib.count_one 47 x
  unfold wordsI
  rw [e1]
  rw [show (⟨#[47]⟩ : ByteArray).data.toList = [47] from rfl] at e
  rw [show (⟨x.toArray⟩ : ByteArray).data.toList = x from rfl] at e
  rw [← e, List.map_map]
  have : (fun r : List UInt8 => (⟨r.toArray⟩ : ByteArray)) ∘ (fun x : ByteArray => x.data.toList) = id := by
    funext r
    exact ba_ext (by simp)
  rw [this, List.map_id]
theorem nums_words (a b c d : Nat) (ha : a < 14) (hb : b < 14) (hc : c < 14) (hd : d < 14) :
    wordsI ⟨(numL a ++ 47 :: (numL b ++ 47 :: (numL c ++ 47 :: numL d))).toArray⟩ = [numB a, numB b, numB c, numB d] := by
  have n1 := (numL_no a ha).1
  have n2 := (numL_no b hb).1
  have n3 := (numL_no c hc).1
  have n4 := (numL_no d hd).1
  have hcnt : (numL a ++ 47 :: (numL b ++ 47 :: (numL c ++ 47 :: numL d))).count 47 = 3 := by
    rw [List.count_append, List.count_cons_self, List.count_append, List.count_cons_self, List.count_append, List.count_cons_self,
      List.count_eq_zero_of_not_mem n1, List.count_eq_zero_of_not_mem n2, List.count_eq_zero_of_not_mem n3, List.count_eq_zero_of_not_mem n4]
  rw [words_of, hcnt, splitK_hit _ _ _ _ _ n1, splitK_hit _ _ _ _ _ n2, splitK_hit _ _ _ _ _ n3]
  simp only [Lib.splitK, List.map_cons, List.map_nil, Nat.add_zero, List.take_left]
  rfl
theorem rns_nums (a b c d : Nat) (ha : a < 14) (hb : b < 14) (hc : c < 14) (hd : d < 14) : rnsV [numB a, numB b, numB c, numB d] = some [(a : Int), (b : Int), (c : Int), (d : Int)] := by
  have e : ∀ (l : List Int) (k : Nat), k < 14 → rnStep (some l) (numB k) = some (l ++ [(k : Int)]) := fun l k hk => by
    have := rnV_num k hk
    unfold numL at this
    unfold rnStep
    rw [Option.bind_some, this, if_pos rfl]
  unfold rnsV
  rw [List.foldl_cons, e _ _ ha, List.foldl_cons, e _ _ hb, List.foldl_cons, e _ _ hc, List.foldl_cons, e _ _ hd]
  rfl
theorem trim_row (r : List UInt8) : Lib.trimSuffix (r ++ [59]) [59] = r := by
  unfold Lib.trimSuffix Lib.hasSuffix
  rw [if_pos (by rw [List.isSuffixOf_iff_suffix]; exact List.suffix_append _ _)]
  simp
theorem cut_row (a b : List UInt8) (h : (47 : UInt8) ∉ a) : Lib.cut (a ++ 47 :: b) [47] = (a, b, true) := by
  unfold Lib.cut
  rw [idx_hit _ _ _ h, if_pos (by omega), Int.toNat_natCast, List.take_left, List.length_singleton]
  have e3 : (a ++ 47 :: b).drop (a.length + 1) = b := by
    rw [show a ++ 47 :: b = (a ++ [47]) ++ b by simp, show a.length + 1 = (a ++ [47]).length by simp, List.drop_left]
  rw [e3]
theorem rowI_of {a : Ap} (h : goodAp a = true) : rowI ⟨(apL a).toArray⟩ = some a := by
  obtain ⟨g1, g2, g3, g4, g5, g6, g7, g8, g9⟩ := goodAp_true h
  have n0 := (name_no (goodAp_name h)).1
  have e1 : Lib.cut (Lib.trimSuffix (⟨(apL a).toArray⟩ : ByteArray).data.toList [59]) [47] = (a.nm.data.toList, numL a.kd.toNat ++ 47 :: (numL a.nd.toNat ++ 47 :: (numL a.cr.toNat ++ 47 :: numL a.sv.toNat)), true) := by
    rw [show (⟨(apL a).toArray⟩ : ByteArray).data.toList = rowL a ++ [59] from rfl, trim_row]
    exact cut_row _ _ n0
  unfold rowI restI
  rw [e1]
  dsimp only
  rw [nums_words _ _ _ _ (by omega) (by omega) (by omega) (by omega), rns_nums _ _ _ _ (by omega) (by omega) (by omega) (by omega)]
  dsimp only
  unfold nameI
  rw [e1]
  obtain ⟨nm, kd, nd, cr, sv⟩ := a
  dsimp only at *
  congr 1
  rw [Int.toNat_of_nonneg g2, Int.toNat_of_nonneg g4, Int.toNat_of_nonneg (show 0 ≤ cr by omega), Int.toNat_of_nonneg g8]
theorem apL_size (a : Ap) : ¬ (⟨(apL a).toArray⟩ : ByteArray).size = 0 := by
  rw [Lib.size_eq]
  show ¬ (rowL a ++ [59]).length = 0
  simp
theorem rows_of : ∀ (l o : List Ap), (∀ a ∈ l, goodAp a = true) → (l.map fun a => (⟨(apL a).toArray⟩ : ByteArray)).foldl apStepI (some o) = some (o ++ l)
  | [], o, _ => by simp
  | a :: l, o, h => by
    have e : apStepI (some o) ⟨(apL a).toArray⟩ = some (o ++ [a]) := by
      unfold apStepI apStep
      rw [if_neg (apL_size a), rowI_of (h a List.mem_cons_self)]
      rfl
    rw [List.map_cons, List.foldl_cons, e, rows_of l _ (fun x hx => h x (List.mem_cons_of_mem _ hx))]
    simp
theorem partsI_of {l : List Ap} (h : ∀ a ∈ l, goodAp a = true) : partsI (flT l l.length) = (l.map fun a => (⟨(apL a).toArray⟩ : ByteArray)) ++ [⟨#[]⟩] := by
  have e := Lib.splitB_data ⟨#[59]⟩ 1 l.length (flT l l.length)
  have e1 : Lib.countB (flT l l.length) ⟨#[59]⟩ = l.length := by
    have : Lib.countB (flT l l.length) ⟨#[59]⟩ = (flT l l.length).data.toList.count 59 := Lib.count_one 59 _
    rw [this, flT_list, count_fleet l h]
  unfold partsI
  rw [e1]
  rw [show (⟨#[59]⟩ : ByteArray).data.toList = [59] from rfl, flT_list, split_fleet l h] at e
  have hm := congrArg (List.map fun r : List UInt8 => (⟨r.toArray⟩ : ByteArray)) e
  rw [List.map_map] at hm
  have : (fun r : List UInt8 => (⟨r.toArray⟩ : ByteArray)) ∘ (fun x : ByteArray => x.data.toList) = id := by
    funext r
    exact ba_ext (by simp)
  rw [this, List.map_id] at hm
  rw [hm]
  simp
theorem parI_of {l : List Ap} (h : goodFl l = true) : parI (flT l l.length) = (l, true) := by
  unfold parI
  rw [partsI_of (goodFl_true h).2, List.foldl_append, rows_of l [] (goodFl_true h).2]
  exact endV_of h

/-- What the reference gives. -/
def cutSt (c : UInt8) (st : List ByteArray × List UInt8) (x : UInt8) : List ByteArray × List UInt8 := if x = c then (st.1 ++ [⟨st.2.toArray⟩], []) else (st.1, st.2 ++ [x])
def cutRun (c : UInt8) (s : List UInt8) : List ByteArray × List UInt8 := s.foldl (cutSt c) ([], [])
def cutsB (c : UInt8) (s : List UInt8) : List ByteArray := (cutRun c s).1 ++ [⟨(cutRun c s).2.toArray⟩]
def rdStep (o : Option Nat) (x : UInt8) : Option Nat := o.bind fun n => if 48 ≤ x.toNat ∧ x.toNat ≤ 57 then some (10 * n + (x.toNat - 48)) else none
def readL (s : List UInt8) : Int := if 1 ≤ s.length ∧ s.length ≤ 6 ∧ ¬ (s.head? = some 48 ∧ 1 < s.length) then (match s.foldl rdStep (some 0) with | some n => (n : Int) | none => -1) else -1
def rowS (s : ByteArray) : Option Ap := match cutsB 47 s.data.toList with
  | [n, a, b, c, d] => some ⟨n, readL a.data.toList, readL b.data.toList, readL c.data.toList, readL d.data.toList⟩
  | _ => none
def parS (s : ByteArray) : List Ap × Bool := if 13 < (cutsB 59 s.data.toList).length then ([], false) else endV s ((cutsB 59 s.data.toList).dropLast.foldl (apStep rowS) (some []))
theorem cut_run (c : UInt8) : ∀ (a : List UInt8) (o : List ByteArray) (u : List UInt8), c ∉ a → a.foldl (cutSt c) (o, u) = (o, u ++ a)
  | [], o, u, _ => by simp
  | x :: a, o, u, h => by
    have hx : ¬ x = c := fun e => h (by simp [e])
    rw [List.foldl_cons, show cutSt c (o, u) x = (o, u ++ [x]) by unfold cutSt; rw [if_neg hx], cut_run c a _ _ (fun e => h (List.mem_cons_of_mem _ e))]
    simp
theorem cut_at (c : UInt8) (a b : List UInt8) (o : List ByteArray) (h : c ∉ a) : (a ++ c :: b).foldl (cutSt c) (o, []) = b.foldl (cutSt c) (o ++ [⟨a.toArray⟩], []) := by
  rw [List.foldl_append, cut_run c a _ _ h, List.foldl_cons]
  congr 1
  unfold cutSt
  rw [if_pos rfl]
  simp
theorem cut_fleet : ∀ (l : List Ap) (o : List ByteArray), (∀ a ∈ l, goodAp a = true) → (l.flatMap apL).foldl (cutSt 59) (o, []) = (o ++ l.map (fun a => (⟨(rowL a).toArray⟩ : ByteArray)), [])
  | [], o, _ => by simp
  | a :: l, o, h => by
    have e : (a :: l).flatMap apL = rowL a ++ 59 :: l.flatMap apL := by simp [apL]
    rw [e, cut_at _ _ _ _ (row_no (h a List.mem_cons_self)), cut_fleet l _ (fun x hx => h x (List.mem_cons_of_mem _ hx))]
    simp
theorem cut_row5 {a : Ap} (h : goodAp a = true) : cutsB 47 (rowL a) = [a.nm, numB a.kd.toNat, numB a.nd.toNat, numB a.cr.toNat, numB a.sv.toNat] := by
  obtain ⟨g1, g2, g3, g4, g5, g6, g7, g8, g9⟩ := goodAp_true h
  have n0 := (name_no (goodAp_name h)).1
  have n1 := (numL_no a.kd.toNat (by omega)).1
  have n2 := (numL_no a.nd.toNat (by omega)).1
  have n3 := (numL_no a.cr.toNat (by omega)).1
  have n4 := (numL_no a.sv.toNat (by omega)).1
  unfold cutsB cutRun rowL
  rw [cut_at _ _ _ _ n0, cut_at _ _ _ _ n1, cut_at _ _ _ _ n2, cut_at _ _ _ _ n3, cut_run _ _ _ _ n4]
  rfl
theorem readL_num : ∀ k, k < 14 → readL (numL k) = (k : Int) := by decide +kernel
theorem rowS_of {a : Ap} (h : goodAp a = true) : rowS ⟨(rowL a).toArray⟩ = some a := by
  obtain ⟨g1, g2, g3, g4, g5, g6, g7, g8, g9⟩ := goodAp_true h
  unfold rowS
  rw [show (⟨(rowL a).toArray⟩ : ByteArray).data.toList = rowL a from rfl, cut_row5 h]
  dsimp only
  have r1 := readL_num a.kd.toNat (by omega)
  have r2 := readL_num a.nd.toNat (by omega)
  have r3 := readL_num a.cr.toNat (by omega)
  have r4 := readL_num a.sv.toNat (by omega)
  unfold numL at r1 r2 r3 r4
  rw [r1, r2, r3, r4]
  obtain ⟨nm, kd, nd, cr, sv⟩ := a
  dsimp only at *
  congr 1
  rw [Int.toNat_of_nonneg g2, Int.toNat_of_nonneg g4, Int.toNat_of_nonneg (show 0 ≤ cr by omega), Int.toNat_of_nonneg g8]
theorem rowsS_of : ∀ (l o : List Ap), (∀ a ∈ l, goodAp a = true) → (l.map fun a => (⟨(rowL a).toArray⟩ : ByteArray)).foldl (apStep rowS) (some o) = some (o ++ l)
  | [], o, _ => by simp
  | a :: l, o, h => by
    have e : apStep rowS (some o) ⟨(rowL a).toArray⟩ = some (o ++ [a]) := by
      unfold apStep
      rw [rowS_of (h a List.mem_cons_self)]
      rfl
    rw [List.map_cons, List.foldl_cons, e, rowsS_of l _ (fun x hx => h x (List.mem_cons_of_mem _ hx))]
    simp
theorem parS_of {l : List Ap} (h : goodFl l = true) : parS (flT l l.length) = (l, true) := by
  have hg := goodFl_true h
  have e : cutsB 59 (flT l l.length).data.toList = l.map (fun a => (⟨(rowL a).toArray⟩ : ByteArray)) ++ [⟨#[]⟩] := by
    unfold cutsB cutRun
    rw [flT_list, cut_fleet l [] hg.2]
    rfl
  unfold parS
  rw [e, if_neg (by simp; omega), List.dropLast_concat, rowsS_of l [] hg.2]
  exact endV_of h
theorem parS_or (s : ByteArray) : parS s = ([], false) ∨ ∃ l, goodFl l = true ∧ flT l l.length = s ∧ parS s = (l, true) := by
  unfold parS
  split
  · exact .inl rfl
  · exact endV_or _ _
/-- Both give the same. -/
theorem par_same (s : ByteArray) : parI s = parS s := by
  rcases endV_or s ((partsI s).foldl apStepI (some [])) with h | ⟨l, hg, rfl, -⟩
  · rcases parS_or s with h' | ⟨l, hg, rfl, -⟩
    · rw [h']; exact h
    · rw [parI_of hg, parS_of hg]
  · rw [parI_of hg, parS_of hg]

/-- Sizes of parts. -/
theorem splitB_sizes (sep : ByteArray) (save : Nat) : ∀ (k : Nat) (s : ByteArray), ∀ x ∈ Lib.splitB sep save k s, x.size ≤ s.size
  | 0, s, x, h => by
    rw [Lib.splitB_zero, List.mem_singleton] at h
    rw [h]
    exact Nat.le_refl _
  | k + 1, s, x, h => by
    unfold Lib.splitB at h
    split at h
    · rw [List.mem_singleton] at h
      rw [h]
      exact Nat.le_refl _
    · rw [List.mem_cons] at h
      rcases h with rfl | h
      · rw [ByteArray.size_extract]; omega
      · have := splitB_sizes sep save k _ x h
        rw [ByteArray.size_extract] at this
        omega
theorem trim_le (s p : List UInt8) : (Lib.trimSuffix s p).length ≤ s.length := by
  unfold Lib.trimSuffix
  split
  · rw [List.length_take]; omega
  · exact Nat.le_refl _
theorem cut_le (s p : List UInt8) : (Lib.cut s p).1.length ≤ s.length ∧ (Lib.cut s p).2.1.length ≤ s.length := by
  unfold Lib.cut
  split
  · simp only [List.length_take, List.length_drop]; omega
  · exact ⟨Nat.le_refl _, Nat.zero_le _⟩
theorem nameI_size (s : ByteArray) : (nameI s).size ≤ s.size ∧ (restI s).size ≤ s.size := by
  have h1 := cut_le (Lib.trimSuffix s.data.toList [59]) [47]
  have h2 := trim_le s.data.toList [59]
  have e1 : (nameI s).size = (Lib.cut (Lib.trimSuffix s.data.toList [59]) [47]).1.length := by rw [Lib.size_eq]; simp [nameI]
  have e2 : (restI s).size = (Lib.cut (Lib.trimSuffix s.data.toList [59]) [47]).2.1.length := by rw [Lib.size_eq]; simp [restI]
  rw [Lib.size_eq s]
  omega
theorem rowI_size {s : ByteArray} {a : Ap} (h : rowI s = some a) : a.nm.size ≤ s.size := by
  unfold rowI at h
  split at h
  · obtain rfl := Option.some.inj h
    exact (nameI_size s).1
  · cases h
theorem cutRun_size (c : UInt8) : ∀ (s : List UInt8) (o : List ByteArray) (u : List UInt8) (n : Nat), (∀ x ∈ o, x.size ≤ n) → u.length + s.length ≤ n → (∀ x ∈ (s.foldl (cutSt c) (o, u)).1, x.size ≤ n) ∧ (s.foldl (cutSt c) (o, u)).2.length ≤ n
  | [], o, u, n, h, hu => ⟨h, by simpa using hu⟩
  | x :: s, o, u, n, h, hu => by
    rw [List.length_cons] at hu
    rw [List.foldl_cons]
    by_cases hx : x = c
    · rw [show cutSt c (o, u) x = (o ++ [⟨u.toArray⟩], []) by unfold cutSt; rw [if_pos hx]]
      refine cutRun_size c s _ _ n (fun y hy => ?_) (by simp; omega)
      rw [List.mem_append, List.mem_singleton] at hy
      rcases hy with hy | rfl
      · exact h y hy
      · rw [Lib.size_eq]
        show u.length ≤ n
        omega
    · rw [show cutSt c (o, u) x = (o, u ++ [x]) by unfold cutSt; rw [if_neg hx]]
      exact cutRun_size c s _ _ n h (by simp; omega)
theorem cutsB_size (c : UInt8) (s : List UInt8) : ∀ x ∈ cutsB c s, x.size ≤ s.length := by
  intro x hx
  have h := cutRun_size c s [] [] s.length (fun _ h => by cases h) (by simp)
  unfold cutsB cutRun at hx
  rw [List.mem_append, List.mem_singleton] at hx
  rcases hx with hx | rfl
  · exact h.1 x hx
  · rw [Lib.size_eq]
    exact h.2
theorem rowS_size {s : ByteArray} {a : Ap} (h : rowS s = some a) : a.nm.size ≤ s.size := by
  unfold rowS at h
  split at h
  · rename_i n a b c d e
    obtain rfl := Option.some.inj h
    have := cutsB_size 47 s.data.toList n (by rw [e]; exact List.mem_cons_self)
    rw [Lib.size_eq s]
    exact this
  · cases h
end Go.Proofs.YtgcdgcidjjdhmaaGreatDoor

namespace Go.Proofs.YtgcdgcidjjdhmaaGreatDoor
set_option linter.unusedVariables false
set_option linter.unusedSimpArgs false
open Go.RowKit

theorem strs_snoc7 (l : List ByteArray) (x : ByteArray) : strs (l ++ [x]) = strs l ++ [.string x] := by simp [strs]
theorem fold_to' {α β : Type} (f : β → α → β) (a : β) {p : List α} {k : Nat} {x : α} (hx : p[k]? = some x) : (p.take (k + 1)).foldl f a = f ((p.take k).foldl f a) x := by
  rw [List.take_add_one, hx]; simp
theorem byte_at {s : ByteArray} {k : Nat} (h : k < s.size) : s.data.toList[k]? = some s[k] := by
  have h' : k < s.data.toList.length := by rw [← Lib.size_eq]; exact h
  rw [List.getElem?_eq_getElem h']
  simp [ByteArray.getElem_eq_getElem_data]
theorem cut_hit {s : ByteArray} {c : UInt8} {l : List ByteArray} {k f : Nat} (hk : k < s.size) (hf : f ≤ k) (h : (s.data.toList.take k).foldl (cutSt c) ([], []) = (l, (s.data.toList.take k).drop f)) (hx : s[k] = c) :
    (s.data.toList.take (k + 1)).foldl (cutSt c) ([], []) = (l ++ [s.extract f k], (s.data.toList.take (k + 1)).drop (k + 1)) := by
  rw [fold_to' _ _ (byte_at hk), h]
  unfold cutSt
  rw [if_pos hx]
  have e : (⟨((s.data.toList.take k).drop f).toArray⟩ : ByteArray) = s.extract f k := ba_ext (by
    rw [Lib.extract_data, List.drop_take])
  have e2 : (s.data.toList.take (k + 1)).drop (k + 1) = [] := List.drop_eq_nil_of_le (by rw [List.length_take]; omega)
  rw [e2]
  show (l ++ [(⟨((s.data.toList.take k).drop f).toArray⟩ : ByteArray)], []) = _
  rw [e]
theorem cut_miss {s : ByteArray} {c : UInt8} {l : List ByteArray} {k f : Nat} (hk : k < s.size) (hf : f ≤ k) (h : (s.data.toList.take k).foldl (cutSt c) ([], []) = (l, (s.data.toList.take k).drop f)) (hx : ¬ s[k] = c) :
    (s.data.toList.take (k + 1)).foldl (cutSt c) ([], []) = (l, (s.data.toList.take (k + 1)).drop f) := by
  rw [fold_to' _ _ (byte_at hk), h]
  unfold cutSt
  rw [if_neg hx]
  have hl : (s.data.toList.take k).length = k := by
    have hsz := Lib.size_eq s
    rw [List.length_take]; omega
  rw [List.take_add_one, byte_at hk, List.drop_append_of_le_length (by omega)]
  rfl
theorem cut_end {s : ByteArray} {c : UInt8} {l : List ByteArray} {f : Nat} (hf : f ≤ s.size) (h : (s.data.toList.take s.size).foldl (cutSt c) ([], []) = (l, (s.data.toList.take s.size).drop f)) :
    cutsB c s.data.toList = l ++ [s.extract f s.size] := by
  have ht : s.data.toList.take s.size = s.data.toList := List.take_of_length_le (by rw [← Lib.size_eq]; exact Nat.le_refl _)
  rw [ht] at h
  unfold cutsB cutRun
  rw [h]
  have e : (⟨(s.data.toList.drop f).toArray⟩ : ByteArray) = s.extract f s.size := ba_ext (by
    rw [Lib.extract_data, List.take_of_length_le (by rw [List.length_drop, ← Lib.size_eq]; exact Nat.le_refl _)])
  rw [e]
set_option maxRecDepth 100000 in
set_option maxHeartbeats 2000000 in
theorem l1Split_c (s : ByteArray) (c : UInt8) (q : Int) (hq : (c.toNat : Int) = q) (w : World) (hs : s.size ≤ 1000) :
    Calls Tryz.prog 54 #[.string s, .int .u8 q] w (OwnSt (cutsB c s.data.toList) w) := by
  obtain ⟨i0, hi, hz0, hz1, hz2⟩ := info_parts Tryz.infoStr
  have HQ := Lib.hid hq
  clear hq
  go_enter Tryz.func54, Tryz.ntmps54
  go_wp2_with fail
  go_loopw [5, 6, 7] (fun vo vf vi wr => ∃ (k f : Nat) (l : List ByteArray), k ≤ s.size ∧ f ≤ k ∧ l.length ≤ k ∧ vi = .int .i64 k ∧ vf = .int .i64 f ∧ Hid ((s.data.toList.take k).foldl (cutSt c) ([], []) = (l, (s.data.toList.take k).drop f)) ∧ Hid (wr.ownsRow w.heap.size 9 1 vo l.length (strs l)) ∧ Hid (Below w.heap.size w wr)) (fun _ _ vi _ => s.size - (intOf vi).toNat)
  case atStart => exact ⟨0, 0, [], Nat.zero_le _, Nat.le_refl _, Nat.le_refl _, rfl, rfl, Lib.hid rfl, Lib.hid (World.ownsRow_nil _ _ _ _), Lib.hid (Below.refl _ _)⟩
  case round =>
    obtain ⟨k, f, l, hk, hf, hl, rfl, rfl, HF, HO, HB⟩ := hrel
    have hsw := HB.out.size
    by_cases hlt : k < s.size
    · have hn256 : s[k].toNat < 256 := UInt8.toNat_lt _
      have k0 : (0 : Int) ≤ (k : Int) := by omega
      have k1 : (k : Int) < (s.size : Int) := by omega
      have f0 : (0 : Int) ≤ (f : Int) := by omega
      have f1 : (f : Int) ≤ (k : Int) := by omega
      have k2 : (k : Int) ≤ (s.size : Int) := by omega
      by_cases hx : s[k] = c
      · have HF2 := Lib.hid (cut_hit hlt hf HF.out hx)
        have hn : (s[k].toNat : Int) = q := by rw [hx]; exact HQ.out
        have he : ((s[k].toNat : Int) == q) = true := by rw [hn]; exact beq_self_eq_true _
        clear hx hn
        go_wp2_with (at_builtin; go_must (refine wpList_app_rd _ rfl _ _ 65 rfl w.heap.size 9 i0 (.string ⟨#[]⟩) 1 16 Tryz.underlying65 hi hz0 hz1 hz2 rfl (by decide) _ _ _ rfl (HO.out.alloc _) _ 1 [.string (s.extract f k)] rfl (rd_new _ (by omega) (by omega) (by rw [maxLen_eq]; omega)) rfl (by intro u hu; simp at hu; rcases hu with rfl; rfl) (by rw [maxLen_eq]; omega) (by omega) (by simp; omega) ?_); intro v7 w7 hown7 hgrow7 _)
        have HN7 : Hid (w7.ownsRow w.heap.size 9 1 v7 (l ++ [s.extract f k]).length (strs (l ++ [s.extract f k]))) := Lib.hid (by rw [strs_snoc7, List.length_append]; exact hown7)
        have HB7 : Hid (Below w.heap.size w w7) := Lib.hid (bel_grown (bel_al HB.out _) hgrow7 (fun g e => (HO.out.lt g e).1))
        exact ⟨⟨k + 1, k + 1, l ++ [s.extract f k], by omega, by omega, by simp; omega, by go_num, by go_num, HF2, HN7, HB7⟩, by simp [intOf]; omega⟩
      · have HF2 := Lib.hid (cut_miss hlt hf HF.out hx)
        have he : ((s[k].toNat : Int) == q) = false := beq_false_of_ne (fun e => hx (UInt8.toNat_inj.1 (by have := HQ.out; omega)))
        clear hx
        go_wp2
        exact ⟨⟨k + 1, f, l, by omega, by omega, by omega, by go_num, rfl, HF2, HO, HB⟩, by simp [intOf]; omega⟩
    · obtain rfl : k = s.size := by omega
      have HE := Lib.hid (cut_end hf HF.out)
      have f0 : (0 : Int) ≤ (f : Int) := by omega
      have f1 : (f : Int) ≤ (s.size : Int) := by omega
      go_wp2_with (at_builtin; go_must (refine wpList_app_rd _ rfl _ _ 65 rfl w.heap.size 9 i0 (.string ⟨#[]⟩) 1 16 Tryz.underlying65 hi hz0 hz1 hz2 rfl (by decide) _ _ _ rfl (HO.out.alloc _) _ 1 [.string (s.extract f s.size)] rfl (rd_new _ (by omega) (by omega) (by rw [maxLen_eq]; omega)) rfl (by intro u hu; simp at hu; rcases hu with rfl; rfl) (by rw [maxLen_eq]; omega) (by omega) (by simp; omega) ?_); intro v7 w7 hown7 hgrow7 _)
      go_ret
      rw [HE.out]
      refine ⟨_, rfl, ?_, bel_grown (bel_al HB.out _) hgrow7 (fun g e => (HO.out.lt g e).1)⟩
      rw [strs_snoc7, List.length_append]
      exact hown7
theorem rdStep_yes {m n : Nat} {x : UInt8} (hx : x.toNat = n) (h0 : 48 ≤ n) (h1 : n ≤ 57) : rdStep (some m) x = some (10 * m + (n - 48)) := by unfold rdStep; rw [Option.bind_some, hx, if_pos ⟨h0, h1⟩]
theorem rdStep_fail {m n : Nat} {x : UInt8} (hx : x.toNat = n) (h : n < 48 ∨ 57 < n) : rdStep (some m) x = none := by unfold rdStep; rw [Option.bind_some, hx, if_neg (by omega)]
theorem fold_over' {α β : Type} (f : β → α → β) (a : β) (p : List α) (k : Nat) : p.foldl f a = (p.drop k).foldl f ((p.take k).foldl f a) := by
  rw [← List.foldl_append, List.take_append_drop]
theorem rd_dead : ∀ p : List UInt8, p.foldl rdStep none = none
  | [] => rfl
  | x :: p => by rw [List.foldl_cons, show rdStep none x = none from rfl, rd_dead p]
theorem rd_stop {p : List UInt8} {k : Nat} {x : UInt8} (hx : p[k]? = some x) (hn : rdStep ((p.take k).foldl rdStep (some 0)) x = none) : p.foldl rdStep (some 0) = none := by
  rw [fold_over' rdStep (some 0) p (k + 1), fold_to' rdStep (some 0) hx, hn, rd_dead]
theorem readL_len {s : ByteArray} (h : s.size = 0 ∨ 6 < s.size) : readL s.data.toList = -1 := by
  have := Lib.size_eq s
  unfold readL
  rw [if_neg (by omega)]
theorem readL_zero {s : ByteArray} (h : 1 < s.size) (h0 : s[0].toNat = 48) : readL s.data.toList = -1 := by
  have hb := byte_at (s := s) (k := 0) (by omega)
  have e : s[0] = 48 := UInt8.toNat_inj.1 (by rw [h0]; rfl)
  have := Lib.size_eq s
  unfold readL
  rw [if_neg (fun k => k.2.2 ⟨by rw [List.head?_eq_getElem?, hb, e], by omega⟩)]
theorem readL_go {s : ByteArray} (h1 : 1 ≤ s.size) (h6 : s.size ≤ 6) (h0 : ¬ (s[0].toNat = 48 ∧ 1 < s.size)) : readL s.data.toList = match s.data.toList.foldl rdStep (some 0) with | some n => (n : Int) | none => -1 := by
  have hb := byte_at (s := s) (k := 0) (by omega)
  have := Lib.size_eq s
  unfold readL
  rw [if_pos ⟨by omega, by omega, fun k => h0 ⟨by
    have h2 := k.1
    rw [List.head?_eq_getElem?, hb] at h2
    rw [Option.some.inj h2]
    rfl, by omega⟩⟩]
  all_goals rfl
set_option maxRecDepth 100000 in
set_option maxHeartbeats 2000000 in
theorem l1Read_c (s : ByteArray) (w : World) (hs : s.size ≤ 1000) :
    Calls Tryz.prog 55 #[.string s] w fun e w' => e = .returned (.int .i64 (readL s.data.toList)) ∧ w = w' := by
  by_cases hlen : s.size = 0 ∨ 6 < s.size
  · have HE := Lib.hid (readL_len hlen)
    have hin : inB (s.size : Int) 1 6 = false := by simp [inB]; omega
    have HI := Lib.hid hin
    clear hin hlen
    go_enter Tryz.func55, Tryz.ntmps55
    go_wp2_with fail
    refine (l1In_c (s.size : Int) 1 6 _).mono ?_; rw [HI.out]; rintro e w1 ⟨rfl, rfl⟩
    go_wp2
    go_ret
    rw [HE.out]
    exact ⟨rfl, rfl⟩
  · have h1 : 1 ≤ s.size := by omega
    have h6 : s.size ≤ 6 := by omega
    clear hlen
    have hin : inB (s.size : Int) 1 6 = true := inB_of (by omega) (by omega)
    have HI := Lib.hid hin
    clear hin
    have k1 : (0 : Int) < (s.size : Int) := by omega
    obtain ⟨n0, hn0⟩ : ∃ n, s[0].toNat = n := ⟨_, rfl⟩
    by_cases hz : n0 = 48 ∧ 1 < s.size
    · have HE := Lib.hid (readL_zero hz.2 (hn0.trans hz.1))
      have b0 : ((n0 : Int) == 48) = true := by rw [hz.1]; rfl
      have b1 : (1 : Int) < (s.size : Int) := by have := hz.2; omega
      clear hz
      go_enter Tryz.func55, Tryz.ntmps55
      go_wp2_with fail
      refine (l1In_c (s.size : Int) 1 6 _).mono ?_; rw [HI.out]; rintro e w1 ⟨rfl, rfl⟩
      go_wp2
      go_ret
      rw [HE.out]
      exact ⟨rfl, rfl⟩
    · have HE := Lib.hid (readL_go h1 h6 (fun k => hz ⟨hn0.symm.trans k.1, k.2⟩))
      by_cases h48 : n0 = 48
      · have b0 : ((n0 : Int) == 48) = true := by rw [h48]; rfl
        have b1 : (s.size : Int) ≤ 1 := by omega
        clear hz h48
        go_enter Tryz.func55, Tryz.ntmps55
        go_wp2_with fail
        refine (l1In_c (s.size : Int) 1 6 _).mono ?_; rw [HI.out]; rintro e w1 ⟨rfl, rfl⟩
        go_wp2_with fail
        go_loopw [3, 4] (fun vn vi wr => ∃ (k m : Nat), k ≤ s.size ∧ m < 10 ^ k ∧ vi = .int .i64 k ∧ vn = .int .i64 m ∧ Hid ((s.data.toList.take k).foldl rdStep (some 0) = some m) ∧ w = wr) (fun _ vi _ => s.size - (intOf vi).toNat)
        case atStart => exact ⟨0, 0, Nat.zero_le _, by decide, rfl, rfl, Lib.hid rfl, rfl⟩
        case round =>
          obtain ⟨k, m, hk, hm, rfl, rfl, HF, rfl⟩ := hrel
          by_cases hlt : k < s.size
          · have hn256 : s[k].toNat < 256 := UInt8.toNat_lt _
            obtain ⟨n, hn⟩ : ∃ n, s[k].toNat = n := ⟨_, rfl⟩
            rw [hn] at hn256
            have k0 : (0 : Int) ≤ (k : Int) := by omega
            have k1 : (k : Int) < (s.size : Int) := by omega
            have hp : 10 ^ k ≤ 10 ^ 5 := Nat.pow_le_pow_right (by decide) (by omega)
            have hm5 : m < 100000 := by omega
            have HM := Lib.hid hm
            have HB := Lib.hid (byte_at hlt)
            clear hp hm
            rcases (show n < 48 ∨ (48 ≤ n ∧ n ≤ 57) ∨ 58 ≤ n by omega) with hc | hc | hc
            · have HX : Hid (readL s.data.toList = -1) := Lib.hid (by rw [HE.out, rd_stop HB.out (by rw [HF.out, rdStep_fail hn (.inl hc)])])
              have b48 : (n : Int) < 48 := by omega
              clear hc
              go_wp2
              go_ret
              rw [HX.out]
              exact ⟨rfl, rfl⟩
            · have HF2 : Hid ((s.data.toList.take (k + 1)).foldl rdStep (some 0) = some (10 * m + (n - 48))) := Lib.hid (by rw [fold_to' _ _ HB.out, HF.out, rdStep_yes hn hc.1 hc.2])
              have b48 : (48 : Int) ≤ (n : Int) := by omega
              have b49 : ¬ ((n : Int) < 48) := by omega
              have b57 : (n : Int) ≤ 57 := by omega
              have b58 : ¬ (57 < (n : Int)) := by omega
              have hw1 : IntKind.u8.wrap ((n : Int) - 48) = ((n - 48 : Nat) : Int) := by simp only [IntKind.wrap, IntKind.bits, IntKind.signed]; simp; omega
              have hm2 : 10 * m + (n - 48) < 10 ^ (k + 1) := by have := HM.out; rw [Nat.pow_succ]; omega
              have HM2 := Lib.hid hm2
              have d0 : n - 48 ≤ 9 := by omega
              clear hc hm2
              go_wp2
              exact ⟨⟨k + 1, 10 * m + (n - 48), by omega, HM2.out, by go_num, by go_num, HF2, trivial⟩, by simp [intOf]; omega⟩
            · have HX : Hid (readL s.data.toList = -1) := Lib.hid (by rw [HE.out, rd_stop HB.out (by rw [HF.out, rdStep_fail hn (.inr (by omega))])])
              have b48 : (48 : Int) ≤ (n : Int) := by omega
              have b49 : ¬ ((n : Int) < 48) := by omega
              have b57 : (57 : Int) < (n : Int) := by omega
              clear hc
              go_wp2
              go_ret
              rw [HX.out]
              exact ⟨rfl, rfl⟩
          · obtain rfl : k = s.size := by omega
            have ht : s.data.toList.take s.size = s.data.toList := List.take_of_length_le (by rw [← Lib.size_eq]; exact Nat.le_refl _)
            have HX : Hid (readL s.data.toList = (m : Int)) := Lib.hid (by have h := HF.out; rw [ht] at h; rw [HE.out, h])
            clear ht hm
            go_wp2
            go_ret
            rw [HX.out]
            exact ⟨rfl, rfl⟩
      · have b0 : ((n0 : Int) == 48) = false := beq_false_of_ne (by omega)
        clear hz h48
        go_enter Tryz.func55, Tryz.ntmps55
        go_wp2_with fail
        refine (l1In_c (s.size : Int) 1 6 _).mono ?_; rw [HI.out]; rintro e w1 ⟨rfl, rfl⟩
        go_wp2_with fail
        go_loopw [3, 4] (fun vn vi wr => ∃ (k m : Nat), k ≤ s.size ∧ m < 10 ^ k ∧ vi = .int .i64 k ∧ vn = .int .i64 m ∧ Hid ((s.data.toList.take k).foldl rdStep (some 0) = some m) ∧ w = wr) (fun _ vi _ => s.size - (intOf vi).toNat)
        case atStart => exact ⟨0, 0, Nat.zero_le _, by decide, rfl, rfl, Lib.hid rfl, rfl⟩
        case round =>
          obtain ⟨k, m, hk, hm, rfl, rfl, HF, rfl⟩ := hrel
          by_cases hlt : k < s.size
          · have hn256 : s[k].toNat < 256 := UInt8.toNat_lt _
            obtain ⟨n, hn⟩ : ∃ n, s[k].toNat = n := ⟨_, rfl⟩
            rw [hn] at hn256
            have k0 : (0 : Int) ≤ (k : Int) := by omega
            have k1 : (k : Int) < (s.size : Int) := by omega
            have hp : 10 ^ k ≤ 10 ^ 5 := Nat.pow_le_pow_right (by decide) (by omega)
            have hm5 : m < 100000 := by omega
            have HM := Lib.hid hm
            have HB := Lib.hid (byte_at hlt)
            clear hp hm
            rcases (show n < 48 ∨ (48 ≤ n ∧ n ≤ 57) ∨ 58 ≤ n by omega) with hc | hc | hc
            · have HX : Hid (readL s.data.toList = -1) := Lib.hid (by rw [HE.out, rd_stop HB.out (by rw [HF.out, rdStep_fail hn (.inl hc)])])
              have b48 : (n : Int) < 48 := by omega
              clear hc
              go_wp2
              go_ret
              rw [HX.out]
              exact ⟨rfl, rfl⟩
            · have HF2 : Hid ((s.data.toList.take (k + 1)).foldl rdStep (some 0) = some (10 * m + (n - 48))) := Lib.hid (by rw [fold_to' _ _ HB.out, HF.out, rdStep_yes hn hc.1 hc.2])
              have b48 : (48 : Int) ≤ (n : Int) := by omega
              have b49 : ¬ ((n : Int) < 48) := by omega
              have b57 : (n : Int) ≤ 57 := by omega
              have b58 : ¬ (57 < (n : Int)) := by omega
              have hw1 : IntKind.u8.wrap ((n : Int) - 48) = ((n - 48 : Nat) : Int) := by simp only [IntKind.wrap, IntKind.bits, IntKind.signed]; simp; omega
              have hm2 : 10 * m + (n - 48) < 10 ^ (k + 1) := by have := HM.out; rw [Nat.pow_succ]; omega
              have HM2 := Lib.hid hm2
              have d0 : n - 48 ≤ 9 := by omega
              clear hc hm2
              go_wp2
              exact ⟨⟨k + 1, 10 * m + (n - 48), by omega, HM2.out, by go_num, by go_num, HF2, trivial⟩, by simp [intOf]; omega⟩
            · have HX : Hid (readL s.data.toList = -1) := Lib.hid (by rw [HE.out, rd_stop HB.out (by rw [HF.out, rdStep_fail hn (.inr (by omega))])])
              have b48 : (48 : Int) ≤ (n : Int) := by omega
              have b49 : ¬ ((n : Int) < 48) := by omega
              have b57 : (57 : Int) < (n : Int) := by omega
              clear hc
              go_wp2
              go_ret
              rw [HX.out]
              exact ⟨rfl, rfl⟩
          · obtain rfl : k = s.size := by omega
            have ht : s.data.toList.take s.size = s.data.toList := List.take_of_length_le (by rw [← Lib.size_eq]; exact Nat.le_refl _)
            have HX : Hid (readL s.data.toList = (m : Int)) := Lib.hid (by have h := HF.out; rw [ht] at h; rw [HE.out, h])
            clear ht hm
            go_wp2
            go_ret
            rw [HX.out]
            exact ⟨rfl, rfl⟩
end Go.Proofs.YtgcdgcidjjdhmaaGreatDoor
