/-
  SendChoice: the plain law: those who are chosen are called, their names in the fleet's order. The choices of a list of appliances with their times (printed by gen_choices.py). ReadyTimes: both sides (printed by gen_ready.py). slices.Equal at ints; spec.dsHas; readyL has no repeats. (joined by pack.py: SendP Choices Ready Equal)
-/
import Derived.Test.YtgcdgcidjjdhmaaGreatDoorK20
import Derived.Test.YtgcdgcidjjdhmaaGreatDoorK5
import Derived.Test.YtgcdgcidjjdhmaaGreatDoorK18
import Derived.Deep.RegionLaw
import Derived.Test.YtgcdgcidjjdhmaaGreatDoorK16
import Derived.Test.YtgcdgcidjjdhmaaGreatDoorK6
namespace Go.Proofs.YtgcdgcidjjdhmaaGreatDoor
set_option linter.unusedVariables false
set_option linter.unusedSimpArgs false
open Go.RowKit

def callA (a : Ap) : Ap := ⟨a.nm, a.kd, a.nd, a.cr, 1⟩
def sendF (f : List Ap) (L : List Int) : List Ap := f.mapIdx fun i a => if (i : Int) ∈ L then callA a else a
theorem sendF_len (f : List Ap) (L : List Int) : (sendF f L).length = f.length := by simp [sendF]
theorem sendF_get (f : List Ap) (L : List Int) (i : Nat) : (sendF f L)[i]? = (f[i]?).map fun a => if (i : Int) ∈ L then callA a else a := by simp [sendF, List.getElem?_mapIdx]
theorem sendF_nil (f : List Ap) : sendF f [] = f := by
  apply List.ext_getElem?
  intro i
  rw [sendF_get]
  cases f[i]? <;> simp
theorem callA_callA (a : Ap) : callA (callA a) = callA a := rfl
theorem sendF_snoc {f : List Ap} {S : List Int} {i : Nat} {a : Ap} (h : (sendF f S)[i]? = some a) : (sendF f S).set i (callA a) = sendF f (S ++ [(i : Int)]) := by
  apply List.ext_getElem?
  intro j
  rw [List.getElem?_set, sendF_get, sendF_get]
  by_cases e : i = j
  · subst e
    have hi := (List.getElem?_eq_some_iff.1 h).1
    rw [if_pos rfl, if_pos hi]
    rw [sendF_get] at h
    cases hf : f[i]? with
    | none => rw [hf] at h; cases h
    | some b =>
      rw [hf] at h
      simp only [Option.map_some, Option.some.injEq] at h ⊢
      have hm : (i : Int) ∈ S ++ [(i : Int)] := by simp
      rw [if_pos hm, ← h]
      split <;> rfl
  · rw [if_neg e]
    cases f[j]? with
    | none => rfl
    | some b =>
      simp only [Option.map_some, Option.some.injEq]
      have : ((j : Int) ∈ S ++ [(i : Int)]) ↔ (j : Int) ∈ S := by
        rw [List.mem_append, List.mem_singleton]
        constructor
        · rintro (h | h)
          · exact h
          · exact absurd (by omega : i = j) e
        · exact .inl
      simp only [this]
theorem put_state {F : List Ap} {i : Nat} {a : Ap} (h : F[i]? = some a) : (F.flatMap Ap.cells).set (i * 5 + 4) (.int .i64 1) = (F.set i (callA a)).flatMap Ap.cells := by
  have hi := (List.getElem?_eq_some_iff.1 h).1
  have ha := (List.getElem?_eq_some_iff.1 h).2
  have hd : F = F.take i ++ (a :: F.drop (i + 1)) := by rw [← ha, ← List.drop_eq_getElem_cons hi, List.take_append_drop]
  have hl : (F.take i).length = i := by rw [List.length_take]; omega
  have h2 : F.set i (callA a) = F.take i ++ (callA a :: F.drop (i + 1)) := by
    conv => lhs; rw [hd]
    rw [List.set_append_right _ _ (by omega), hl, Nat.sub_self]; rfl
  rw [h2]
  conv => lhs; rw [hd]
  rw [List.flatMap_append, List.flatMap_append, List.set_append_right _ _ (by rw [len_flat Ap.cells_len, hl]; omega), len_flat Ap.cells_len, hl]
  have e : i * 5 + 4 - i * 5 = 4 := by omega
  rw [e]; rfl
/-! one rising list for each set -/
theorem strict_eq : ∀ (a b : List Int), a.Pairwise (· < ·) → b.Pairwise (· < ·) → (∀ x, x ∈ a ↔ x ∈ b) → a = b := by
  intro a
  induction a with
  | nil =>
    intro b _ _ h
    cases b with
    | nil => rfl
    | cons y b => exact absurd ((h y).2 (by simp)) (by simp)
  | cons x a ih =>
    intro b ha hb h
    cases b with
    | nil => exact absurd ((h x).1 (by simp)) (by simp)
    | cons y b =>
      obtain ⟨ha1, ha2⟩ := List.pairwise_cons.1 ha
      obtain ⟨hb1, hb2⟩ := List.pairwise_cons.1 hb
      have hxy : x = y := by
        rcases List.mem_cons.1 ((h x).1 (by simp)) with e | e
        · exact e
        · rcases List.mem_cons.1 ((h y).2 (by simp)) with e' | e'
          · exact e'.symm
          · have := hb1 x e; have := ha1 y e'; omega
      subst hxy
      rw [ih b ha2 hb2 (fun z => ?_)]
      constructor
      · intro hz
        rcases List.mem_cons.1 ((h z).1 (by simp [hz])) with e | e
        · have := ha1 z hz; omega
        · exact e
      · intro hz
        rcases List.mem_cons.1 ((h z).2 (by simp [hz])) with e | e
        · have := hb1 z hz; omega
        · exact e
theorem selD_rise (p : Nat → Bool) (n : Nat) : (selD p n).Pairwise (· < ·) := by
  unfold selD
  rw [List.pairwise_map]
  refine List.Pairwise.imp (R := fun a b : Nat => a < b) (fun h => by omega) ?_
  exact List.Pairwise.sublist List.filter_sublist List.pairwise_lt_range
theorem sort_eq {L : List Int} {n : Nat} (hn : L.Nodup) (hm : ∀ y ∈ L, ∃ i : Nat, y = (i : Int) ∧ i < n) : (L.mergeSort fun x y => decide (x ≤ y)) = selD (fun i => decide ((i : Int) ∈ L)) n := by
  have hp := List.mergeSort_perm L (fun x y => decide (x ≤ y))
  have hs := List.pairwise_mergeSort (le := fun x y : Int => decide (x ≤ y)) (fun a b c h1 h2 => by simp at h1 h2 ⊢; omega) (fun a b => by simp; omega) L
  have hnd : (L.mergeSort fun x y => decide (x ≤ y)).Nodup := hp.nodup_iff.2 hn
  refine strict_eq _ _ ?_ (selD_rise _ _) (fun x => ?_)
  · rw [List.nodup_iff_pairwise_ne] at hnd
    refine List.Pairwise.imp ?_ (hs.and hnd)
    rintro a b ⟨h1, h2⟩
    simp at h1; omega
  · rw [hp.mem_iff]
    unfold selD
    rw [List.mem_map]
    constructor
    · intro h
      obtain ⟨i, rfl, hi⟩ := hm x h
      exact ⟨i, List.mem_filter.2 ⟨List.mem_range.2 hi, decide_eq_true h⟩, rfl⟩
    · rintro ⟨i, hi, rfl⟩
      exact of_decide_eq_true (List.mem_filter.1 hi).2
theorem pick_sub_aux (f : List Ap) : ∀ (L : List Int) (st : List Int × List Int), ∃ T, (L.foldl (pickStep f) st).1 = st.1 ++ T ∧ T.Sublist L := by
  intro L
  induction L with
  | nil => intro st; exact ⟨[], by simp, List.Sublist.refl _⟩
  | cons i L ih =>
    intro st
    obtain ⟨T, h1, h2⟩ := ih (pickStep f st i)
    rw [List.foldl_cons, h1]
    unfold pickStep
    split
    · exact ⟨i :: T, by simp, h2.cons_cons i⟩
    · exact ⟨T, rfl, h2.cons i⟩
theorem pick_nodup (f : List Ap) {L : List Int} (need : List Int) (h : L.Nodup) : (pickL f L need).1.Nodup := by
  obtain ⟨T, h1, h2⟩ := pick_sub_aux f L ([], need)
  unfold pickL
  rw [h1]
  simpa using h.sublist h2
end Go.Proofs.YtgcdgcidjjdhmaaGreatDoor

namespace Go.Proofs.YtgcdgcidjjdhmaaGreatDoor
set_option linter.unusedVariables false
set_option linter.unusedSimpArgs false
open Go.RowKit

def chAt (f : List Ap) (ev : List Int) (i : Int) : Ch := match f[i.toNat]? with
  | some a => ⟨a.nm, ev.getD a.nd.toNat 0⟩
  | none => ⟨⟨#[]⟩, 0⟩
theorem chAt_at {f : List Ap} {ev : List Int} {i : Nat} {a : Ap} (h : f[i]? = some a) : chAt f ev (i : Int) = ⟨a.nm, ev.getD a.nd.toNat 0⟩ := by unfold chAt; rw [Int.toNat_natCast, h]
def chL (f : List Ap) (ev L : List Int) : List Ch := L.map (chAt f ev)
theorem chL_len (f : List Ap) (ev L : List Int) : (chL f ev L).length = L.length := by simp [chL]
theorem chL_snoc {f : List Ap} {ev L : List Int} {k : Nat} {y : Int} (h : L[k]? = some y) : chL f ev (L.take (k + 1)) = chL f ev (L.take k) ++ [chAt f ev y] := by unfold chL; rw [take_succ_of h, List.map_append]; rfl
theorem ch_flat (l : List Ch) (c : Ch) : (l ++ [c]).flatMap Ch.cells = l.flatMap Ch.cells ++ [.string c.cn, .int .i64 c.cs] := by rw [List.flatMap_append]; simp [Ch.cells]
theorem gro_cellr {a b : World} {r : Option Nat} (h : a.grownBy b r) {x o : Nat} (hx : x < a.heap.size) (hne : ∀ q, r = some q → x ≠ q) : b.cell? ⟨x, o, none⟩ = a.cell? ⟨x, o, none⟩ := World.cell?_of_block (h.block x hx (fun e => hne x e.symm rfl))
end Go.Proofs.YtgcdgcidjjdhmaaGreatDoor

namespace Go.Proofs.YtgcdgcidjjdhmaaGreatDoor
set_option linter.unusedVariables false
set_option linter.unusedSimpArgs false
open Go.RowKit

theorem dist_len (n : Nat) (l : List St) (src : Nat) : (distT n (arcs l) src).length = n := by unfold distT; rw [iterT_len, startT_len]
def readyTimesV (n : Int) (l : List St) (f : List Ap) (x : Int) : List Ch × Bool :=
  if askD n l f x = true then (chL f (distT n.toNat (arcs l) x.toNat) (readyL (distT n.toNat (arcs l) x.toNat) f), true) else ([], false)
theorem readyTimes_no1 {n : Int} {l : List St} {f : List Ap} {x : Int} (h : askD n l f x = false) : readyTimesV n l f x = ([], false) := by
  unfold readyTimesV; rw [if_neg (by rw [h]; simp)]
theorem readyTimes_yes {n src : Nat} {l : List St} {f : List Ap} (h : askD n l f src = true) : readyTimesV n l f src = (chL f (distT n (arcs l) src) (readyL (distT n (arcs l) src) f), true) := by
  unfold readyTimesV; rw [if_pos h, Int.toNat_natCast, Int.toNat_natCast]
theorem readyTimes_mem {ev : List Int} {f : List Ap} (hfl : goodFl f = true) : (∀ y ∈ (readyL ev f), ∃ (i : Nat) (a : Ap), y = (i : Int) ∧ f[i]? = some a) ∧ (readyL ev f).length ≤ 12 := by
  have hm : ∀ y ∈ readyL ev f, ∃ (i : Nat) (a : Ap), y = (i : Int) ∧ f[i]? = some a := fun y hy => by
    obtain ⟨i, a, h1, h2, _⟩ := readyL_mem hy
    exact ⟨i, a, h1, h2⟩
  have hl := Nat.le_trans (readyL_len ev f) (goodFl_true hfl).1
  exact ⟨hm, hl⟩
theorem readyTimesV_len (n : Int) (l : List St) (f : List Ap) (x : Int) : (readyTimesV n l f x).1.length ≤ 1000000 := by
  unfold readyTimesV
  split
  · dsimp only
    rw [chL_len]
    have := (readyTimes_mem (ev := distT n.toNat (arcs l) x.toNat) (goodDs_true (askD_true (by rename_i h; exact h)).1).2.1).2
    omega
  · simp

end Go.Proofs.YtgcdgcidjjdhmaaGreatDoor

namespace Go.Proofs.YtgcdgcidjjdhmaaGreatDoor
set_option linter.unusedVariables false
set_option linter.unusedSimpArgs false
open Go.RowKit

theorem readyL_nodup (ev : List Int) (f : List Ap) : (readyL ev f).Nodup := by
  unfold readyL
  rw [(isort_perm _ _).nodup_iff]
  unfold selD
  exact nodup_map_of _ _ (nodup_filter _ List.nodup_range) (fun (x : Nat) _ (y : Nat) _ e => by have h : (x : Int) = (y : Int) := e; omega)
end Go.Proofs.YtgcdgcidjjdhmaaGreatDoor
