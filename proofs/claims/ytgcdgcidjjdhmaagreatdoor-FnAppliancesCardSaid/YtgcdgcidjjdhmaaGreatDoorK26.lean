/-
  IsBestChoice: the reference's side. ChooseFor: both sides (printed by gen_ready.py). MissingKinds: both sides. (joined by pack.py: BestS Choose Miss)
-/
import Derived.Test.YtgcdgcidjjdhmaaGreatDoorK21
import Derived.Test.YtgcdgcidjjdhmaaGreatDoorK10
import Derived.Test.YtgcdgcidjjdhmaaGreatDoorK16
import Derived.Test.YtgcdgcidjjdhmaaGreatDoorK20
namespace Go.Proofs.YtgcdgcidjjdhmaaGreatDoor
set_option linter.unusedVariables false
set_option linter.unusedSimpArgs false
open Go.RowKit

theorem missL_len2 (f : List Ap) : ∀ (L d : List Int), (missL f L d).length = d.length := by
  intro L
  induction L with
  | nil => intro d; rfl
  | cons i L ih => intro d; unfold missL; rw [List.foldl_cons]; have := ih (missStep f d i); unfold missL at this; rw [this]; unfold missStep; simp
theorem own_far {w : World} {base : Nat} {e : TypeId} {sz : Nat} {v : Value} {n : Nat} {xs : List Value} (h : w.ownsRow base e sz v n xs) {g : Nat} (hne : ∀ q, v.ownBlock = some q → q ≠ g) (j : Nat) (u : Value) : (w.setCell ⟨g, j, none⟩ u).ownsRow base e sz v n xs :=
  h.kept (only_setCell (World.grownBy.refl w (some g)) j u) (by
    cases hv : v.ownBlock with
    | none => exact .inl rfl
    | some q => exact .inr (fun hq => hne q hv (Option.some.inj hq)))
def isBestChoiceV (n : Int) (l : List St) (f : List Ap) (x : Int) (need : List Int) (q : List ByteArray) : Bool × Bool :=
  if askD n l f x = true ∧ needB need = true then (bestS (distT n.toNat (arcs l) x.toNat) f (readyL (distT n.toNat (arcs l) x.toNat) f) need (pickL f (readyL (distT n.toNat (arcs l) x.toNat) f) need).2 q, true) else (false, false)
theorem best_no1 {n : Int} {l : List St} {f : List Ap} {x : Int} {need : List Int} {q : List ByteArray} (h : askD n l f x = false) : isBestChoiceV n l f x need q = (false, false) := by unfold isBestChoiceV; rw [if_neg (by rw [h]; simp)]
theorem best_no2 {n : Int} {l : List St} {f : List Ap} {x : Int} {need : List Int} {q : List ByteArray} (h : needB need = false) : isBestChoiceV n l f x need q = (false, false) := by unfold isBestChoiceV; rw [if_neg (by rw [h]; simp)]
theorem best_yes {n src : Nat} {l : List St} {f : List Ap} {need : List Int} {q : List ByteArray} {ev L mis : List Int} (h : askD n l f src = true) (h2 : needB need = true) (hev : distT n (arcs l) src = ev) (hL : readyL ev f = L) (hm : (pickL f L need).2 = mis) :
    isBestChoiceV n l f src need q = (bestS ev f L need mis q, true) := by
  unfold isBestChoiceV; rw [if_pos ⟨h, h2⟩, Int.toNat_natCast, Int.toNat_natCast, hev, hL, hm]
def BestIs (n : Int) (l : List St) (f : List Ap) (x : Int) (need : List Int) (q : List ByteArray) (w : World) (e : Ending) (w' : World) : Prop :=
  e = .returned (.tuple #[.bool (isBestChoiceV n l f x need q).1, .bool (isBestChoiceV n l f x need q).2]) ∧ Below w.heap.size w w'
theorem hasL_yes {f : List Ap} {q : List ByteArray} {L : List Int} {k : Nat} {y : Int} (h : L[k]? = some y) (hy : hasN q (nmI f y) = true) : hasL f q (L.take (k + 1)) = hasL f q (L.take k) ++ [y] := by
  unfold hasL; rw [take_succ_of h, List.filter_append]; simp [hy]
theorem hasL_no {f : List Ap} {q : List ByteArray} {L : List Int} {k : Nat} {y : Int} (h : L[k]? = some y) (hy : hasN q (nmI f y) = false) : hasL f q (L.take (k + 1)) = hasL f q (L.take k) := by
  unfold hasL; rw [take_succ_of h, List.filter_append]; simp [hy]
theorem cnt_snoc (f : List Ap) (H : List Int) (y : Int) : cntL f (H ++ [y]) = cntStep f (cntL f H) y := by unfold cntL; rw [List.foldl_append]; rfl
theorem wst_snoc (ev : List Int) (f : List Ap) (H : List Int) (y : Int) : wstL ev f (H ++ [y]) = wstStep ev f (wstL ev f H) y := by unfold wstL; rw [List.foldl_append]; rfl
theorem hasL_len (f : List Ap) (q : List ByteArray) (L : List Int) : (hasL f q L).length ≤ L.length := List.length_filter_le _ _
theorem best_noN {ev : List Int} {f : List Ap} {R need mis : List Int} {q : List ByteArray} (h : namesB q = false) : bestS ev f R need mis q = false := by unfold bestS; rw [h]; rfl
theorem best_noK {ev : List Int} {f : List Ap} {R need mis : List Int} {q : List ByteArray} {k : Nat} (hk : k < 4) (h : (cntL f (hasL f q R)).getD k 0 ≠ need.getD k 0 - mis.getD k 0) : bestS ev f R need mis q = false := by
  unfold bestS
  have : (List.range 4).all (fun k => (cntL f (hasL f q R)).getD k 0 == need.getD k 0 - mis.getD k 0) = false := List.all_eq_false.2 ⟨k, List.mem_range.2 hk, by simpa using h⟩
  rw [this]; simp
theorem best_noS {ev : List Int} {f : List Ap} {R need mis : List Int} {q : List ByteArray} (h : ((cntL f (hasL f q R)).sum == (q.length : Int)) = false) : bestS ev f R need mis q = false := by unfold bestS; rw [h]; simp
theorem best_noR {ev : List Int} {f : List Ap} {R need mis : List Int} {q : List ByteArray} {i : Int} (hi : i ∈ R) (h : (hasN q (nmI f i) || !decide (rdyKey ev f i < (wstL ev f (hasL f q R)).getD (kdOf f i) 0)) = false) : bestS ev f R need mis q = false := by
  unfold bestS
  have : (R.all fun i => hasN q (nmI f i) || !decide (rdyKey ev f i < (wstL ev f (hasL f q R)).getD (kdOf f i) 0)) = false := List.all_eq_false.2 ⟨i, hi, by rw [h]; simp⟩
  rw [this]; simp
theorem best_all {ev : List Int} {f : List Ap} {R need mis : List Int} {q : List ByteArray} (hN : namesB q = true) (hK : ∀ k, k < 4 → (cntL f (hasL f q R)).getD k 0 = need.getD k 0 - mis.getD k 0) (hS : ((cntL f (hasL f q R)).sum == (q.length : Int)) = true)
    (hR : (R.all fun i => hasN q (nmI f i) || !decide (rdyKey ev f i < (wstL ev f (hasL f q R)).getD (kdOf f i) 0)) = true) : bestS ev f R need mis q = true := by
  unfold bestS
  have : (List.range 4).all (fun k => (cntL f (hasL f q R)).getD k 0 == need.getD k 0 - mis.getD k 0) = true := List.all_eq_true.2 (fun k hk => beq_iff_eq.2 (hK k (List.mem_range.1 hk)))
  rw [hN, this, hS, hR]; rfl
theorem wst_bd {ev : List Int} {f : List Ap} {H : List Int} {c : Int} (hc : -1 ≤ c) (h : ∀ i ∈ H, rdyKey ev f i ≤ c) {k : Nat} (hk : k < 4) : -1 ≤ (wstL ev f H).getD k 0 := by
  have := ((wst_aux ev f H [-1, -1, -1, -1] rfl).2 k hk).1
  have e : ([-1, -1, -1, -1] : List Int).getD k 0 = -1 := by rcases k with _ | _ | _ | _ | k <;> first | rfl | omega
  rw [e] at this; exact this
theorem wst_len (ev : List Int) (f : List Ap) (H : List Int) : (wstL ev f H).length = 4 := (wst_aux ev f H _ rfl).1

end Go.Proofs.YtgcdgcidjjdhmaaGreatDoor

namespace Go.Proofs.YtgcdgcidjjdhmaaGreatDoor
set_option linter.unusedVariables false
set_option linter.unusedSimpArgs false
open Go.RowKit

def chooseForV (n : Int) (l : List St) (f : List Ap) (x : Int) (need : List Int) : List Ch × Bool :=
  if askD n l f x = true ∧ needB need = true then (chL f (distT n.toNat (arcs l) x.toNat) (pickL f (readyL (distT n.toNat (arcs l) x.toNat) f) need).1, true) else ([], false)
theorem chooseFor_no1 {n : Int} {l : List St} {f : List Ap} {x : Int} {need : List Int} (h : askD n l f x = false) : chooseForV n l f x need = ([], false) := by
  unfold chooseForV; rw [if_neg (by rw [h]; simp)]
theorem chooseFor_no2 {n : Int} {l : List St} {f : List Ap} {x : Int} {need : List Int} (h : needB need = false) : chooseForV n l f x need = ([], false) := by
  unfold chooseForV; rw [if_neg (by rw [h]; simp)]
theorem chooseFor_yes {n src : Nat} {l : List St} {f : List Ap} {need : List Int} (h : askD n l f src = true) (h2 : needB need = true) : chooseForV n l f src need = (chL f (distT n (arcs l) src) (pickL f (readyL (distT n (arcs l) src) f) need).1, true) := by
  unfold chooseForV; rw [if_pos ⟨h, h2⟩, Int.toNat_natCast, Int.toNat_natCast]
theorem chooseFor_mem {ev : List Int} {f : List Ap} (hfl : goodFl f = true) {need : List Int} : (∀ y ∈ (pickL f (readyL ev f) need).1, ∃ (i : Nat) (a : Ap), y = (i : Int) ∧ f[i]? = some a) ∧ (pickL f (readyL ev f) need).1.length ≤ 12 := by
  have hm : ∀ y ∈ readyL ev f, ∃ (i : Nat) (a : Ap), y = (i : Int) ∧ f[i]? = some a := fun y hy => by
    obtain ⟨i, a, h1, h2, _⟩ := readyL_mem hy
    exact ⟨i, a, h1, h2⟩
  have hl := Nat.le_trans (readyL_len ev f) (goodFl_true hfl).1
  exact ⟨(pick_mem f _ _ need hm).1, Nat.le_trans (pick_mem f _ _ need hm).2 hl⟩
theorem chooseForV_len (n : Int) (l : List St) (f : List Ap) (x : Int) (need : List Int) : (chooseForV n l f x need).1.length ≤ 1000000 := by
  unfold chooseForV
  split
  · dsimp only
    rw [chL_len]
    have := (chooseFor_mem (ev := distT n.toNat (arcs l) x.toNat) (need := need) (goodDs_true (askD_true (by rename_i h; exact h.1)).1).2.1).2
    omega
  · simp

end Go.Proofs.YtgcdgcidjjdhmaaGreatDoor

namespace Go.Proofs.YtgcdgcidjjdhmaaGreatDoor
set_option linter.unusedVariables false
set_option linter.unusedSimpArgs false
open Go.RowKit

theorem missL_len (f : List Ap) : ∀ (L d : List Int), (missL f L d).length = d.length := by
  intro L
  induction L with
  | nil => intro d; rfl
  | cons i L ih => intro d; unfold missL; rw [List.foldl_cons]; have := ih (missStep f d i); unfold missL at this; rw [this]; unfold missStep; simp
def missingKindsV (n : Int) (l : List St) (f : List Ap) (x : Int) (need : List Int) : List Int × Bool :=
  if askD n l f x = true ∧ needB need = true then ((pickL f (readyL (distT n.toNat (arcs l) x.toNat) f) need).2, true) else ([], false)
theorem missV_no1 {n : Int} {l : List St} {f : List Ap} {x : Int} {need : List Int} (h : askD n l f x = false) : missingKindsV n l f x need = ([], false) := by
  unfold missingKindsV; rw [if_neg (by rw [h]; simp)]
theorem missV_no2 {n : Int} {l : List St} {f : List Ap} {x : Int} {need : List Int} (h : needB need = false) : missingKindsV n l f x need = ([], false) := by
  unfold missingKindsV; rw [if_neg (by rw [h]; simp)]
theorem missV_yes {n src : Nat} {l : List St} {f : List Ap} {need : List Int} (h : askD n l f src = true) (h2 : needB need = true) : missingKindsV n l f src need = ((pickL f (readyL (distT n (arcs l) src) f) need).2, true) := by
  unfold missingKindsV; rw [if_pos ⟨h, h2⟩, Int.toNat_natCast, Int.toNat_natCast]
theorem missingKindsV_len (n : Int) (l : List St) (f : List Ap) (x : Int) (need : List Int) : (missingKindsV n l f x need).1.length ≤ 1000000 := by
  unfold missingKindsV
  split
  · dsimp only
    rw [← pick_miss, missL_len, (needB_true (by rename_i h; exact h.2)).1]; omega
  · simp

end Go.Proofs.YtgcdgcidjjdhmaaGreatDoor
