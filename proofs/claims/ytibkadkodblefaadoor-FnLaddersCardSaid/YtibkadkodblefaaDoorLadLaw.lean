/-
  Ladders: the plain law of FnLadders.
-/
import Derived.Test.YtibkadkodblefaaDoorLadB
import Derived.Test.YtibkadkodblefaaDoorLadD
import Derived.Test.YtibkadkodblefaaDoorLadE
import Derived.Test.YtibkadkodblefaaDoorLadQ
namespace Go.Proofs.YtibkadkodblefaaDoor
open Go.RowKit

theorem can_one (b l o s m x y : Int) : (angleForV b l o s m x y).2 = ((canReachV b l o s m x y).2 && (canReachV b l o s m x y).1) := by
  unfold angleForV canReachV
  split
  · cases angF b o l.toNat s.toNat m.toNat x y <;> simp [angR]
  · rfl
theorem can_ok {b l o s m x y : Int} (h : (canReachV b l o s m x y).2 = true) : ladOk b l o s m = true := by
  unfold canReachV at h
  split at h
  · exact (by assumption : _ ∧ _).1
  · cases h
theorem angF_in {b o : Int} {L s m : Nat} {x y : Int} {a : Nat} (h : angF b o L s m x y = some a) : s ≤ a ∧ a ≤ m := by
  unfold angF at h
  obtain ⟨i, hi, rfl⟩ := List.mem_map.1 (List.mem_of_find?_eq_some h)
  have := List.mem_range.1 hi
  omega
theorem angle_in {b l o s m x y : Int} (h : (angleForV b l o s m x y).2 = true) : s ≤ (angleForV b l o s m x y).1 ∧ (angleForV b l o s m x y).1 ≤ m := by
  unfold angleForV at h ⊢
  split at h
  · rename_i hk
    rw [if_pos hk]
    obtain ⟨b0, b1, l0, l1, o0, o1, s0, s1, m1⟩ := ladOk_true hk.1
    cases hr : angF b o l.toNat s.toNat m.toNat x y with
    | none => rw [hr] at h; cases h
    | some a =>
      have := angF_in hr
      simp only [angR]
      omega
  · cases h
theorem can_hit {b l o s m x y : Int} (hk : ladOk b l o s m = true) (hx : inB x 0 600 = true) (hy : inB y 0 600 = true) : canReachV b l o s m x y = (decide (0 < ptAll b o l.toNat s.toNat m.toNat x y), true) := by
  unfold canReachV
  rw [if_pos ⟨hk, hx, hy⟩, ptAll_at]
  congr 1
  cases angF b o l.toNat s.toNat m.toNat x y with
  | none => simp [ptV]
  | some a => simp [ptV]
theorem tip_can {b l o s m a n : Int} (h : (tipOfV b l o s m a n).2.2 = true) (h1 : (tipOfV b l o s m a n).1 ≤ o) (h2 : (tipOfV b l o s m a n).1 ≤ 600) (h3 : (tipOfV b l o s m a n).2.1 ≤ 600) :
    canReachV b l o s m (tipOfV b l o s m a n).1 (tipOfV b l o s m a n).2.1 = (true, true) := by
  unfold tipOfV at h h1 h2 h3 ⊢
  split at h
  · rename_i hk
    rw [if_pos hk] at h1 h2 h3 ⊢
    obtain ⟨hok, ha, hn⟩ := hk
    obtain ⟨b0, b1, l0, l1, o0, o1, s0, s1, m1⟩ := ladOk_true hok
    obtain ⟨a0, a1⟩ := inB_true ha
    obtain ⟨n0, n1⟩ := inB_true hn
    dsimp only at h1 h2 h3 ⊢
    have q1 := tipL_bd (n := n.toNat) (sn_bd (a := 90 - a.toNat) (by omega)).1 (sn_bd (a := 90 - a.toNat) (by omega)).2 (by omega)
    have q2 := tipL_bd (n := n.toNat) (sn_bd (a := a.toNat) (by omega)).1 (sn_bd (a := a.toNat) (by omega)).2 (by omega)
    rw [can_hit hok (by unfold inB; simp; omega) (by unfold inB; simp; omega)]
    have hp : 0 < ptAll b o l.toNat s.toNat m.toNat (tipL n.toNat (sn (90 - a.toNat))) (b + tipL n.toNat (sn a.toNat)) := ptAll_pos.2 ⟨a.toNat - s.toNat, by omega, n.toNat, by omega, by
      rw [show s.toNat + (a.toNat - s.toNat) = a.toNat by omega]
      exact hitB_iff.2 ⟨by omega, by omega, by omega, by omega, by omega⟩⟩
    rw [decide_eq_true hp]
  · cases h
theorem downF_is {R : Nat → Bool} : ∀ {k u : Nat}, downF R k = some u → u ≤ k ∧ R u = true ∧ ∀ v, u < v → v ≤ k → R v = false := by
  intro k
  induction k with
  | zero =>
    intro u h
    unfold downF at h
    split at h
    · cases h; exact ⟨Nat.le_refl _, by assumption, fun v h1 h2 => by omega⟩
    · cases h
  | succ k ih =>
    intro u h
    unfold downF at h
    split at h
    · cases h; exact ⟨Nat.le_refl _, by assumption, fun v h1 h2 => by omega⟩
    · rename_i hn
      obtain ⟨h1, h2, h3⟩ := ih h
      refine ⟨by omega, h2, fun v h4 h5 => ?_⟩
      by_cases e : v = k + 1
      · subst e; simpa using hn
      · exact h3 v h4 (by omega)
theorem downR_is {R : Nat → Bool} (h : (downR R).2 = true) : ∃ u : Nat, (downR R).1 = (u : Int) ∧ u ≤ 600 ∧ R u = true ∧ ∀ v, u < v → v ≤ 600 → R v = false := by
  unfold downR at h ⊢
  cases hd : downF R 600 with
  | none => rw [hd] at h; cases h
  | some u => exact ⟨u, rfl, downF_is hd⟩
theorem highest_can {b l o s m x : Int} (h : (highestAtV b l o s m x).2 = true) :
    canReachV b l o s m x (highestAtV b l o s m x).1 = (true, true) ∧ ((highestAtV b l o s m x).1 < 600 → canReachV b l o s m x ((highestAtV b l o s m x).1 + 1) = (false, true)) ∧ 0 ≤ (highestAtV b l o s m x).1 ∧ (highestAtV b l o s m x).1 ≤ 600 := by
  unfold highestAtV at h ⊢
  split at h
  · rename_i hk
    rw [if_pos hk]
    obtain ⟨u, hu, hu6, hr, hn⟩ := downR_is h
    rw [hu]
    refine ⟨?_, fun hlt => ?_, by omega, by omega⟩
    · rw [can_hit hk.1 hk.2 (by unfold inB; simp; omega), hr]
    · rw [can_hit hk.1 hk.2 (by unfold inB; simp; omega)]
      have := hn (u + 1) (by omega) (by omega)
      rw [show ((u : Int) + 1) = ((u + 1 : Nat) : Int) by omega, this]
  · cases h
theorem farthest_can {b l o s m y : Int} (h : (farthestForV b l o s m y).2 = true) :
    canReachV b l o s m (farthestForV b l o s m y).1 y = (true, true) ∧ (farthestForV b l o s m y).1 ≤ o := by
  unfold farthestForV at h ⊢
  split at h
  · rename_i hk
    rw [if_pos hk]
    obtain ⟨u, hu, hu6, hr, hn⟩ := downR_is h
    rw [hu]
    refine ⟨?_, ?_⟩
    · rw [can_hit hk.1 (by unfold inB; simp; omega) hk.2, hr]
    · obtain ⟨i, hi, n, hnl, hh⟩ := ptAll_pos.1 (of_decide_eq_true hr)
      obtain ⟨q1, q2, q3, q4, q5⟩ := hitB_iff.1 hh
      omega
  · cases h
end Go.Proofs.YtibkadkodblefaaDoor
