/-
  Ladders: validity and tips on both sides.
-/
import Derived.Test.YtibkadkodblefaaDoorLadS
import Derived.Test.YtibkadkodblefaaDoorLadP
import Derived.Test.YtibkadkodblefaaDoorIntsC
import Derived.BigRegion
namespace Go.Proofs.YtibkadkodblefaaDoor
open Go.RowKit

def ladOk (b l o s m : Int) : Bool := inB b 0 40 && inB l 50 600 && inB o 20 400 && inB s 0 m && decide (m ≤ 85)
theorem ladOk_true {b l o s m : Int} (h : ladOk b l o s m = true) : 0 ≤ b ∧ b ≤ 40 ∧ 50 ≤ l ∧ l ≤ 600 ∧ 20 ≤ o ∧ o ≤ 400 ∧ 0 ≤ s ∧ s ≤ m ∧ m ≤ 85 := by
  simp [ladOk, inB] at h; omega
abbrev ldV (b l o s m : Int) : Value := .agg #[.int .i64 b, .int .i64 l, .int .i64 o, .int .i64 s, .int .i64 m]
theorem quoE {a b : Int} (ha : 0 ≤ a) (hb : 1 ≤ b) (hn : a ≤ 1000000000000) : IntKind.i64.wrap (a.tdiv b) = a / b := by
  rw [Int.tdiv_eq_ediv_of_nonneg ha]
  have h0 : 0 ≤ a / b := Int.ediv_nonneg ha (by omega)
  have h1 : a / b * b ≤ a := Int.ediv_mul_le _ (by omega)
  have h2 : a / b * 1 ≤ a / b * b := Int.mul_le_mul_of_nonneg_left hb h0
  exact IntWalk.i64_in _ (by omega)
theorem quoT {n s : Int} (h : 0 ≤ n * s ∧ n * s ≤ 6000000) : IntKind.i64.wrap ((n * s).tdiv 10000) = n * s / 10000 := quoE h.1 (by omega) (by omega)
set_option maxHeartbeats 400000 in
theorem isLadder_c (b l o s m : Int) (w : World) :
    Calls Tryd.prog 56 #[ldV b l o s m] w fun en w' => en = .returned (.bool (ladOk b l o s m)) ∧ Below w.heap.size w w' := by
  go_enter Tryd.func56, Tryd.ntmps56
  go_wp2_with (go_at_call 57; refine (inside_c _ _ _ _).mono ?_; rintro e w' ⟨rfl, rfl⟩)
  all_goals (go_ret; exact ⟨by unfold ladOk; simp [*], (by repeat (first | exact Below.refl _ _ | assumption | refine bel_al ?_ _ | refine bel_dr ?_ | refine below_drewN ?_ _ | refine bel_then ?_ (by assumption)))⟩)
set_option maxHeartbeats 400000 in
theorem laGood_c (b l o s m : Int) (w : World) :
    Calls Tryd.prog 53 #[ldV b l o s m] w fun en w' => en = .returned (.bool (ladOk b l o s m)) ∧ Below w.heap.size w w' := by
  have e1 : Hid ((inB m 0 85 && inB s 0 m) = (inB s 0 m && decide (m ≤ 85))) := Lib.hid (by
    unfold inB
    by_cases h1 : 0 ≤ m <;> by_cases h2 : m ≤ 85 <;> by_cases h3 : 0 ≤ s <;> by_cases h4 : s ≤ m <;> simp [*] <;> omega)
  go_enter Tryd.func53, Tryd.ntmps53
  go_wp2_with (go_at_call 54; refine (l1In_c _ _ _ _).mono ?_; rintro e w' ⟨rfl, rfl⟩)
  all_goals (go_ret; refine ⟨?_, (by repeat (first | exact Below.refl _ _ | assumption | refine bel_al ?_ _ | refine bel_dr ?_ | refine below_drewN ?_ _ | refine bel_then ?_ (by assumption)))⟩; have := e1.out; unfold ladOk; simp_all)
theorem isLadderI_c (b l o s m : Int) (w : World) :
    Calls Tryd.prog 43 #[ldV b l o s m] w fun en w' => en = .returned (.bool (ladOk b l o s m)) ∧ Below w.heap.size w w' := by
  go_enter Tryd.func43, Tryd.ntmps43
  go_wp2_with (go_at_call 56; refine (isLadder_c _ _ _ _ _ _).mono ?_; rintro e w' ⟨rfl, hb1⟩; obtain ⟨hc1, hf1⟩ := bel_facts hb1)
  go_ret
  exact ⟨rfl, (by repeat (first | exact Below.refl _ _ | assumption | refine bel_al ?_ _ | refine bel_dr ?_ | refine below_drewN ?_ _ | refine bel_then ?_ (by assumption)))⟩
theorem toLadder_c (b l o s m : Int) (w : World) :
    Calls Tryd.prog 20 #[ldV b l o s m] w fun en w' => en = .returned (ldV b l o s m) ∧ Below w.heap.size w w' := by
  go_enter Tryd.func20, Tryd.ntmps20
  go_wp2
  refine bodyPost_ret (v := ldV b l o s m) (by simp [results, Tryd.results20, go_sem]) rfl ⟨rfl, ?_⟩
  exact (by repeat (first | exact Below.refl _ _ | assumption | refine bel_al ?_ _ | refine bel_dr ?_ | refine below_drewN ?_ _ | refine bel_then ?_ (by assumption)))
/-- The cells that a tip reads. -/
theorem sin_cells {w : World} {v : Value} {a : Nat} (hv : RdI w v sinL) (ha : a ≤ 90) : ∃ g off c, v = .slice (some ⟨g, off, none⟩) 91 c ∧ 91 ≤ c ∧ c ≤ 9223372036854775807 ∧ g < w.heap.size ∧ w.cell? ⟨g, off + a, none⟩ = some (.int .i64 (sn a)) ∧ w.cell? ⟨g, off + (90 - a), none⟩ = some (.int .i64 (sn (90 - a))) := by
  obtain ⟨A, c, rfl, hc, hm, hr⟩ := hv
  have hl : sinL.length = 91 := rfl
  rw [hl] at hc
  obtain ⟨g, off, rfl, hg, hcell⟩ := hr (by decide)
  refine ⟨g, off, c, rfl, hc, ?_, hg, hcell _ _ (ints_get (sn_get ha)), hcell _ _ (ints_get (sn_get (by omega)))⟩
  rw [maxLen_eq] at hm
  omega
/-- The arithmetic of a tip: the product and the quotient. -/
theorem tip_facts {n a : Nat} (ha : a ≤ 90) (hn : n ≤ 600) : ∃ p y : Int, IntKind.i64.wrap ((n : Int) * sn a) = p ∧ IntKind.i64.wrap (p.tdiv 10000) = y ∧ y = tipL n (sn a) ∧ 0 ≤ y ∧ y ≤ 600 := by
  obtain ⟨h1, h2⟩ := sn_bd ha
  have m1 : 0 ≤ (n : Int) * sn a ∧ (n : Int) * sn a ≤ 6000000 := mul_bd (A := 600) (B := 10000) (by omega) (by omega) h1 h2
  have t1 := tipL_bd h1 h2 hn
  exact ⟨_, _, IntWalk.i64_in _ (by omega), quoT m1, rfl, t1.1, t1.2⟩
set_option maxRecDepth 100000 in
set_option maxHeartbeats 2000000 in
theorem tip_c (b l o s m : Int) (v : Value) (a n : Nat) (w : World) (hv : RdI w v sinL) (hb : 0 ≤ b ∧ b ≤ 40) (ha : a ≤ 90) (hn : n ≤ 600) :
    Calls Tryd.prog 58 #[ldV b l o s m, v, .int .i64 a, .int .i64 n] w fun en w' => en = .returned (.tuple #[.int .i64 (tipL n (sn (90 - a))), .int .i64 (b + tipL n (sn a))]) ∧ Below w.heap.size w w' := by
  obtain ⟨g, off, c, rfl, hc, hcm, hg, c1, c2⟩ := sin_cells hv ha
  clear hv
  obtain ⟨p1, y1, f1⟩ := tip_facts (n := n) (a := a) ha hn
  obtain ⟨p2, y2, f2⟩ := tip_facts (n := n) (a := 90 - a) (by omega) hn
  obtain ⟨q, hq⟩ : ∃ q : Nat, 90 - a = q := ⟨_, rfl⟩
  rw [hq] at f2 c2
  have hq90 : q ≤ 90 := by omega
  have e3 : IntKind.i64.wrap (90 - (a : Int)) = (q : Int) := by rw [IntWalk.i64_in _ (by omega)]; omega
  obtain ⟨g1, g2, g3, g4, g5⟩ := f1
  obtain ⟨k1, k2, k3, k4, k5⟩ := f2
  rw [hq, ← g3, ← k3]
  have e5 : IntKind.i64.wrap (b + y1) = b + y1 := IntWalk.i64_in _ (by omega)
  have i1 : (0 : Int) ≤ (a : Int) := Int.natCast_nonneg _
  have i2 : (0 : Int) ≤ (q : Int) := Int.natCast_nonneg _
  have i3 : (a : Int) < 91 := by omega
  have i4 : (q : Int) < 91 := by omega
  clear g3 k3 hq
  go_enter Tryd.func58, Tryd.ntmps58
  go_wp2_with fail
  go_region
  go_wp2
  go_ret2
  exact ⟨rfl, (by repeat (first | exact Below.refl _ _ | assumption | refine bel_al ?_ _ | refine bel_dr ?_ | refine below_drewN ?_ _ | refine bel_then ?_ (by assumption)))⟩
end Go.Proofs.YtibkadkodblefaaDoor
