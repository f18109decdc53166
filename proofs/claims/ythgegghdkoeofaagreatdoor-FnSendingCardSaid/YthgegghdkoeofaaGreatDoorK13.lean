/-
  Available appliances (printed by gen_ava.py). (joined by pack.py: Ava)
-/
import Derived.Test.YthgegghdkoeofaaGreatDoorK9
import Derived.BigRegion
import Derived.Laws.Tables
namespace Go.Proofs.YthgegghdkoeofaaGreatDoor
set_option linter.unusedVariables false
set_option linter.unusedSimpArgs false
open Go.RowKit

def avNeed (kd : Int) : Int := if kd = 0 then 4 else if kd = 1 then 2 else if kd = 2 then 3 else 2
def avB (a : Ap) : Bool := (decide (a.sv = 0) || decide (a.sv = 4)) && decide (avNeed a.kd ≤ a.cr)
theorem build4 (w : World) : (Instr.build 170 #[(0, .int .i64 4), (1, .int .i64 2), (2, .int .i64 3), (3, .int .i64 2)]).run Tryz.prog w = .ok (.agg #[.int .i64 4, .int .i64 2, .int .i64 3, .int .i64 2]) w :=
  run_build w 170 _ _ (by kernel_rfl)
theorem index4_0 (w : World) : (Instr.index 170 (.agg #[.int .i64 4, .int .i64 2, .int .i64 3, .int .i64 2]) (.int .i64 0)).run Tryz.prog w = .ok (.int .i64 4) w := by kernel_rfl
theorem index4_1 (w : World) : (Instr.index 170 (.agg #[.int .i64 4, .int .i64 2, .int .i64 3, .int .i64 2]) (.int .i64 1)).run Tryz.prog w = .ok (.int .i64 2) w := by kernel_rfl
theorem index4_2 (w : World) : (Instr.index 170 (.agg #[.int .i64 4, .int .i64 2, .int .i64 3, .int .i64 2]) (.int .i64 2)).run Tryz.prog w = .ok (.int .i64 3) w := by kernel_rfl
theorem index4_3 (w : World) : (Instr.index 170 (.agg #[.int .i64 4, .int .i64 2, .int .i64 3, .int .i64 2]) (.int .i64 3)).run Tryz.prog w = .ok (.int .i64 2) w := by kernel_rfl
set_option maxRecDepth 100000 in
set_option maxHeartbeats 4000000 in
theorem isAvailable_c (nm : ByteArray) (kd nd cr sv : Int) (w : World) (h0 : 0 ≤ kd) (h3 : kd ≤ 3) :
    Calls Tryz.prog 141 #[.agg #[.string nm, .int .i64 kd, .int .i64 nd, .int .i64 cr, .int .i64 sv]] w fun e w' => e = .returned (.bool (avB ⟨nm, kd, nd, cr, sv⟩)) ∧ Below w.heap.size w w' := by
  have HV : ∀ b : Bool, ((decide (sv = 0) || decide (sv = 4)) && decide (avNeed kd ≤ cr)) = b → Hid (avB ⟨nm, kd, nd, cr, sv⟩ = b) := fun b h => Lib.hid h
  by_cases s0 : sv = 0
  ·
    have e0 : ((sv : Int) == 0) = true := by rw [beq_iff_eq]; exact s0
    have hv := HV (decide (avNeed kd ≤ cr)) (by rw [decide_eq_true s0]; rfl)
    clear HV s0
    rcases (show kd = 0 ∨ kd = 1 ∨ kd = 2 ∨ kd = 3 by omega) with rfl | rfl | rfl | rfl
    ·
      have hb4 := build4
      have hi4 := index4_0
      go_enter Tryz.func141, Tryz.ntmps141
      go_wp2_with fail
      go_quiet (fail)
      all_goals
        go_wp2
        go_ret
        rw [hv.out]
        exact ⟨by first | rfl | (simp only [avNeed]; rfl), (by repeat (first | exact Below.refl _ _ | assumption | refine bel_al ?_ _ | refine bel_dr ?_ | refine below_drewN ?_ _ | refine bel_then ?_ (by assumption)))⟩
    ·
      have hb4 := build4
      have hi4 := index4_1
      go_enter Tryz.func141, Tryz.ntmps141
      go_wp2_with fail
      go_quiet (fail)
      all_goals
        go_wp2
        go_ret
        rw [hv.out]
        exact ⟨by first | rfl | (simp only [avNeed]; rfl), (by repeat (first | exact Below.refl _ _ | assumption | refine bel_al ?_ _ | refine bel_dr ?_ | refine below_drewN ?_ _ | refine bel_then ?_ (by assumption)))⟩
    ·
      have hb4 := build4
      have hi4 := index4_2
      go_enter Tryz.func141, Tryz.ntmps141
      go_wp2_with fail
      go_quiet (fail)
      all_goals
        go_wp2
        go_ret
        rw [hv.out]
        exact ⟨by first | rfl | (simp only [avNeed]; rfl), (by repeat (first | exact Below.refl _ _ | assumption | refine bel_al ?_ _ | refine bel_dr ?_ | refine below_drewN ?_ _ | refine bel_then ?_ (by assumption)))⟩
    ·
      have hb4 := build4
      have hi4 := index4_3
      go_enter Tryz.func141, Tryz.ntmps141
      go_wp2_with fail
      go_quiet (fail)
      all_goals
        go_wp2
        go_ret
        rw [hv.out]
        exact ⟨by first | rfl | (simp only [avNeed]; rfl), (by repeat (first | exact Below.refl _ _ | assumption | refine bel_al ?_ _ | refine bel_dr ?_ | refine below_drewN ?_ _ | refine bel_then ?_ (by assumption)))⟩
  · have e0 : ((sv : Int) == 0) = false := by rw [beq_eq_false_iff_ne]; exact s0
    by_cases s4 : sv = 4
    ·
      have e4 : ((sv : Int) == 4) = true := by rw [beq_iff_eq]; exact s4
      have hv := HV (decide (avNeed kd ≤ cr)) (by rw [decide_eq_false s0, decide_eq_true s4]; rfl)
      clear HV s0 s4
      rcases (show kd = 0 ∨ kd = 1 ∨ kd = 2 ∨ kd = 3 by omega) with rfl | rfl | rfl | rfl
      ·
        have hb4 := build4
        have hi4 := index4_0
        go_enter Tryz.func141, Tryz.ntmps141
        go_wp2_with fail
        go_quiet (fail)
        all_goals
          go_wp2
          go_ret
          rw [hv.out]
          exact ⟨by first | rfl | (simp only [avNeed]; rfl), (by repeat (first | exact Below.refl _ _ | assumption | refine bel_al ?_ _ | refine bel_dr ?_ | refine below_drewN ?_ _ | refine bel_then ?_ (by assumption)))⟩
      ·
        have hb4 := build4
        have hi4 := index4_1
        go_enter Tryz.func141, Tryz.ntmps141
        go_wp2_with fail
        go_quiet (fail)
        all_goals
          go_wp2
          go_ret
          rw [hv.out]
          exact ⟨by first | rfl | (simp only [avNeed]; rfl), (by repeat (first | exact Below.refl _ _ | assumption | refine bel_al ?_ _ | refine bel_dr ?_ | refine below_drewN ?_ _ | refine bel_then ?_ (by assumption)))⟩
      ·
        have hb4 := build4
        have hi4 := index4_2
        go_enter Tryz.func141, Tryz.ntmps141
        go_wp2_with fail
        go_quiet (fail)
        all_goals
          go_wp2
          go_ret
          rw [hv.out]
          exact ⟨by first | rfl | (simp only [avNeed]; rfl), (by repeat (first | exact Below.refl _ _ | assumption | refine bel_al ?_ _ | refine bel_dr ?_ | refine below_drewN ?_ _ | refine bel_then ?_ (by assumption)))⟩
      ·
        have hb4 := build4
        have hi4 := index4_3
        go_enter Tryz.func141, Tryz.ntmps141
        go_wp2_with fail
        go_quiet (fail)
        all_goals
          go_wp2
          go_ret
          rw [hv.out]
          exact ⟨by first | rfl | (simp only [avNeed]; rfl), (by repeat (first | exact Below.refl _ _ | assumption | refine bel_al ?_ _ | refine bel_dr ?_ | refine below_drewN ?_ _ | refine bel_then ?_ (by assumption)))⟩
    ·
      have e4 : ((sv : Int) == 4) = false := by rw [beq_eq_false_iff_ne]; exact s4
      have hv := HV false (by rw [decide_eq_false s0, decide_eq_false s4]; rfl)
      clear HV s0 s4
      rcases (show kd = 0 ∨ kd = 1 ∨ kd = 2 ∨ kd = 3 by omega) with rfl | rfl | rfl | rfl
      ·
        go_enter Tryz.func141, Tryz.ntmps141
        go_wp2_with fail
        go_quiet (fail)
        all_goals
          go_wp2
          go_ret
          rw [hv.out]
          exact ⟨by first | rfl | (simp only [avNeed]; rfl), (by repeat (first | exact Below.refl _ _ | assumption | refine bel_al ?_ _ | refine bel_dr ?_ | refine below_drewN ?_ _ | refine bel_then ?_ (by assumption)))⟩
      ·
        go_enter Tryz.func141, Tryz.ntmps141
        go_wp2_with fail
        go_quiet (fail)
        all_goals
          go_wp2
          go_ret
          rw [hv.out]
          exact ⟨by first | rfl | (simp only [avNeed]; rfl), (by repeat (first | exact Below.refl _ _ | assumption | refine bel_al ?_ _ | refine bel_dr ?_ | refine below_drewN ?_ _ | refine bel_then ?_ (by assumption)))⟩
      ·
        go_enter Tryz.func141, Tryz.ntmps141
        go_wp2_with fail
        go_quiet (fail)
        all_goals
          go_wp2
          go_ret
          rw [hv.out]
          exact ⟨by first | rfl | (simp only [avNeed]; rfl), (by repeat (first | exact Below.refl _ _ | assumption | refine bel_al ?_ _ | refine bel_dr ?_ | refine below_drewN ?_ _ | refine bel_then ?_ (by assumption)))⟩
      ·
        go_enter Tryz.func141, Tryz.ntmps141
        go_wp2_with fail
        go_quiet (fail)
        all_goals
          go_wp2
          go_ret
          rw [hv.out]
          exact ⟨by first | rfl | (simp only [avNeed]; rfl), (by repeat (first | exact Below.refl _ _ | assumption | refine bel_al ?_ _ | refine bel_dr ?_ | refine below_drewN ?_ _ | refine bel_then ?_ (by assumption)))⟩
set_option maxRecDepth 100000 in
set_option maxHeartbeats 4000000 in
theorem apReady_c (nm : ByteArray) (kd nd cr sv : Int) (w : World) (h0 : 0 ≤ kd) (h3 : kd ≤ 3) :
    Calls Tryz.prog 145 #[.agg #[.string nm, .int .i64 kd, .int .i64 nd, .int .i64 cr, .int .i64 sv]] w fun e w' => e = .returned (.bool (avB ⟨nm, kd, nd, cr, sv⟩)) ∧ Below w.heap.size w w' := by
  have HV : ∀ b : Bool, ((decide (sv = 0) || decide (sv = 4)) && decide (avNeed kd ≤ cr)) = b → Hid (avB ⟨nm, kd, nd, cr, sv⟩ = b) := fun b h => Lib.hid h
  by_cases s0 : sv = 0
  ·
    have e0 : ((sv : Int) == 0) = true := by rw [beq_iff_eq]; exact s0
    have hv := HV (decide (avNeed kd ≤ cr)) (by rw [decide_eq_true s0]; rfl)
    clear HV s0
    rcases (show kd = 0 ∨ kd = 1 ∨ kd = 2 ∨ kd = 3 by omega) with rfl | rfl | rfl | rfl
    ·
      go_enter Tryz.func145, Tryz.ntmps145
      go_wp2_with fail
      go_region
      all_goals
        go_wp2
        go_ret
        rw [hv.out]
        exact ⟨by first | rfl | (simp only [avNeed]; rfl), (by repeat (first | exact Below.refl _ _ | assumption | refine bel_al ?_ _ | refine bel_dr ?_ | refine below_drewN ?_ _ | refine bel_then ?_ (by assumption)))⟩
    ·
      go_enter Tryz.func145, Tryz.ntmps145
      go_wp2_with fail
      go_region
      all_goals
        go_wp2
        go_ret
        rw [hv.out]
        exact ⟨by first | rfl | (simp only [avNeed]; rfl), (by repeat (first | exact Below.refl _ _ | assumption | refine bel_al ?_ _ | refine bel_dr ?_ | refine below_drewN ?_ _ | refine bel_then ?_ (by assumption)))⟩
    ·
      go_enter Tryz.func145, Tryz.ntmps145
      go_wp2_with fail
      go_region
      all_goals
        go_wp2
        go_ret
        rw [hv.out]
        exact ⟨by first | rfl | (simp only [avNeed]; rfl), (by repeat (first | exact Below.refl _ _ | assumption | refine bel_al ?_ _ | refine bel_dr ?_ | refine below_drewN ?_ _ | refine bel_then ?_ (by assumption)))⟩
    ·
      go_enter Tryz.func145, Tryz.ntmps145
      go_wp2_with fail
      go_region
      all_goals
        go_wp2
        go_ret
        rw [hv.out]
        exact ⟨by first | rfl | (simp only [avNeed]; rfl), (by repeat (first | exact Below.refl _ _ | assumption | refine bel_al ?_ _ | refine bel_dr ?_ | refine below_drewN ?_ _ | refine bel_then ?_ (by assumption)))⟩
  · have e0 : ((sv : Int) == 0) = false := by rw [beq_eq_false_iff_ne]; exact s0
    by_cases s4 : sv = 4
    ·
      have e4 : ((sv : Int) == 4) = true := by rw [beq_iff_eq]; exact s4
      have hv := HV (decide (avNeed kd ≤ cr)) (by rw [decide_eq_false s0, decide_eq_true s4]; rfl)
      clear HV s0 s4
      rcases (show kd = 0 ∨ kd = 1 ∨ kd = 2 ∨ kd = 3 by omega) with rfl | rfl | rfl | rfl
      ·
        go_enter Tryz.func145, Tryz.ntmps145
        go_wp2_with fail
        go_region
        all_goals
          go_wp2
          go_ret
          rw [hv.out]
          exact ⟨by first | rfl | (simp only [avNeed]; rfl), (by repeat (first | exact Below.refl _ _ | assumption | refine bel_al ?_ _ | refine bel_dr ?_ | refine below_drewN ?_ _ | refine bel_then ?_ (by assumption)))⟩
      ·
        go_enter Tryz.func145, Tryz.ntmps145
        go_wp2_with fail
        go_region
        all_goals
          go_wp2
          go_ret
          rw [hv.out]
          exact ⟨by first | rfl | (simp only [avNeed]; rfl), (by repeat (first | exact Below.refl _ _ | assumption | refine bel_al ?_ _ | refine bel_dr ?_ | refine below_drewN ?_ _ | refine bel_then ?_ (by assumption)))⟩
      ·
        go_enter Tryz.func145, Tryz.ntmps145
        go_wp2_with fail
        go_region
        all_goals
          go_wp2
          go_ret
          rw [hv.out]
          exact ⟨by first | rfl | (simp only [avNeed]; rfl), (by repeat (first | exact Below.refl _ _ | assumption | refine bel_al ?_ _ | refine bel_dr ?_ | refine below_drewN ?_ _ | refine bel_then ?_ (by assumption)))⟩
      ·
        go_enter Tryz.func145, Tryz.ntmps145
        go_wp2_with fail
        go_region
        all_goals
          go_wp2
          go_ret
          rw [hv.out]
          exact ⟨by first | rfl | (simp only [avNeed]; rfl), (by repeat (first | exact Below.refl _ _ | assumption | refine bel_al ?_ _ | refine bel_dr ?_ | refine below_drewN ?_ _ | refine bel_then ?_ (by assumption)))⟩
    ·
      have e4 : ((sv : Int) == 4) = false := by rw [beq_eq_false_iff_ne]; exact s4
      have hv := HV false (by rw [decide_eq_false s0, decide_eq_false s4]; rfl)
      clear HV s0 s4
      rcases (show kd = 0 ∨ kd = 1 ∨ kd = 2 ∨ kd = 3 by omega) with rfl | rfl | rfl | rfl
      ·
        go_enter Tryz.func145, Tryz.ntmps145
        go_wp2_with fail
        go_quiet (fail)
        all_goals
          go_wp2
          go_ret
          rw [hv.out]
          exact ⟨by first | rfl | (simp only [avNeed]; rfl), (by repeat (first | exact Below.refl _ _ | assumption | refine bel_al ?_ _ | refine bel_dr ?_ | refine below_drewN ?_ _ | refine bel_then ?_ (by assumption)))⟩
      ·
        go_enter Tryz.func145, Tryz.ntmps145
        go_wp2_with fail
        go_quiet (fail)
        all_goals
          go_wp2
          go_ret
          rw [hv.out]
          exact ⟨by first | rfl | (simp only [avNeed]; rfl), (by repeat (first | exact Below.refl _ _ | assumption | refine bel_al ?_ _ | refine bel_dr ?_ | refine below_drewN ?_ _ | refine bel_then ?_ (by assumption)))⟩
      ·
        go_enter Tryz.func145, Tryz.ntmps145
        go_wp2_with fail
        go_quiet (fail)
        all_goals
          go_wp2
          go_ret
          rw [hv.out]
          exact ⟨by first | rfl | (simp only [avNeed]; rfl), (by repeat (first | exact Below.refl _ _ | assumption | refine bel_al ?_ _ | refine bel_dr ?_ | refine below_drewN ?_ _ | refine bel_then ?_ (by assumption)))⟩
      ·
        go_enter Tryz.func145, Tryz.ntmps145
        go_wp2_with fail
        go_quiet (fail)
        all_goals
          go_wp2
          go_ret
          rw [hv.out]
          exact ⟨by first | rfl | (simp only [avNeed]; rfl), (by repeat (first | exact Below.refl _ _ | assumption | refine bel_al ?_ _ | refine bel_dr ?_ | refine below_drewN ?_ _ | refine bel_then ?_ (by assumption)))⟩
end Go.Proofs.YthgegghdkoeofaaGreatDoor
