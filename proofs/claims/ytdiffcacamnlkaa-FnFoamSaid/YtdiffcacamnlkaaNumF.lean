/-
  Contracts over numbers alone: foam, water, rounding up.
-/
import Derived.Test.YtdiffcacamnlkaaNum
namespace Go.Proofs.Ytdiffcacamnlkaa
open Go.RowKit

set_option maxHeartbeats 400000 in
theorem shPercent_c (n : Int) (w : World) :
    Calls Try.prog 46 #[.int .i64 n] w fun e w' => e = .returned (.bool (inB n 1 6)) ∧ w = w' := by
  go_enter Try.func46, Try.ntmps46
  go_wp2_with (go_at_call 45; refine (l1In_c _ _ _ _).mono ?_; rintro e w' ⟨rfl, rfl⟩)
  go_ret
  exact ⟨rfl, rfl⟩

set_option maxHeartbeats 400000 in
theorem upTo_c (a b : Int) (w : World) (ha : 0 ≤ a) (ha' : a ≤ 1000000000000) (hb : 1 ≤ b) (hb' : b ≤ 1000000000000) :
    Calls Try.prog 44 #[.int .i64 a, .int .i64 b] w fun e w' => e = .returned (.int .i64 ((a + b - 1) / b)) ∧ w = w' := by
  go_enter Try.func44, Try.ntmps44
  go_wp2
  go_ret
  exact ⟨rfl, rfl⟩

/-- What FoamFor gives. -/
def foamFor (a r p m : Int) : Int × Int × Bool :=
  if inB a 1 5000 && inB r 1 20 && inB p 1 6 && inB m 1 60 then (a * r * m - (a * r * m * p + 99) / 100, (a * r * m * p + 99) / 100, true) else (0, 0, false)

set_option maxHeartbeats 400000 in
theorem foamForS_c (a r p m : Int) (w : World) :
    Calls Try.prog 8 #[.int .i64 a, .int .i64 r, .int .i64 p, .int .i64 m] w fun e w' =>
      e = .returned (.tuple #[.int .i64 (foamFor a r p m).1, .int .i64 (foamFor a r p m).2.1, .bool (foamFor a r p m).2.2]) ∧ w = w' := by
  by_cases h : inB a 1 5000 && inB r 1 20 && inB p 1 6 && inB m 1 60
  · have H := Lib.hid h
    simp only [Bool.and_eq_true] at h
    obtain ⟨⟨⟨h1, h2⟩, h3⟩, h4⟩ := h
    obtain ⟨b1, b1'⟩ := inB_true h1
    obtain ⟨b2, b2'⟩ := inB_true h2
    obtain ⟨b3, b3'⟩ := inB_true h3
    obtain ⟨b4, b4'⟩ := inB_true h4
    obtain ⟨m1, m1'⟩ := mul_bd (a := a) (b := r) (by omega) b1' (by omega) b2'
    obtain ⟨m2, m2'⟩ := mul_bd (a := a * r) (b := m) (by omega) m1' (by omega) b4'
    obtain ⟨m3, m3'⟩ := mul_bd (a := a * r * m) (b := p) (by omega) m2' (by omega) b3'
    go_enter Try.func8, Try.ntmps8
    go_wp2_with (first | (go_at_call 45; refine (l1In_c _ _ _ _).mono ?_; rintro e w' ⟨rfl, rfl⟩) | (go_at_call 46; refine (shPercent_c _ _).mono ?_; rintro e w' ⟨rfl, rfl⟩))
    go_ret3
    exact ⟨by unfold foamFor; rw [if_pos H.out]; rfl, rfl⟩
  · go_enter Try.func8, Try.ntmps8
    have H := Lib.hid h
    clear h
    go_wp2_with (first | (go_at_call 45; refine (l1In_c _ _ _ _).mono ?_; rintro e w' ⟨rfl, rfl⟩) | (go_at_call 46; refine (shPercent_c _ _).mono ?_; rintro e w' ⟨rfl, rfl⟩))
    all_goals first
      | (exfalso; have := H.out; simp_all; done)
      | (go_ret3; exact ⟨by unfold foamFor; rw [if_neg H.out]; rfl, rfl⟩)


set_option maxHeartbeats 400000 in
theorem foamForI_c (a r p m : Int) (w : World) :
    Calls Try.prog 7 #[.int .i64 a, .int .i64 r, .int .i64 p, .int .i64 m] w fun e w' =>
      e = .returned (.tuple #[.int .i64 (foamFor a r p m).1, .int .i64 (foamFor a r p m).2.1, .bool (foamFor a r p m).2.2]) ∧ w = w' := by
  by_cases h : inB a 1 5000 && inB r 1 20 && inB p 1 6 && inB m 1 60
  · have H := Lib.hid h
    simp only [Bool.and_eq_true] at h
    obtain ⟨⟨⟨h1, h2⟩, h3⟩, h4⟩ := h
    obtain ⟨b1, b1'⟩ := inB_true h1
    obtain ⟨b2, b2'⟩ := inB_true h2
    obtain ⟨b3, b3'⟩ := inB_true h3
    obtain ⟨b4, b4'⟩ := inB_true h4
    obtain ⟨m1, m1'⟩ := mul_bd (a := a) (b := r) (by omega) b1' (by omega) b2'
    obtain ⟨m2, m2'⟩ := mul_bd (a := a * r) (b := m) (by omega) m1' (by omega) b4'
    obtain ⟨m3, m3'⟩ := mul_bd (a := a * r * m) (b := p) (by omega) m2' (by omega) b3'
    go_enter Try.func7, Try.ntmps7
    go_wp2_with (first | (go_at_call 43; refine (inside_c _ _ _ _).mono ?_; rintro e w' ⟨rfl, rfl⟩) | (go_at_call 44; refine (upTo_c _ _ _ (by omega) (by omega) (by omega) (by omega)).mono ?_; rintro e w' ⟨rfl, rfl⟩))
    go_ret3
    refine ⟨?_, rfl⟩
    have e1 : a * r * m * p + 100 - 1 = a * r * m * p + 99 := by omega
    unfold foamFor; rw [if_pos H.out, ← e1]; rfl
  · go_enter Try.func7, Try.ntmps7
    have H := Lib.hid h
    clear h
    go_wp2_with (first | (go_at_call 43; refine (inside_c _ _ _ _).mono ?_; rintro e w' ⟨rfl, rfl⟩) | (go_at_call 44; exfalso; have := H.out; simp_all; done))
    all_goals first
      | (exfalso; have := H.out; simp_all; done)
      | (go_ret3; exact ⟨by unfold foamFor; rw [if_neg H.out]; rfl, rfl⟩)

theorem shStore_c (n : Int) (w : World) :
    Calls Try.prog 48 #[.int .i64 n] w fun e w' => e = .returned (.bool (inB n 0 100000)) ∧ w = w' := by
  go_enter Try.func48, Try.ntmps48
  go_wp2_with (go_at_call 45; refine (l1In_c _ _ _ _).mono ?_; rintro e w' ⟨rfl, rfl⟩)
  go_ret
  exact ⟨rfl, rfl⟩
theorem shFlow_c (n : Int) (w : World) :
    Calls Try.prog 49 #[.int .i64 n] w fun e w' => e = .returned (.bool (inB n 1 6000)) ∧ w = w' := by
  go_enter Try.func49, Try.ntmps49
  go_wp2_with (go_at_call 45; refine (l1In_c _ _ _ _).mono ?_; rintro e w' ⟨rfl, rfl⟩)
  go_ret
  exact ⟨rfl, rfl⟩
theorem l1Least_c (a b : Int) (w : World) :
    Calls Try.prog 50 #[.int .i64 a, .int .i64 b] w fun e w' => e = .returned (.int .i64 (minI a b)) ∧ w = w' := by
  go_enter Try.func50, Try.ntmps50
  go_wp2
  · go_ret
    exact ⟨by unfold minI; rw [if_pos (by assumption)]; rfl, rfl⟩
  · go_ret
    exact ⟨by unfold minI; rw [if_neg (by omega)]; rfl, rfl⟩
/-- What FoamLasts gives. -/
def foamLasts (wa fo fl p : Int) : Int × Bool :=
  if inB wa 0 100000 && inB fo 0 100000 && inB fl 1 6000 && inB p 1 6 then
    (if (fl * p + 99) / 100 < fl then minI (fo / ((fl * p + 99) / 100)) (wa / (fl - (fl * p + 99) / 100)) else fo / ((fl * p + 99) / 100), true)
  else (0, false)

set_option maxHeartbeats 400000 in
theorem foamLastsS_c (wa fo fl p : Int) (w : World) :
    Calls Try.prog 11 #[.int .i64 wa, .int .i64 fo, .int .i64 fl, .int .i64 p] w fun e w' =>
      e = .returned (.tuple #[.int .i64 (foamLasts wa fo fl p).1, .bool (foamLasts wa fo fl p).2]) ∧ w = w' := by
  by_cases h : inB wa 0 100000 && inB fo 0 100000 && inB fl 1 6000 && inB p 1 6
  · have H := Lib.hid h
    simp only [Bool.and_eq_true] at h
    obtain ⟨⟨⟨h1, h2⟩, h3⟩, h4⟩ := h
    obtain ⟨b1, b1'⟩ := inB_true h1
    obtain ⟨b2, b2'⟩ := inB_true h2
    obtain ⟨b3, b3'⟩ := inB_true h3
    obtain ⟨b4, b4'⟩ := inB_true h4
    obtain ⟨m1, m1'⟩ := mul_bd (a := fl) (b := p) (by omega) b3' (by omega) b4'
    have m1 : 1 ≤ fl * p := by have := Int.mul_le_mul b3 b4 (by omega) (by omega); omega
    by_cases hp : (fl * p + 99) / 100 < fl
    all_goals
      have HP := Lib.hid hp
      go_enter Try.func11, Try.ntmps11
      go_wp2_with (first | (go_at_call 48; refine (shStore_c _ _).mono ?_; rintro e w' ⟨rfl, rfl⟩) | (go_at_call 49; refine (shFlow_c _ _).mono ?_; rintro e w' ⟨rfl, rfl⟩) | (go_at_call 46; refine (shPercent_c _ _).mono ?_; rintro e w' ⟨rfl, rfl⟩) | (go_at_call 50; refine (l1Least_c _ _ _).mono ?_; rintro e w' ⟨rfl, rfl⟩))
      go_ret2
      refine ⟨?_, rfl⟩
      unfold foamLasts
      rw [if_pos H.out]
      first | (rw [if_pos HP.out]; rfl) | (rw [if_neg (by have := HP.out; omega)]; rfl)
  · go_enter Try.func11, Try.ntmps11
    have H := Lib.hid h
    clear h
    go_wp2_with (first | (go_at_call 48; refine (shStore_c _ _).mono ?_; rintro e w' ⟨rfl, rfl⟩) | (go_at_call 49; refine (shFlow_c _ _).mono ?_; rintro e w' ⟨rfl, rfl⟩) | (go_at_call 46; refine (shPercent_c _ _).mono ?_; rintro e w' ⟨rfl, rfl⟩) | (go_at_call 50; exfalso; have := H.out; simp_all; done))
    all_goals first
      | (exfalso; have := H.out; simp_all; done)
      | (go_ret2; exact ⟨by unfold foamLasts; rw [if_neg H.out]; rfl, rfl⟩)

set_option maxHeartbeats 400000 in
theorem foamLastsI_c (wa fo fl p : Int) (w : World) :
    Calls Try.prog 10 #[.int .i64 wa, .int .i64 fo, .int .i64 fl, .int .i64 p] w fun e w' =>
      e = .returned (.tuple #[.int .i64 (foamLasts wa fo fl p).1, .bool (foamLasts wa fo fl p).2]) ∧ w = w' := by
  by_cases h : inB wa 0 100000 && inB fo 0 100000 && inB fl 1 6000 && inB p 1 6
  · have H := Lib.hid h
    simp only [Bool.and_eq_true] at h
    obtain ⟨⟨⟨h1, h2⟩, h3⟩, h4⟩ := h
    obtain ⟨b1, b1'⟩ := inB_true h1
    obtain ⟨b2, b2'⟩ := inB_true h2
    obtain ⟨b3, b3'⟩ := inB_true h3
    obtain ⟨b4, b4'⟩ := inB_true h4
    obtain ⟨m1, m1'⟩ := mul_bd (a := fl) (b := p) (by omega) b3' (by omega) b4'
    have m1 : 1 ≤ fl * p := by have := Int.mul_le_mul b3 b4 (by omega) (by omega); omega
    have e1 : Hid (fl * p + 100 - 1 = fl * p + 99) := Lib.hid (by omega)
    by_cases hp : (fl * p + 99) / 100 < fl
    all_goals
      have HP := Lib.hid hp
      go_enter Try.func10, Try.ntmps10
      go_wp2_with (first | (go_at_call 43; refine (inside_c _ _ _ _).mono ?_; rintro e w' ⟨rfl, rfl⟩) | (go_at_call 44; refine (upTo_c _ _ _ (by omega) (by omega) (by omega) (by omega)).mono ?_; rintro e w' ⟨rfl, rfl⟩; rw [e1.out]))
      all_goals
        go_ret2
        refine ⟨?_, rfl⟩
        unfold foamLasts
        rw [if_pos H.out]
        first | (rw [if_neg (by have := HP.out; omega)]; rfl) | (rw [if_pos HP.out, minI_eq]; exact ret_int2 (by omega))
  · go_enter Try.func10, Try.ntmps10
    have H := Lib.hid h
    clear h
    go_wp2_with (first | (go_at_call 43; refine (inside_c _ _ _ _).mono ?_; rintro e w' ⟨rfl, rfl⟩) | (go_at_call 44; exfalso; have := H.out; simp_all; done))
    all_goals first
      | (exfalso; have := H.out; simp_all; done)
      | (go_ret2; exact ⟨by unfold foamLasts; rw [if_neg H.out]; rfl, rfl⟩)

end Go.Proofs.Ytdiffcacamnlkaa
