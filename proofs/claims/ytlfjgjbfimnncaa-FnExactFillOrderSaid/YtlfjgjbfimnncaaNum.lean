/-
  Contracts of the small number functions (bounds, rounding up), for every integer; no conditions beside those stated.
-/
import Derived.Test.YtlfjgjbfimnncaaRows
import Derived.WalkKit
import Derived.WalkSpells
import Derived.WalkLawsBesides
import Derived.BigGuardPart
import Derived.Lib.Hide
namespace Go.Proofs.Ytlfjgjbfimnncaa
open Go.RowKit

def inB (n lo hi : Int) : Bool := decide (lo ≤ n) && decide (n ≤ hi)

theorem inB_true {n lo hi : Int} (h : inB n lo hi = true) : lo ≤ n ∧ n ≤ hi := by simpa [inB] using h
theorem inB_of {n lo hi : Int} (h : lo ≤ n) (h' : n ≤ hi) : inB n lo hi = true := by simp [inB, h, h']

set_option maxHeartbeats 400000 in
theorem l1In_c (n lo hi : Int) (w : World) :
    Calls Try.prog 54 #[.int .i64 n, .int .i64 lo, .int .i64 hi] w fun e w' => e = .returned (.bool (inB n lo hi)) ∧ w = w' := by
  unfold inB
  by_cases h : lo ≤ n
  · go_enter Try.func54, Try.ntmps54
    go_wp2
    go_ret
    exact ⟨by simp [h], rfl⟩
  · go_enter Try.func54, Try.ntmps54
    go_wp2
    go_ret
    exact ⟨by rw [decide_eq_false (by omega)]; rfl, rfl⟩

set_option maxHeartbeats 400000 in
theorem inside_c (n lo hi : Int) (w : World) :
    Calls Try.prog 56 #[.int .i64 n, .int .i64 lo, .int .i64 hi] w fun e w' => e = .returned (.bool (inB n lo hi)) ∧ w = w' := by
  unfold inB
  by_cases h : lo ≤ n
  · go_enter Try.func56, Try.ntmps56
    go_wp2
    go_ret
    exact ⟨by simp [h], rfl⟩
  · go_enter Try.func56, Try.ntmps56
    go_wp2
    go_ret
    exact ⟨by rw [decide_eq_false (by omega)]; rfl, rfl⟩

set_option maxHeartbeats 400000 in
theorem shPercent_c (n : Int) (w : World) :
    Calls Try.prog 55 #[.int .i64 n] w fun e w' => e = .returned (.bool (inB n 1 6)) ∧ w = w' := by
  go_enter Try.func55, Try.ntmps55
  go_wp2_with (go_at_call 54; refine (l1In_c _ _ _ _).mono ?_; rintro e w' ⟨rfl, rfl⟩)
  go_ret
  exact ⟨rfl, rfl⟩

set_option maxHeartbeats 400000 in
theorem upTo_c (a b : Int) (w : World) (ha : 0 ≤ a) (ha' : a ≤ 1000000000000) (hb : 1 ≤ b) (hb' : b ≤ 1000000000000) :
    Calls Try.prog 57 #[.int .i64 a, .int .i64 b] w fun e w' => e = .returned (.int .i64 ((a + b - 1) / b)) ∧ w = w' := by
  go_enter Try.func57, Try.ntmps57
  go_wp2
  go_ret
  exact ⟨rfl, rfl⟩

/-- What FoamFor gives. -/
def foamFor (a r p m : Int) : Int × Int × Bool :=
  if inB a 1 5000 && inB r 1 20 && inB p 1 6 && inB m 1 60 then (a * r * m - (a * r * m * p + 99) / 100, (a * r * m * p + 99) / 100, true) else (0, 0, false)

theorem mul_bd {a b A B : Int} (ha : 0 ≤ a) (hA : a ≤ A) (hb : 0 ≤ b) (hB : b ≤ B) : 0 ≤ a * b ∧ a * b ≤ A * B :=
  ⟨Int.mul_nonneg ha hb, Int.mul_le_mul hA hB hb (by omega)⟩

set_option maxHeartbeats 400000 in
theorem foamForS_c (a r p m : Int) (w : World) :
    Calls Try.prog 15 #[.int .i64 a, .int .i64 r, .int .i64 p, .int .i64 m] w fun e w' =>
      e = .returned (.tuple #[.int .i64 (foamFor a r p m).1, .int .i64 (foamFor a r p m).2.1, .bool (foamFor a r p m).2.2]) ∧ w = w' := by
  by_cases h : inB a 1 5000 && inB r 1 20 && inB p 1 6 && inB m 1 60
  · have H := Lib.hid h
    simp only [Bool.and_eq_true] at h
    obtain ⟨⟨⟨h1, h2⟩, h3⟩, h4⟩ := h
    obtain ⟨b1, b1'⟩ := inB_true h1
    obtain ⟨b2, b2'⟩ := inB_true h2
    obtain ⟨b3, b3'⟩ := inB_true h3
    obtain ⟨b4, b4'⟩ := inB_true h4
    obtain ⟨m1, m1'⟩ := mul_bd (a := a) (b := r) (by omega) b1' (by omega) b2'
    obtain ⟨m2, m2'⟩ := mul_bd (a := a * r) (b := m) (by omega) m1' (by omega) b4'
    obtain ⟨m3, m3'⟩ := mul_bd (a := a * r * m) (b := p) (by omega) m2' (by omega) b3'
    go_enter Try.func15, Try.ntmps15
    go_wp2_with (first | (go_at_call 54; refine (l1In_c _ _ _ _).mono ?_; rintro e w' ⟨rfl, rfl⟩) | (go_at_call 55; refine (shPercent_c _ _).mono ?_; rintro e w' ⟨rfl, rfl⟩))
    go_ret3
    exact ⟨by unfold foamFor; rw [if_pos H.out]; rfl, rfl⟩
  · go_enter Try.func15, Try.ntmps15
    have H := Lib.hid h
    clear h
    go_wp2_with (first | (go_at_call 54; refine (l1In_c _ _ _ _).mono ?_; rintro e w' ⟨rfl, rfl⟩) | (go_at_call 55; refine (shPercent_c _ _).mono ?_; rintro e w' ⟨rfl, rfl⟩))
    all_goals first
      | (exfalso; have := H.out; simp_all; done)
      | (go_ret3; exact ⟨by unfold foamFor; rw [if_neg H.out]; rfl, rfl⟩)


set_option maxHeartbeats 400000 in
theorem foamForI_c (a r p m : Int) (w : World) :
    Calls Try.prog 16 #[.int .i64 a, .int .i64 r, .int .i64 p, .int .i64 m] w fun e w' =>
      e = .returned (.tuple #[.int .i64 (foamFor a r p m).1, .int .i64 (foamFor a r p m).2.1, .bool (foamFor a r p m).2.2]) ∧ w = w' := by
  by_cases h : inB a 1 5000 && inB r 1 20 && inB p 1 6 && inB m 1 60
  · have H := Lib.hid h
    simp only [Bool.and_eq_true] at h
    obtain ⟨⟨⟨h1, h2⟩, h3⟩, h4⟩ := h
    obtain ⟨b1, b1'⟩ := inB_true h1
    obtain ⟨b2, b2'⟩ := inB_true h2
    obtain ⟨b3, b3'⟩ := inB_true h3
    obtain ⟨b4, b4'⟩ := inB_true h4
    obtain ⟨m1, m1'⟩ := mul_bd (a := a) (b := r) (by omega) b1' (by omega) b2'
    obtain ⟨m2, m2'⟩ := mul_bd (a := a * r) (b := m) (by omega) m1' (by omega) b4'
    obtain ⟨m3, m3'⟩ := mul_bd (a := a * r * m) (b := p) (by omega) m2' (by omega) b3'
    go_enter Try.func16, Try.ntmps16
    go_wp2_with (first | (go_at_call 56; refine (inside_c _ _ _ _).mono ?_; rintro e w' ⟨rfl, rfl⟩) | (go_at_call 57; refine (upTo_c _ _ _ (by omega) (by omega) (by omega) (by omega)).mono ?_; rintro e w' ⟨rfl, rfl⟩))
    go_ret3
    refine ⟨?_, rfl⟩
    have e1 : a * r * m * p + 100 - 1 = a * r * m * p + 99 := by omega
    unfold foamFor; rw [if_pos H.out, ← e1]; rfl
  · go_enter Try.func16, Try.ntmps16
    have H := Lib.hid h
    clear h
    go_wp2_with (first | (go_at_call 56; refine (inside_c _ _ _ _).mono ?_; rintro e w' ⟨rfl, rfl⟩) | (go_at_call 57; exfalso; have := H.out; simp_all; done))
    all_goals first
      | (exfalso; have := H.out; simp_all; done)
      | (go_ret3; exact ⟨by unfold foamFor; rw [if_neg H.out]; rfl, rfl⟩)

theorem shStore_c (n : Int) (w : World) :
    Calls Try.prog 62 #[.int .i64 n] w fun e w' => e = .returned (.bool (inB n 0 100000)) ∧ w = w' := by
  go_enter Try.func62, Try.ntmps62
  go_wp2_with (go_at_call 54; refine (l1In_c _ _ _ _).mono ?_; rintro e w' ⟨rfl, rfl⟩)
  go_ret
  exact ⟨rfl, rfl⟩
theorem shFlow_c (n : Int) (w : World) :
    Calls Try.prog 63 #[.int .i64 n] w fun e w' => e = .returned (.bool (inB n 1 6000)) ∧ w = w' := by
  go_enter Try.func63, Try.ntmps63
  go_wp2_with (go_at_call 54; refine (l1In_c _ _ _ _).mono ?_; rintro e w' ⟨rfl, rfl⟩)
  go_ret
  exact ⟨rfl, rfl⟩
def minI (a b : Int) : Int := if a < b then a else b
def maxI (a b : Int) : Int := if b < a then a else b
theorem minI_eq (a b : Int) : minI a b = min a b := by unfold minI; split <;> omega
theorem maxI_eq (a b : Int) : maxI a b = max a b := by unfold maxI; split <;> omega
theorem l1Least_c (a b : Int) (w : World) :
    Calls Try.prog 64 #[.int .i64 a, .int .i64 b] w fun e w' => e = .returned (.int .i64 (minI a b)) ∧ w = w' := by
  go_enter Try.func64, Try.ntmps64
  go_wp2
  · go_ret
    exact ⟨by unfold minI; rw [if_pos (by assumption)]; rfl, rfl⟩
  · go_ret
    exact ⟨by unfold minI; rw [if_neg (by omega)]; rfl, rfl⟩
theorem l1Most_c (a b : Int) (w : World) :
    Calls Try.prog 74 #[.int .i64 a, .int .i64 b] w fun e w' => e = .returned (.int .i64 (maxI a b)) ∧ w = w' := by
  go_enter Try.func74, Try.ntmps74
  go_wp2
  · go_ret
    exact ⟨by unfold maxI; rw [if_pos (by assumption)]; rfl, rfl⟩
  · go_ret
    exact ⟨by unfold maxI; rw [if_neg (by omega)]; rfl, rfl⟩

theorem ret_int1 {a b : Int} (h : a = b) : Ending.returned (.int .i64 a) = .returned (.int .i64 b) := by rw [h]
theorem ret_int2 {a b : Int} {v : Value} (h : a = b) : Ending.returned (.tuple #[.int .i64 a, v]) = .returned (.tuple #[.int .i64 b, v]) := by rw [h]
/-- What FoamLasts gives. -/
def foamLasts (wa fo fl p : Int) : Int × Bool :=
  if inB wa 0 100000 && inB fo 0 100000 && inB fl 1 6000 && inB p 1 6 then
    (if (fl * p + 99) / 100 < fl then minI (fo / ((fl * p + 99) / 100)) (wa / (fl - (fl * p + 99) / 100)) else fo / ((fl * p + 99) / 100), true)
  else (0, false)

set_option maxHeartbeats 400000 in
theorem foamLastsS_c (wa fo fl p : Int) (w : World) :
    Calls Try.prog 23 #[.int .i64 wa, .int .i64 fo, .int .i64 fl, .int .i64 p] w fun e w' =>
      e = .returned (.tuple #[.int .i64 (foamLasts wa fo fl p).1, .bool (foamLasts wa fo fl p).2]) ∧ w = w' := by
  by_cases h : inB wa 0 100000 && inB fo 0 100000 && inB fl 1 6000 && inB p 1 6
  · have H := Lib.hid h
    simp only [Bool.and_eq_true] at h
    obtain ⟨⟨⟨h1, h2⟩, h3⟩, h4⟩ := h
    obtain ⟨b1, b1'⟩ := inB_true h1
    obtain ⟨b2, b2'⟩ := inB_true h2
    obtain ⟨b3, b3'⟩ := inB_true h3
    obtain ⟨b4, b4'⟩ := inB_true h4
    obtain ⟨m1, m1'⟩ := mul_bd (a := fl) (b := p) (by omega) b3' (by omega) b4'
    have m1 : 1 ≤ fl * p := by have := Int.mul_le_mul b3 b4 (by omega) (by omega); omega
    by_cases hp : (fl * p + 99) / 100 < fl
    all_goals
      have HP := Lib.hid hp
      go_enter Try.func23, Try.ntmps23
      go_wp2_with (first | (go_at_call 62; refine (shStore_c _ _).mono ?_; rintro e w' ⟨rfl, rfl⟩) | (go_at_call 63; refine (shFlow_c _ _).mono ?_; rintro e w' ⟨rfl, rfl⟩) | (go_at_call 55; refine (shPercent_c _ _).mono ?_; rintro e w' ⟨rfl, rfl⟩) | (go_at_call 64; refine (l1Least_c _ _ _).mono ?_; rintro e w' ⟨rfl, rfl⟩))
      go_ret2
      refine ⟨?_, rfl⟩
      unfold foamLasts
      rw [if_pos H.out]
      first | (rw [if_pos HP.out]; rfl) | (rw [if_neg (by have := HP.out; omega)]; rfl)
  · go_enter Try.func23, Try.ntmps23
    have H := Lib.hid h
    clear h
    go_wp2_with (first | (go_at_call 62; refine (shStore_c _ _).mono ?_; rintro e w' ⟨rfl, rfl⟩) | (go_at_call 63; refine (shFlow_c _ _).mono ?_; rintro e w' ⟨rfl, rfl⟩) | (go_at_call 55; refine (shPercent_c _ _).mono ?_; rintro e w' ⟨rfl, rfl⟩) | (go_at_call 64; exfalso; have := H.out; simp_all; done))
    all_goals first
      | (exfalso; have := H.out; simp_all; done)
      | (go_ret2; exact ⟨by unfold foamLasts; rw [if_neg H.out]; rfl, rfl⟩)

set_option maxHeartbeats 400000 in
theorem foamLastsI_c (wa fo fl p : Int) (w : World) :
    Calls Try.prog 24 #[.int .i64 wa, .int .i64 fo, .int .i64 fl, .int .i64 p] w fun e w' =>
      e = .returned (.tuple #[.int .i64 (foamLasts wa fo fl p).1, .bool (foamLasts wa fo fl p).2]) ∧ w = w' := by
  by_cases h : inB wa 0 100000 && inB fo 0 100000 && inB fl 1 6000 && inB p 1 6
  · have H := Lib.hid h
    simp only [Bool.and_eq_true] at h
    obtain ⟨⟨⟨h1, h2⟩, h3⟩, h4⟩ := h
    obtain ⟨b1, b1'⟩ := inB_true h1
    obtain ⟨b2, b2'⟩ := inB_true h2
    obtain ⟨b3, b3'⟩ := inB_true h3
    obtain ⟨b4, b4'⟩ := inB_true h4
    obtain ⟨m1, m1'⟩ := mul_bd (a := fl) (b := p) (by omega) b3' (by omega) b4'
    have m1 : 1 ≤ fl * p := by have := Int.mul_le_mul b3 b4 (by omega) (by omega); omega
    have e1 : Hid (fl * p + 100 - 1 = fl * p + 99) := Lib.hid (by omega)
    by_cases hp : (fl * p + 99) / 100 < fl
    all_goals
      have HP := Lib.hid hp
      go_enter Try.func24, Try.ntmps24
      go_wp2_with (first | (go_at_call 56; refine (inside_c _ _ _ _).mono ?_; rintro e w' ⟨rfl, rfl⟩) | (go_at_call 57; refine (upTo_c _ _ _ (by omega) (by omega) (by omega) (by omega)).mono ?_; rintro e w' ⟨rfl, rfl⟩; rw [e1.out]))
      all_goals
        go_ret2
        refine ⟨?_, rfl⟩
        unfold foamLasts
        rw [if_pos H.out]
        first | (rw [if_neg (by have := HP.out; omega)]; rfl) | (rw [if_pos HP.out, minI_eq]; exact ret_int2 (by omega))
  · go_enter Try.func24, Try.ntmps24
    have H := Lib.hid h
    clear h
    go_wp2_with (first | (go_at_call 56; refine (inside_c _ _ _ _).mono ?_; rintro e w' ⟨rfl, rfl⟩) | (go_at_call 57; exfalso; have := H.out; simp_all; done))
    all_goals first
      | (exfalso; have := H.out; simp_all; done)
      | (go_ret2; exact ⟨by unfold foamLasts; rw [if_neg H.out]; rfl, rfl⟩)

end Go.Proofs.Ytlfjgjbfimnncaa
