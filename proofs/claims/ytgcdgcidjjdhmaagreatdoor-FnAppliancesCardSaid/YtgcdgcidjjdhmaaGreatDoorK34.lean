/-
  Decimal texts of small numbers: strconv.Itoa and spec.l1Num at 0..13 (printed by gen_itoa.py). (joined by pack.py: Itoa)
-/
import Derived.Test.YtgcdgcidjjdhmaaGreatDoorK1
import Derived.Test.YtgcdgcidjjdhmaaGreatDoorK0
import Derived.Test.YtgcdgcidjjdhmaaGreatDoorK33
import Derived.Deep.RegionLaw
import Derived.Deep.RegionWith
namespace Go.Proofs.YtgcdgcidjjdhmaaGreatDoor
set_option linter.unusedVariables false
set_option linter.unusedSimpArgs false
open Go.RowKit

def numB (n : Nat) : ByteArray := if n < 10 then ⟨#[UInt8.ofNat (48 + n)]⟩ else ⟨#[UInt8.ofNat (48 + n / 10)]⟩ ++ ⟨#[UInt8.ofNat (48 + n % 10)]⟩
theorem numB_size (n : Nat) : (numB n).size ≤ 2 := by
  unfold numB
  split
  · show 1 ≤ 2; omega
  · rw [ByteArray.size_append]; show 1 + 1 ≤ 2; omega
theorem digit_num (n : Nat) (h : n < 10) : ((UInt8.ofNat (48 + n)).toNat : Int) = 48 + (n : Int) := by rw [UInt8.toNat_ofNat']; omega
theorem conv_at (x : Int) (c : UInt8) (hx : (c.toNat : Int) = x) (b : Nat) (W : World) (h : W.cell? ⟨b, 0, none⟩ = some (.int .u8 x)) : (convert 22 9 (.slice (some ⟨b, 0, none⟩) 1 1)).run Tryz.prog W = .ok (.string ⟨#[c]⟩) W := by
  subst hx
  refine run_convert_bytes_back (P := Tryz.prog) _ 22 9 5 ⟨b, 0, none⟩ 1 [c] Tryz.underlying22 Tryz.underlying5 Tryz.underlying9 (fun j hj => ?_)
  have : j = 0 := by simp at hj; omega
  subst this
  exact h
set_option maxHeartbeats 1000000 in
set_option maxRecDepth 100000 in
theorem l1NumA_c (n : Nat) (w : World) (h : n < 10) :
    Calls Tryz.prog 66 #[.int .i64 n] w fun e w' => e = .returned (.string (numB n)) ∧ Below w.heap.size w w' := by
  have hdb := digit_num n h
  have hn : numB n = ⟨#[UInt8.ofNat (48 + n)]⟩ := by unfold numB; rw [if_pos h]
  rw [hn]
  obtain ⟨c, hc⟩ : ∃ c, UInt8.ofNat (48 + n) = c := ⟨_, rfl⟩
  rw [hc] at hdb ⊢
  have hcv := conv_byte w _ _ hdb
  clear hc hdb hn
  go_enter Tryz.func66, Tryz.ntmps66
  go_wp2
  go_ret
  exact ⟨rfl, bel_al (Below.refl _ _) _⟩
set_option maxHeartbeats 400000 in
theorem l1Num_c (n : Nat) (w : World) (h : n < 100) :
    Calls Tryz.prog 66 #[.int .i64 n] w fun e w' => e = .returned (.string (numB n)) ∧ Below w.heap.size w w' := by
  by_cases h1 : n < 10
  · exact l1NumA_c n w h1
  · have hdb := digit_num (n % 10) (by omega)
    have e1 : ((n : Int) / 10) = ((n / 10 : Nat) : Int) := by omega
    have e2 : ((n : Int) % 10) = ((n % 10 : Nat) : Int) := by omega
    obtain ⟨q, hq⟩ : ∃ q, n / 10 = q := ⟨_, rfl⟩
    obtain ⟨r, hr⟩ : ∃ r, n % 10 = r := ⟨_, rfl⟩
    have hn : numB n = numB q ++ ⟨#[UInt8.ofNat (48 + r)]⟩ := by
      rw [← hq, ← hr]; unfold numB; rw [if_neg h1, if_pos (by omega)]
    have hq9 : q < 10 := by omega
    have hr9 : r < 10 := by omega
    have hs := numB_size q
    rw [hr] at hdb
    obtain ⟨c, hc⟩ : ∃ c, UInt8.ofNat (48 + r) = c := ⟨_, rfl⟩
    rw [hc] at hdb hn
    have hcv := fun W => conv_byte W _ _ hdb
    have hcw := fun W => conv_at _ _ hdb w.heap.size W
    rw [hq] at e1
    rw [hr] at e2
    have g1 : IntKind.i64.wrap ((n : Int).tdiv 10) = (q : Int) := by rw [Int.tdiv_eq_ediv_of_nonneg (by omega), IntWalk.i64_in _ (by omega)]; omega
    have g2 : (n : Int).tmod 10 = (r : Int) := by rw [Int.tmod_eq_emod_of_nonneg (by omega)]; omega
    have n10 : (10 : Int) ≤ (n : Int) := by omega
    have w1 : IntKind.i64.wrap (q : Int) = (q : Int) := IntWalk.i64_in _ (by omega)
    have w2 : IntKind.i64.wrap (48 + (r : Int)) = 48 + (r : Int) := IntWalk.i64_in _ (by omega)
    have w3 : IntKind.u8.wrap (48 + (r : Int)) = 48 + (r : Int) := by simp only [IntKind.wrap, IntKind.bits, IntKind.signed]; simp; omega
    clear hq hr hc hdb
    have HN := Lib.hid hn
    clear hn
    go_enter Tryz.func66, Tryz.ntmps66
    go_wp2_with fail
    go_region_with (first | (go_at_call 66; refine (l1NumA_c q w.drew hq9).mono ?_; rintro e w' ⟨rfl, hb1⟩) | (go_at_call 66; refine (l1NumA_c q (w.alloc (.cells #[.int .u8 (48 + (r : Int))] 5)).drew hq9).mono ?_; rintro e w' ⟨rfl, hb1⟩; have c9 : w'.cell? ⟨w.heap.size, 0, none⟩ = some (.int .u8 (48 + (r : Int))) := (hb1.cell (p := ⟨w.heap.size, 0, none⟩) (by simp)).trans (by simp [go_sem])))
    all_goals
      go_wp2
      go_ret
      rw [HN.out]
      refine ⟨rfl, (by repeat (first | exact Below.refl _ _ | assumption | refine bel_al ?_ _ | refine bel_dr ?_ | refine below_drewN ?_ _ | refine bel_then ?_ (by assumption)))⟩
set_option maxRecDepth 100000 in
theorem small0_c (w : World) : Calls Tryz.prog 107 #[.int .i64 0] w fun e w' => e = .returned (.string (numB 0)) ∧ w = w' := by
  go_enter Tryz.func107, Tryz.ntmps107
  go_wp2
  go_ret
  exact ⟨by first | rfl | (congr 2; kernel_rfl) | kernel_rfl, rfl⟩
set_option maxRecDepth 100000 in
theorem small1_c (w : World) : Calls Tryz.prog 107 #[.int .i64 1] w fun e w' => e = .returned (.string (numB 1)) ∧ w = w' := by
  go_enter Tryz.func107, Tryz.ntmps107
  go_wp2
  go_ret
  exact ⟨by first | rfl | (congr 2; kernel_rfl) | kernel_rfl, rfl⟩
set_option maxRecDepth 100000 in
theorem small2_c (w : World) : Calls Tryz.prog 107 #[.int .i64 2] w fun e w' => e = .returned (.string (numB 2)) ∧ w = w' := by
  go_enter Tryz.func107, Tryz.ntmps107
  go_wp2
  go_ret
  exact ⟨by first | rfl | (congr 2; kernel_rfl) | kernel_rfl, rfl⟩
set_option maxRecDepth 100000 in
theorem small3_c (w : World) : Calls Tryz.prog 107 #[.int .i64 3] w fun e w' => e = .returned (.string (numB 3)) ∧ w = w' := by
  go_enter Tryz.func107, Tryz.ntmps107
  go_wp2
  go_ret
  exact ⟨by first | rfl | (congr 2; kernel_rfl) | kernel_rfl, rfl⟩
set_option maxRecDepth 100000 in
theorem small4_c (w : World) : Calls Tryz.prog 107 #[.int .i64 4] w fun e w' => e = .returned (.string (numB 4)) ∧ w = w' := by
  go_enter Tryz.func107, Tryz.ntmps107
  go_wp2
  go_ret
  exact ⟨by first | rfl | (congr 2; kernel_rfl) | kernel_rfl, rfl⟩
set_option maxRecDepth 100000 in
theorem small5_c (w : World) : Calls Tryz.prog 107 #[.int .i64 5] w fun e w' => e = .returned (.string (numB 5)) ∧ w = w' := by
  go_enter Tryz.func107, Tryz.ntmps107
  go_wp2
  go_ret
  exact ⟨by first | rfl | (congr 2; kernel_rfl) | kernel_rfl, rfl⟩
set_option maxRecDepth 100000 in
theorem small6_c (w : World) : Calls Tryz.prog 107 #[.int .i64 6] w fun e w' => e = .returned (.string (numB 6)) ∧ w = w' := by
  go_enter Tryz.func107, Tryz.ntmps107
  go_wp2
  go_ret
  exact ⟨by first | rfl | (congr 2; kernel_rfl) | kernel_rfl, rfl⟩
set_option maxRecDepth 100000 in
theorem small7_c (w : World) : Calls Tryz.prog 107 #[.int .i64 7] w fun e w' => e = .returned (.string (numB 7)) ∧ w = w' := by
  go_enter Tryz.func107, Tryz.ntmps107
  go_wp2
  go_ret
  exact ⟨by first | rfl | (congr 2; kernel_rfl) | kernel_rfl, rfl⟩
set_option maxRecDepth 100000 in
theorem small8_c (w : World) : Calls Tryz.prog 107 #[.int .i64 8] w fun e w' => e = .returned (.string (numB 8)) ∧ w = w' := by
  go_enter Tryz.func107, Tryz.ntmps107
  go_wp2
  go_ret
  exact ⟨by first | rfl | (congr 2; kernel_rfl) | kernel_rfl, rfl⟩
set_option maxRecDepth 100000 in
theorem small9_c (w : World) : Calls Tryz.prog 107 #[.int .i64 9] w fun e w' => e = .returned (.string (numB 9)) ∧ w = w' := by
  go_enter Tryz.func107, Tryz.ntmps107
  go_wp2
  go_ret
  exact ⟨by first | rfl | (congr 2; kernel_rfl) | kernel_rfl, rfl⟩
set_option maxRecDepth 100000 in
theorem small10_c (w : World) : Calls Tryz.prog 107 #[.int .i64 10] w fun e w' => e = .returned (.string (numB 10)) ∧ w = w' := by
  go_enter Tryz.func107, Tryz.ntmps107
  go_wp2
  go_ret
  exact ⟨by first | rfl | (congr 2; kernel_rfl) | kernel_rfl, rfl⟩
set_option maxRecDepth 100000 in
theorem small11_c (w : World) : Calls Tryz.prog 107 #[.int .i64 11] w fun e w' => e = .returned (.string (numB 11)) ∧ w = w' := by
  go_enter Tryz.func107, Tryz.ntmps107
  go_wp2
  go_ret
  exact ⟨by first | rfl | (congr 2; kernel_rfl) | kernel_rfl, rfl⟩
set_option maxRecDepth 100000 in
theorem small12_c (w : World) : Calls Tryz.prog 107 #[.int .i64 12] w fun e w' => e = .returned (.string (numB 12)) ∧ w = w' := by
  go_enter Tryz.func107, Tryz.ntmps107
  go_wp2
  go_ret
  exact ⟨by first | rfl | (congr 2; kernel_rfl) | kernel_rfl, rfl⟩
set_option maxRecDepth 100000 in
theorem small13_c (w : World) : Calls Tryz.prog 107 #[.int .i64 13] w fun e w' => e = .returned (.string (numB 13)) ∧ w = w' := by
  go_enter Tryz.func107, Tryz.ntmps107
  go_wp2
  go_ret
  exact ⟨by first | rfl | (congr 2; kernel_rfl) | kernel_rfl, rfl⟩
theorem small_c (n : Nat) (w : World) (h : n < 14) : Calls Tryz.prog 107 #[.int .i64 n] w fun e w' => e = .returned (.string (numB n)) ∧ w = w' := by
  match n, h with
  | 0, _ => exact small0_c w
  | 1, _ => exact small1_c w
  | 2, _ => exact small2_c w
  | 3, _ => exact small3_c w
  | 4, _ => exact small4_c w
  | 5, _ => exact small5_c w
  | 6, _ => exact small6_c w
  | 7, _ => exact small7_c w
  | 8, _ => exact small8_c w
  | 9, _ => exact small9_c w
  | 10, _ => exact small10_c w
  | 11, _ => exact small11_c w
  | 12, _ => exact small12_c w
  | 13, _ => exact small13_c w
theorem formatInt_c (n : Nat) (w : World) (h : n < 14) : Calls Tryz.prog 96 #[.int .i64 n, .int .i64 10] w fun e w' => e = .returned (.string (numB n)) ∧ w = w' := by
  go_enter Tryz.func96, Tryz.ntmps96
  go_wp2_with (go_at_call 107; refine (small_c _ _ h).mono ?_; rintro e w' ⟨rfl, rfl⟩)
  go_ret
  exact ⟨rfl, rfl⟩
theorem itoaIn_c (n : Nat) (w : World) (h : n < 14) : Calls Tryz.prog 83 #[.int .i64 n] w fun e w' => e = .returned (.string (numB n)) ∧ w = w' := by
  go_enter Tryz.func83, Tryz.ntmps83
  go_wp2_with (go_at_call 96; refine (formatInt_c _ _ h).mono ?_; rintro e w' ⟨rfl, rfl⟩)
  go_ret
  exact ⟨rfl, rfl⟩
theorem itoa_c (n : Nat) (w : World) (h : n < 14) : Calls Tryz.prog 75 #[.int .i64 n] w fun e w' => e = .returned (.string (numB n)) ∧ w = w' := by
  go_enter Tryz.func75, Tryz.ntmps75
  go_wp2_with (go_at_call 83; refine (itoaIn_c _ _ h).mono ?_; rintro e w' ⟨rfl, rfl⟩)
  go_ret
  exact ⟨rfl, rfl⟩
end Go.Proofs.YtgcdgcidjjdhmaaGreatDoor
