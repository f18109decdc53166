/-
  Decimal texts of numbers up to 36000: strconv.Itoa (out of the library's contract, which reads a table) and spec.l1Num. (joined by pack.py: ItoaG)
-/
import Derived.Test.YthgegghdkoeofaaGreatDoorK36
import Derived.Test.YthgegghdkoeofaaGreatDoorK1
import Derived.Test.YthgegghdkoeofaaGreatDoorK37
import Derived.Lib.AppendIntMem
import Derived.Lib.ItoaLen
import Derived.Lib.LaidTab
import Derived.Deep.RegionLaw
import Derived.Deep.RegionWith
namespace Go.Proofs.YthgegghdkoeofaaGreatDoor
set_option linter.unusedVariables false
set_option linter.unusedSimpArgs false
open Go.RowKit

/-- The library's table of powers of ten lies as its initialiser lays it. -/
def PowTab (w : World) : Prop := Lib.TabIs Tryz.prog w "internal/strconv.uint64pow10" .u64 Lib.pow10Tab
theorem powTab_below {w w' : World} (h : PowTab w) (hb : Below w.heap.size w w') : PowTab w' := Lib.tabBelow_of_tabIs h w' hb
def numT (n : Nat) : ByteArray := ⟨(Lib.decDigits n).toArray⟩
theorem numT_one {n : Nat} (h : n < 10) : numT n = ⟨#[UInt8.ofNat (48 + n)]⟩ := by unfold numT; rw [Lib.decDigits_one h]
theorem numT_step {n : Nat} (h : ¬ n < 10) : numT n = numT (n / 10) ++ ⟨#[UInt8.ofNat (48 + n % 10)]⟩ := by
  unfold numT
  conv => lhs; rw [Lib.decDigits, dif_neg h]
  apply ByteArray.ext
  simp [ByteArray.data_append]
theorem numT_size (n : Nat) (h : n ≤ 36000) : (numT n).size ≤ 21 := by
  have h1 := Lib.itoa_length_le (n : Int) (by omega) (by omega)
  rw [Lib.itoa_nonneg] at h1
  unfold numT
  show (Lib.decDigits n).toArray.size ≤ 21
  simpa using h1
theorem digit_numG (n : Nat) (h : n < 10) : ((UInt8.ofNat (48 + n)).toNat : Int) = 48 + (n : Int) := by rw [UInt8.toNat_ofNat']; omega
theorem conv_atG (x : Int) (c : UInt8) (hx : (c.toNat : Int) = x) (b : Nat) (W : World) (h : W.cell? ⟨b, 0, none⟩ = some (.int .u8 x)) : (convert 22 9 (.slice (some ⟨b, 0, none⟩) 1 1)).run Tryz.prog W = .ok (.string ⟨#[c]⟩) W := by
  subst hx
  refine run_convert_bytes_back (P := Tryz.prog) _ 22 9 5 ⟨b, 0, none⟩ 1 [c] Tryz.underlying22 Tryz.underlying5 Tryz.underlying9 (fun j hj => ?_)
  have : j = 0 := by simp at hj; omega
  subst this
  exact h
set_option maxHeartbeats 1000000 in
set_option maxRecDepth 100000 in
theorem l1NumA_c (n : Nat) (w : World) (h : n < 10) :
    Calls Tryz.prog 112 #[.int .i64 n] w fun e w' => e = .returned (.string (numT n)) ∧ Below w.heap.size w w' := by
  have hdb := digit_numG n h
  have hn : numT n = ⟨#[UInt8.ofNat (48 + n)]⟩ := numT_one h
  rw [hn]
  obtain ⟨c, hc⟩ : ∃ c, UInt8.ofNat (48 + n) = c := ⟨_, rfl⟩
  rw [hc] at hdb ⊢
  have hcv := conv_byte w _ _ hdb
  clear hc hdb hn
  go_enter Tryz.func112, Tryz.ntmps112
  go_wp2
  go_ret
  exact ⟨rfl, bel_al (Below.refl _ _) _⟩
set_option maxHeartbeats 400000 in
set_option maxRecDepth 100000 in
theorem l1NumB_c (n : Nat) (w : World) (h : n ≤ 36000) (h1 : ¬ n < 10) (ih : Hid (∀ W : World, Calls Tryz.prog 112 #[.int .i64 (n / 10 : Nat)] W fun e w' => e = .returned (.string (numT (n / 10))) ∧ Below W.heap.size W w')) :
    Calls Tryz.prog 112 #[.int .i64 n] w fun e w' => e = .returned (.string (numT n)) ∧ Below w.heap.size w w' := by
  have hdb := digit_numG (n % 10) (by omega)
  have e1 : ((n : Int) / 10) = ((n / 10 : Nat) : Int) := by omega
  have e2 : ((n : Int) % 10) = ((n % 10 : Nat) : Int) := by omega
  have hn : numT n = numT (n / 10) ++ ⟨#[UInt8.ofNat (48 + n % 10)]⟩ := numT_step h1
  have hs := numT_size (n / 10) (by omega)
  obtain ⟨q, hq⟩ : ∃ q, n / 10 = q := ⟨_, rfl⟩
  obtain ⟨r, hr⟩ : ∃ r, n % 10 = r := ⟨_, rfl⟩
  have hq9 : q ≤ 3600 := by omega
  have hr9 : r < 10 := by omega
  rw [hq] at ih
  rw [hr] at hdb
  rw [hq, hr] at hn
  rw [hq] at hs
  obtain ⟨c, hc⟩ : ∃ c, UInt8.ofNat (48 + r) = c := ⟨_, rfl⟩
  rw [hc] at hdb hn
  have hcv := fun W => conv_byte W _ _ hdb
  have hcw := fun W => conv_atG _ _ hdb w.heap.size W
  rw [hq] at e1
  rw [hr] at e2
  have g1 : IntKind.i64.wrap ((n : Int).tdiv 10) = (q : Int) := by rw [Int.tdiv_eq_ediv_of_nonneg (by omega), IntWalk.i64_in _ (by omega)]; omega
  have g2 : (n : Int).tmod 10 = (r : Int) := by rw [Int.tmod_eq_emod_of_nonneg (by omega)]; omega
  have n10 : (10 : Int) ≤ (n : Int) := by omega
  have w1 : IntKind.i64.wrap (q : Int) = (q : Int) := IntWalk.i64_in _ (by omega)
  have w2 : IntKind.i64.wrap (48 + (r : Int)) = 48 + (r : Int) := IntWalk.i64_in _ (by omega)
  have w3 : IntKind.u8.wrap (48 + (r : Int)) = 48 + (r : Int) := by simp only [IntKind.wrap, IntKind.bits, IntKind.signed]; simp; omega
  clear hq hr hc hdb
  have HN := Lib.hid hn
  clear hn
  go_enter Tryz.func112, Tryz.ntmps112
  go_wp2_with fail
  go_region_with (first | (go_at_call 112; refine (ih.out w.drew).mono ?_; rintro e w' ⟨rfl, hb1⟩) | (go_at_call 112; refine (ih.out (w.alloc (.cells #[.int .u8 (48 + (r : Int))] 5)).drew).mono ?_; rintro e w' ⟨rfl, hb1⟩; have c9 : w'.cell? ⟨w.heap.size, 0, none⟩ = some (.int .u8 (48 + (r : Int))) := (hb1.cell (p := ⟨w.heap.size, 0, none⟩) (by simp)).trans (by simp [go_sem])))
  all_goals
    go_wp2
    go_ret
    rw [HN.out]
    refine ⟨rfl, (by repeat (first | exact Below.refl _ _ | assumption | refine bel_al ?_ _ | refine bel_dr ?_ | refine below_drewN ?_ _ | refine bel_then ?_ (by assumption)))⟩
theorem l1NumG_c : ∀ (n : Nat) (w : World), n ≤ 36000 →
    Calls Tryz.prog 112 #[.int .i64 n] w fun e w' => e = .returned (.string (numT n)) ∧ Below w.heap.size w w' := by
  intro n
  induction n using Nat.strongRecOn with
  | _ n ih =>
    intro w h
    by_cases h1 : n < 10
    · exact l1NumA_c n w h1
    · exact l1NumB_c n w h h1 (Lib.hid (fun W => ih (n / 10) (by omega) W (by omega)))
theorem itoaG_c (n : Nat) (w : World) (h : n ≤ 36000) (ht : PowTab w) :
    Calls Tryz.prog 110 #[.int .i64 n] w fun e w' => e = .returned (.string (numT n)) ∧ Below w.heap.size w w' := by
  refine (Tryz.strconv_Itoa (n : Int) (by omega) (by omega) w ht).mono ?_
  rintro e w' ⟨rfl, k, os, rfl⟩
  rw [Lib.itoa_nonneg]
  exact ⟨rfl, Lib.below_grow _ w (Nat.le_refl _) k os⟩
end Go.Proofs.YthgegghdkoeofaaGreatDoor
