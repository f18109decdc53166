/-
  A name of an appliance: the program's look and the reference's (printed by gen_name.py).
-/
import Derived.Test.YtddccjdppbcnbaaDoorInts
namespace Go.Proofs.YtddccjdppbcnbaaDoor
open Go.RowKit

def isLet (n : Nat) : Bool := decide (97 ≤ n) && decide (n ≤ 122)
def isDig (n : Nat) : Bool := decide (48 ≤ n) && decide (n ≤ 57)
def chB (s : ByteArray) (i : Nat) : Bool := if h : i < s.size then isLet s[i].toNat || (isDig s[i].toNat && decide (i ≠ 0)) else true
def nameB (s : ByteArray) : Bool := (List.range s.size).all (chB s) && inB (s.size : Int) 1 6
theorem chB_at {s : ByteArray} {i : Nat} (h : i < s.size) : chB s i = (isLet s[i].toNat || (isDig s[i].toNat && decide (i ≠ 0))) := by unfold chB; rw [dif_pos h]
theorem all_range_succ {p : Nat → Bool} {k : Nat} (h : (List.range k).all p = true) (hp : p k = true) : (List.range (k + 1)).all p = true := by
  rw [List.range_succ, List.all_append, h]; simp [hp]
theorem nameB_no {s : ByteArray} {k : Nat} (hk : k < s.size) (h : chB s k = false) : nameB s = false := by
  unfold nameB
  rw [List.all_eq_false.2 ⟨k, List.mem_range.2 hk, by rw [h]; simp⟩]; rfl
theorem nameB_end {s : ByteArray} (h : (List.range s.size).all (chB s) = true) : nameB s = inB (s.size : Int) 1 6 := by unfold nameB; rw [h]; rfl
theorem nameB_size {s : ByteArray} (h : nameB s = true) : s.size ≤ 6 := by
  unfold nameB at h
  rw [Bool.and_eq_true] at h
  have := (inB_true h.2).2
  omega
set_option maxRecDepth 100000 in
set_option maxHeartbeats 2000000 in
theorem isName_c (s : ByteArray) (w : World) (hs : s.size ≤ 9223372036854775807) :
    Calls Tryd.prog 14 #[.string s] w fun e w' => e = .returned (.bool (nameB s)) ∧ Below w.heap.size w w' := by
  go_enter Tryd.func14, Tryd.ntmps14
  go_wp2_with fail
  go_loopw [8] (fun v wr => ∃ k : Nat, k ≤ s.size ∧ v = .int .i64 k ∧ Hid ((List.range k).all (chB s) = true) ∧ Hid (Below w.heap.size w wr)) (fun v _ => s.size - (intOf v).toNat)
  case atStart => exact ⟨0, Nat.zero_le _, rfl, Lib.hid rfl, Lib.hid (Below.refl _ _)⟩
  case round =>
    obtain ⟨k, hk, rfl, HA, HB⟩ := hrel
    by_cases hlt : k < s.size
    · have hch := chB_at hlt
      have hn256 : s[k].toNat < 256 := UInt8.toNat_lt _
      obtain ⟨n, hn⟩ : ∃ n, s[k].toNat = n := ⟨_, rfl⟩
      rw [hn] at hch hn256
      have HCH := Lib.hid hch
      have k0 : (0 : Int) ≤ (k : Int) := by omega
      have k1 : (k : Int) < (s.size : Int) := by omega
      clear hch
      rcases (show n < 48 ∨ (48 ≤ n ∧ n ≤ 57) ∨ (58 ≤ n ∧ n ≤ 96) ∨ (97 ≤ n ∧ n ≤ 122) ∨ 123 ≤ n by omega) with hc | hc | hc | hc | hc
      ·
        have b97 : decide ((97 : Int) ≤ (n : Int)) = false := decide_eq_false (by omega)
        have b122 : decide ((n : Int) ≤ 122) = true := decide_eq_true (by omega)
        have b48 : decide ((48 : Int) ≤ (n : Int)) = false := decide_eq_false (by omega)
        have b57 : decide ((n : Int) ≤ 57) = true := decide_eq_true (by omega)
        have HR : Hid (chB s k = false) := Lib.hid (by rw [HCH.out]; unfold isLet isDig; simp; omega)
        clear hc
        go_wp2_with fail
        go_quiet (fail)
        go_wp2_with fail
        go_wp2
        go_ret
        rw [nameB_no (by omega) HR.out]
        exact ⟨rfl, below_drewN HB.out _⟩
      · rcases Nat.eq_zero_or_pos k with hk0 | hk0
        · have b0 : ((k : Int) == 0) = true := by rw [beq_iff_eq]; omega
          have b97 : decide ((97 : Int) ≤ (n : Int)) = false := decide_eq_false (by omega)
          have b122 : decide ((n : Int) ≤ 122) = true := decide_eq_true (by omega)
          have b48 : decide ((48 : Int) ≤ (n : Int)) = true := decide_eq_true (by omega)
          have b57 : decide ((n : Int) ≤ 57) = true := decide_eq_true (by omega)
          have HR : Hid (chB s k = false) := Lib.hid (by rw [HCH.out]; unfold isLet isDig; simp; omega)
          clear hc hk0
          go_wp2_with fail
          go_quiet (fail)
          go_wp2_with fail
          go_wp2
          go_ret
          rw [nameB_no (by omega) HR.out]
          exact ⟨rfl, below_drewN HB.out _⟩
        · have b0 : ((k : Int) == 0) = false := by rw [beq_eq_false_iff_ne]; omega
          have b97 : decide ((97 : Int) ≤ (n : Int)) = false := decide_eq_false (by omega)
          have b122 : decide ((n : Int) ≤ 122) = true := decide_eq_true (by omega)
          have b48 : decide ((48 : Int) ≤ (n : Int)) = true := decide_eq_true (by omega)
          have b57 : decide ((n : Int) ≤ 57) = true := decide_eq_true (by omega)
          have HR : Hid (chB s k = true) := Lib.hid (by rw [HCH.out]; unfold isLet isDig; simp; omega)
          clear hc hk0
          go_wp2_with fail
          go_quiet (fail)
          go_wp2_with fail
          go_wp2
          exact ⟨⟨k + 1, by omega, by go_num, Lib.hid (all_range_succ HA.out HR.out), Lib.hid (below_drewN HB.out _)⟩, by simp [intOf]; omega⟩
      ·
        have b97 : decide ((97 : Int) ≤ (n : Int)) = false := decide_eq_false (by omega)
        have b122 : decide ((n : Int) ≤ 122) = true := decide_eq_true (by omega)
        have b48 : decide ((48 : Int) ≤ (n : Int)) = true := decide_eq_true (by omega)
        have b57 : decide ((n : Int) ≤ 57) = false := decide_eq_false (by omega)
        have HR : Hid (chB s k = false) := Lib.hid (by rw [HCH.out]; unfold isLet isDig; simp; omega)
        clear hc
        go_wp2_with fail
        go_quiet (fail)
        go_wp2_with fail
        go_wp2
        go_ret
        rw [nameB_no (by omega) HR.out]
        exact ⟨rfl, below_drewN HB.out _⟩
      ·
        have b97 : decide ((97 : Int) ≤ (n : Int)) = true := decide_eq_true (by omega)
        have b122 : decide ((n : Int) ≤ 122) = true := decide_eq_true (by omega)
        have b48 : decide ((48 : Int) ≤ (n : Int)) = true := decide_eq_true (by omega)
        have b57 : decide ((n : Int) ≤ 57) = false := decide_eq_false (by omega)
        have HR : Hid (chB s k = true) := Lib.hid (by rw [HCH.out]; unfold isLet isDig; simp; omega)
        clear hc
        go_wp2_with fail
        go_quiet (fail)
        go_wp2_with fail
        go_wp2
        exact ⟨⟨k + 1, by omega, by go_num, Lib.hid (all_range_succ HA.out HR.out), Lib.hid (below_drewN HB.out _)⟩, by simp [intOf]; omega⟩
      ·
        have b97 : decide ((97 : Int) ≤ (n : Int)) = true := decide_eq_true (by omega)
        have b122 : decide ((n : Int) ≤ 122) = false := decide_eq_false (by omega)
        have b48 : decide ((48 : Int) ≤ (n : Int)) = true := decide_eq_true (by omega)
        have b57 : decide ((n : Int) ≤ 57) = false := decide_eq_false (by omega)
        have HR : Hid (chB s k = false) := Lib.hid (by rw [HCH.out]; unfold isLet isDig; simp; omega)
        clear hc
        go_wp2_with fail
        go_quiet (fail)
        go_wp2_with fail
        go_wp2
        go_ret
        rw [nameB_no (by omega) HR.out]
        exact ⟨rfl, below_drewN HB.out _⟩
    · obtain rfl : k = s.size := by omega
      have HE := Lib.hid (nameB_end HA.out)
      go_wp2_with fail
      refine (inside_c _ _ _ _).mono ?_; rintro e w2 ⟨rfl, rfl⟩
      go_wp2
      go_ret
      rw [HE.out]
      exact ⟨rfl, HB.out⟩
set_option maxRecDepth 100000 in
set_option maxHeartbeats 2000000 in
theorem apName_c (s : ByteArray) (w : World) (hs : s.size ≤ 9223372036854775807) :
    Calls Tryd.prog 10 #[.string s] w fun e w' => e = .returned (.bool (nameB s)) ∧ Below w.heap.size w w' := by
  go_enter Tryd.func10, Tryd.ntmps10
  go_wp2_with fail
  go_loopw [3] (fun v wr => ∃ k : Nat, k ≤ s.size ∧ v = .int .i64 k ∧ Hid ((List.range k).all (chB s) = true) ∧ Hid (Below w.heap.size w wr)) (fun v _ => s.size - (intOf v).toNat)
  case atStart => exact ⟨0, Nat.zero_le _, rfl, Lib.hid rfl, Lib.hid (Below.refl _ _)⟩
  case round =>
    obtain ⟨k, hk, rfl, HA, HB⟩ := hrel
    by_cases hlt : k < s.size
    · have hch := chB_at hlt
      have hn256 : s[k].toNat < 256 := UInt8.toNat_lt _
      obtain ⟨n, hn⟩ : ∃ n, s[k].toNat = n := ⟨_, rfl⟩
      rw [hn] at hch hn256
      have HCH := Lib.hid hch
      have k0 : (0 : Int) ≤ (k : Int) := by omega
      have k1 : (k : Int) < (s.size : Int) := by omega
      clear hch
      rcases (show n < 48 ∨ (48 ≤ n ∧ n ≤ 57) ∨ (58 ≤ n ∧ n ≤ 96) ∨ (97 ≤ n ∧ n ≤ 122) ∨ 123 ≤ n by omega) with hc | hc | hc | hc | hc
      ·
        have b97 : decide ((97 : Int) ≤ (n : Int)) = false := decide_eq_false (by omega)
        have b122 : decide ((n : Int) ≤ 122) = true := decide_eq_true (by omega)
        have b48 : decide ((48 : Int) ≤ (n : Int)) = false := decide_eq_false (by omega)
        have b57 : decide ((n : Int) ≤ 57) = true := decide_eq_true (by omega)
        have HR : Hid (chB s k = false) := Lib.hid (by rw [HCH.out]; unfold isLet isDig; simp; omega)
        clear hc
        go_wp2_with fail
        go_wp2
        go_ret
        rw [nameB_no (by omega) HR.out]
        exact ⟨rfl, HB.out⟩
      · rcases Nat.eq_zero_or_pos k with hk0 | hk0
        · have b0 : ((k : Int) == 0) = true := by rw [beq_iff_eq]; omega
          have b97 : decide ((97 : Int) ≤ (n : Int)) = false := decide_eq_false (by omega)
          have b122 : decide ((n : Int) ≤ 122) = true := decide_eq_true (by omega)
          have b48 : decide ((48 : Int) ≤ (n : Int)) = true := decide_eq_true (by omega)
          have b57 : decide ((n : Int) ≤ 57) = true := decide_eq_true (by omega)
          have HR : Hid (chB s k = false) := Lib.hid (by rw [HCH.out]; unfold isLet isDig; simp; omega)
          clear hc hk0
          go_wp2_with fail
          go_wp2
          go_ret
          rw [nameB_no (by omega) HR.out]
          exact ⟨rfl, HB.out⟩
        · have b0 : ((k : Int) == 0) = false := by rw [beq_eq_false_iff_ne]; omega
          have b97 : decide ((97 : Int) ≤ (n : Int)) = false := decide_eq_false (by omega)
          have b122 : decide ((n : Int) ≤ 122) = true := decide_eq_true (by omega)
          have b48 : decide ((48 : Int) ≤ (n : Int)) = true := decide_eq_true (by omega)
          have b57 : decide ((n : Int) ≤ 57) = true := decide_eq_true (by omega)
          have HR : Hid (chB s k = true) := Lib.hid (by rw [HCH.out]; unfold isLet isDig; simp; omega)
          clear hc hk0
          go_wp2_with fail
          go_wp2
          exact ⟨⟨k + 1, by omega, by go_num, Lib.hid (all_range_succ HA.out HR.out), HB⟩, by simp [intOf]; omega⟩
      ·
        have b97 : decide ((97 : Int) ≤ (n : Int)) = false := decide_eq_false (by omega)
        have b122 : decide ((n : Int) ≤ 122) = true := decide_eq_true (by omega)
        have b48 : decide ((48 : Int) ≤ (n : Int)) = true := decide_eq_true (by omega)
        have b57 : decide ((n : Int) ≤ 57) = false := decide_eq_false (by omega)
        have HR : Hid (chB s k = false) := Lib.hid (by rw [HCH.out]; unfold isLet isDig; simp; omega)
        clear hc
        go_wp2_with fail
        go_wp2
        go_ret
        rw [nameB_no (by omega) HR.out]
        exact ⟨rfl, HB.out⟩
      ·
        have b97 : decide ((97 : Int) ≤ (n : Int)) = true := decide_eq_true (by omega)
        have b122 : decide ((n : Int) ≤ 122) = true := decide_eq_true (by omega)
        have b48 : decide ((48 : Int) ≤ (n : Int)) = true := decide_eq_true (by omega)
        have b57 : decide ((n : Int) ≤ 57) = false := decide_eq_false (by omega)
        have HR : Hid (chB s k = true) := Lib.hid (by rw [HCH.out]; unfold isLet isDig; simp; omega)
        clear hc
        go_wp2_with fail
        go_wp2
        exact ⟨⟨k + 1, by omega, by go_num, Lib.hid (all_range_succ HA.out HR.out), HB⟩, by simp [intOf]; omega⟩
      ·
        have b97 : decide ((97 : Int) ≤ (n : Int)) = true := decide_eq_true (by omega)
        have b122 : decide ((n : Int) ≤ 122) = false := decide_eq_false (by omega)
        have b48 : decide ((48 : Int) ≤ (n : Int)) = true := decide_eq_true (by omega)
        have b57 : decide ((n : Int) ≤ 57) = false := decide_eq_false (by omega)
        have HR : Hid (chB s k = false) := Lib.hid (by rw [HCH.out]; unfold isLet isDig; simp; omega)
        clear hc
        go_wp2_with fail
        go_wp2
        go_ret
        rw [nameB_no (by omega) HR.out]
        exact ⟨rfl, HB.out⟩
    · obtain rfl : k = s.size := by omega
      have HE := Lib.hid (nameB_end HA.out)
      go_wp2_with fail
      refine (l1In_c _ _ _ _).mono ?_; rintro e w2 ⟨rfl, rfl⟩
      go_wp2
      go_ret
      rw [HE.out]
      exact ⟨rfl, HB.out⟩
end Go.Proofs.YtddccjdppbcnbaaDoor
