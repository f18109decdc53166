/-
  Numbers as sets of bits. (joined by pack.py: Bitw)
-/
import Derived.Test.YtahehdgkbhjpoaaK1
import Derived.Laws.Bits64b
namespace Go.Proofs.Ytahehdgkbhjpoaa
set_option linter.unusedVariables false
set_option linter.unusedSimpArgs false
open Go.RowKit

theorem bits_or_i64_nat (a b : Nat) (ha : a < 9223372036854775808) (hb : b < 9223372036854775808) : bits .or .i64 (a : Int) (b : Int) = ((a ||| b : Nat) : Int) := by
  have hx : a ||| b < 2 ^ 63 := Nat.or_lt_two_pow (by omega) (by omega)
  have h1 : (BitVec.ofInt 64 (a : Int)).toNat = a := by
    rw [BitVec.ofInt_natCast, BitVec.toNat_ofNat]; exact Nat.mod_eq_of_lt (by omega)
  have h2 : (BitVec.ofInt 64 (b : Int)).toNat = b := by
    rw [BitVec.ofInt_natCast, BitVec.toNat_ofNat]; exact Nat.mod_eq_of_lt (by omega)
  show IntKind.i64.wrap ((BitVec.ofInt 64 (a : Int) ||| BitVec.ofInt 64 (b : Int)).toNat : Int) = _
  rw [BitVec.toNat_or, h1, h2, IntKind.wrap_i64]
  omega
theorem bits_and_i64_nat (a b : Nat) (ha : a < 9223372036854775808) (hb : b < 9223372036854775808) : bits .and .i64 (a : Int) (b : Int) = ((a &&& b : Nat) : Int) := by
  have hx : a &&& b < 2 ^ 63 := Nat.and_lt_two_pow _ (by omega)
  have h1 : (BitVec.ofInt 64 (a : Int)).toNat = a := by
    rw [BitVec.ofInt_natCast, BitVec.toNat_ofNat]; exact Nat.mod_eq_of_lt (by omega)
  have h2 : (BitVec.ofInt 64 (b : Int)).toNat = b := by
    rw [BitVec.ofInt_natCast, BitVec.toNat_ofNat]; exact Nat.mod_eq_of_lt (by omega)
  show IntKind.i64.wrap ((BitVec.ofInt 64 (a : Int) &&& BitVec.ofInt 64 (b : Int)).toNat : Int) = _
  rw [BitVec.toNat_and, h1, h2, IntKind.wrap_i64]
  omega
/-- The bit j of a number, as the program takes it. -/
theorem bit_of (M j : Nat) (hM : M < 9223372036854775808) : bits .and .i64 ((M : Int) / 2 ^ j) 1 = if M.testBit j = true then 1 else 0 := by
  have e : ((M : Int) / 2 ^ j) = ((M >>> j : Nat) : Int) := by
    rw [Nat.shiftRight_eq_div_pow]
    rw [Int.natCast_ediv, Int.natCast_pow]; rfl
  have hlt : M >>> j < 9223372036854775808 := Nat.lt_of_le_of_lt (by rw [Nat.shiftRight_eq_div_pow]; exact Nat.div_le_self _ _) hM
  rw [e, show (1 : Int) = ((1 : Nat) : Int) from rfl, bits_and_i64_nat _ _ hlt (by omega)]
  have h1 : M >>> j &&& 1 = (M >>> j) % 2 := Nat.and_one_is_mod _
  rw [h1]
  have h2 : M.testBit j = decide ((M >>> j) % 2 = 1) := by
    rw [Nat.testBit, Nat.and_comm, h1]
    rcases Nat.mod_two_eq_zero_or_one (M >>> j) with h | h <;> simp [h]
  rw [h2]
  rcases Nat.mod_two_eq_zero_or_one (M >>> j) with h | h <;> simp [h]

def maskP (p : Nat → Bool) : Nat → Nat
  | 0 => 0
  | k + 1 => if p k = true then maskP p k ||| 2 ^ k else maskP p k
theorem maskP_lt (p : Nat → Bool) : ∀ k, maskP p k < 2 ^ k := by
  intro k
  induction k with
  | zero => simp [maskP]
  | succ k ih =>
    have h2 : 2 ^ (k + 1) = 2 ^ k + 2 ^ k := by rw [Nat.pow_succ]; omega
    unfold maskP
    split
    · exact Nat.or_lt_two_pow (by omega) (by have := Nat.two_pow_pos k; omega)
    · omega
theorem maskP_bit (p : Nat → Bool) : ∀ k i, (maskP p k).testBit i = (decide (i < k) && p i) := by
  intro k
  induction k with
  | zero => intro i; simp [maskP]
  | succ k ih =>
    intro i
    unfold maskP
    split
    · rename_i h
      rw [Nat.testBit_or, ih, Nat.testBit_two_pow]
      by_cases e : k = i
      · subst e; simp [h]
      · have : decide (i < k + 1) = decide (i < k) := by rw [decide_eq_decide]; omega
        rw [this]; simp [e]
    · rename_i h
      rw [ih]
      by_cases e : k = i
      · subst e; simp [h]
      · have : decide (i < k + 1) = decide (i < k) := by rw [decide_eq_decide]; omega
        rw [this]
theorem pow_bd {k : Nat} (h : k ≤ 14) : 2 ^ k ≤ 16384 := by
  have : 2 ^ k ≤ 2 ^ 14 := Nat.pow_le_pow_right (by omega) h
  omega
end Go.Proofs.Ytahehdgkbhjpoaa
