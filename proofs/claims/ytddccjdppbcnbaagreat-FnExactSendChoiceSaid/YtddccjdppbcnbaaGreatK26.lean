/-
  The laws' marks on texts. (joined by pack.py: Txt)
-/
import Derived.Test.YtddccjdppbcnbaaGreatK3
import Derived.Laws.IdiomStrings
namespace Go.Proofs.YtddccjdppbcnbaaGreat
set_option linter.unusedVariables false
set_option linter.unusedSimpArgs false
open Go.RowKit

def dgF : Nat → Nat → ByteArray → ByteArray
  | 0, _, out => out
  | f + 1, k, out => if k = 0 then out else dgF f (k / 10) (⟨#[UInt8.ofNat (48 + k % 10)]⟩ ++ out)
theorem dgF_zero (f : Nat) (S : ByteArray) : dgF f 0 S = S := by cases f <;> simp [dgF]
theorem dgF_step {f k : Nat} {S : ByteArray} (h : 0 < k) : dgF (f + 1) k S = dgF f (k / 10) (⟨#[UInt8.ofNat (48 + k % 10)]⟩ ++ S) := by
  simp only [dgF]; rw [if_neg (by omega)]
def mt (k : Int) : ByteArray := ⟨#[109]⟩ ++ dgF 19 k.toNat ⟨#[]⟩
theorem dgF_size : ∀ (f k : Nat) (S : ByteArray), (dgF f k S).size ≤ f + S.size := by
  intro f
  induction f with
  | zero => intro k S; simp [dgF]
  | succ f ih =>
    intro k S
    simp only [dgF]
    split
    · omega
    · refine Nat.le_trans (ih _ _) ?_
      rw [ByteArray.size_append]
      have : (⟨#[UInt8.ofNat (48 + k % 10)]⟩ : ByteArray).size = 1 := rfl
      omega
theorem conv_byte (w : World) (x : Int) (c : UInt8) (hx : (c.toNat : Int) = x) : (convert 90 9 (.slice (some ⟨w.heap.size, 0, none⟩) 1 1)).run Tryz.prog (w.alloc (.cells #[.int .u8 x] 5)) = .ok (.string ⟨#[c]⟩) (w.alloc (.cells #[.int .u8 x] 5)) := by
  subst hx
  refine run_convert_bytes_back (P := Tryz.prog) _ 90 9 5 ⟨w.heap.size, 0, none⟩ 1 [c] Tryz.underlying90 Tryz.underlying5 Tryz.underlying9 (fun j hj => ?_)
  have : j = 0 := by simp at hj; omega
  subst this
  simp [go_sem]
theorem digit_byte (j : Nat) : ((UInt8.ofNat (48 + j % 10)).toNat : Int) = 48 + (j : Int) % 10 := by
  rw [UInt8.toNat_ofNat']
  omega
set_option maxRecDepth 100000 in
set_option maxHeartbeats 2000000 in
theorem markText_c (k : Int) (w : World) (h0 : 1 ≤ k) (h1 : k ≤ 4611686018427387904) :
    Calls Tryz.prog 37 #[.int .i64 k] w fun e w' => e = .returned (.string (mt k)) ∧ Below w.heap.size w w' := by
  obtain ⟨n, rfl⟩ := Int.eq_ofNat_of_zero_le (show 0 ≤ k by omega)
  have HF : Hid (mt (n : Int) = ⟨#[109]⟩ ++ dgF 19 n ⟨#[]⟩) := Lib.hid (by unfold mt; rw [Int.toNat_natCast])
  obtain ⟨R, hR⟩ : ∃ R, dgF 19 n ⟨#[]⟩ = R := ⟨_, rfl⟩
  have hRs : R.size ≤ 19 := by rw [← hR]; have := dgF_size 19 n ⟨#[]⟩; have e : (⟨#[]⟩ : ByteArray).size = 0 := rfl; omega
  have HR := Lib.hid hR
  rw [hR] at HF
  have hn : n < 10 ^ 19 := by show n < 10000000000000000000; omega
  have HN := Lib.hid hn
  clear hR hn
  go_enter Tryz.func37, Tryz.ntmps37
  go_wp2_with fail
  go_loopw [0, 3] (fun v0 v3 wr => ∃ (f j : Nat) (S : ByteArray), f ≤ 19 ∧ j ≤ 4611686018427387904 ∧ S.size + f ≤ 19 ∧ v0 = .int .i64 j ∧ v3 = .string S ∧ Hid (j < 10 ^ f) ∧ Hid (dgF f j S = R) ∧ Hid (Below w.heap.size w wr)) (fun v0 _ _ => (intOf v0).toNat)
  case atStart => exact ⟨19, n, ⟨#[]⟩, Nat.le_refl _, by omega, Nat.le_refl _, rfl, rfl, HN, HR, Lib.hid (Below.refl _ _)⟩
  case round =>
    obtain ⟨f, j, S, hf, hj, hS, rfl, rfl, HJ, HD, HB⟩ := hrel
    by_cases hp : 0 < j
    · obtain ⟨f, rfl⟩ : ∃ g, f = g + 1 := ⟨f - 1, by
        rcases Nat.eq_zero_or_pos f with h | h
        · subst h; have := HJ.out; simp at this; omega
        · omega⟩
      have hd2 := (dgF_step (f := f) (S := S) hp).symm.trans HD.out
      have hdb := digit_byte j
      obtain ⟨c, hc⟩ : ∃ c, UInt8.ofNat (48 + j % 10) = c := ⟨_, rfl⟩
      rw [hc] at hd2 hdb
      have HD2 := Lib.hid hd2
      have hcv := conv_byte wr _ _ hdb
      clear hd2 hdb hc
      have HJ2 : Hid (j / 10 < 10 ^ f) := Lib.hid (Nat.div_lt_of_lt_mul (by have := HJ.out; rw [Nat.pow_succ] at this; omega))
      have j0 : (0 : Int) < (j : Int) := by omega
      have m0 : (0 : Int) ≤ (j : Int) % 10 := by omega
      have m1 : (j : Int) % 10 ≤ 9 := by omega
      go_wp2
      refine ⟨⟨f, j / 10, _, by omega, by omega, ?_, by go_num, rfl, HJ2, HD2, Lib.hid (bel_al HB.out _)⟩, by simp [intOf]; omega⟩
      rw [ByteArray.size_append]
      have : (⟨#[c]⟩ : ByteArray).size = 1 := rfl
      omega
    · obtain rfl : j = 0 := by omega
      have e := HD.out
      rw [dgF_zero] at e
      subst e
      go_wp2
      go_ret
      rw [HF.out]
      exact ⟨rfl, HB.out⟩
end Go.Proofs.YtddccjdppbcnbaaGreat
