/-
  The laws' marks on texts. (joined by pack.py: Txt)
-/
import Derived.Test.YtgcdgcidjjdhmaaGreatDoorK6
import Derived.Laws.IdiomStrings
namespace Go.Proofs.YtgcdgcidjjdhmaaGreatDoor
set_option linter.unusedVariables false
set_option linter.unusedSimpArgs false
open Go.RowKit

def dgF : Nat → Nat → ByteArray → ByteArray
  | 0, _, out => out
  | f + 1, k, out => if k = 0 then out else dgF f (k / 10) (⟨#[UInt8.ofNat (48 + k % 10)]⟩ ++ out)
theorem dgF_zero (f : Nat) (S : ByteArray) : dgF f 0 S = S := by cases f <;> simp [dgF]
theorem dgF_step {f k : Nat} {S : ByteArray} (h : 0 < k) : dgF (f + 1) k S = dgF f (k / 10) (⟨#[UInt8.ofNat (48 + k % 10)]⟩ ++ S) := by
  simp only [dgF]; rw [if_neg (by omega)]
def mt (k : Int) : ByteArray := ⟨#[109]⟩ ++ dgF 19 k.toNat ⟨#[]⟩
theorem dgF_size : ∀ (f k : Nat) (S : ByteArray), (dgF f k S).size ≤ f + S.size := by
  intro f
  induction f with
  | zero => intro k S; simp [dgF]
  | succ f ih =>
    intro k S
    simp only [dgF]
    split
    · omega
    · refine Nat.le_trans (ih _ _) ?_
      rw [ByteArray.size_append]
      have : (⟨#[UInt8.ofNat (48 + k % 10)]⟩ : ByteArray).size = 1 := rfl
      omega
theorem conv_byte (w : World) (x : Int) (c : UInt8) (hx : (c.toNat : Int) = x) : (convert 22 9 (.slice (some ⟨w.heap.size, 0, none⟩) 1 1)).run Tryz.prog (w.alloc (.cells #[.int .u8 x] 5)) = .ok (.string ⟨#[c]⟩) (w.alloc (.cells #[.int .u8 x] 5)) := by
  subst hx
  refine run_convert_bytes_back (P := Tryz.prog) _ 22 9 5 ⟨w.heap.size, 0, none⟩ 1 [c] Tryz.underlying22 Tryz.underlying5 Tryz.underlying9 (fun j hj => ?_)
  have : j = 0 := by simp at hj; omega
  subst this
  simp [go_sem]
theorem digit_byte (j : Nat) : ((UInt8.ofNat (48 + j % 10)).toNat : Int) = 48 + (j : Int) % 10 := by
  rw [UInt8.toNat_ofNat']
  omega
end Go.Proofs.YtgcdgcidjjdhmaaGreatDoor
