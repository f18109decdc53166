/-
  toIntS: a copy of a slice of ints.
-/
import Derived.Test.YtbjiipicbcamnaaInts
import Derived.Test.YtbjiipicbcamnaaOwn
namespace Go.Proofs.Ytbjiipicbcamnaa
open Go.RowKit

def one (x : Int) : List Value := [.int .i64 x]
theorem one_len (x : Int) : (one x).length = 1 := rfl
theorem flat_one (l : List Int) : l.flatMap one = ints l := by
  induction l with
  | nil => rfl
  | cons x l ih => rw [List.flatMap_cons, ih]; rfl
def zone : List Value := [.int .i64 0]
end Go.Proofs.Ytbjiipicbcamnaa
