/-
  A town as a value, and lists of ints: sizes, copies, comparison, marks.
-/
import Derived.Test.YtjogndeodgibfaaDoorMarkSt
import Derived.Test.YtjogndeodgibfaaDoorInts
namespace Go.Proofs.YtjogndeodgibfaaDoor
open Go.RowKit

/-- A town's copy: its streets are new memory. -/
def OwnT (n : Int) (l : List St) (w : World) (e : Ending) (w' : World) : Prop :=
  ∃ s, e = .returned (.agg #[.int .i64 n, s]) ∧ w'.ownsRow w.heap.size 47 3 s l.length (l.flatMap St.cells) ∧ Below w.heap.size w w'

theorem toTownRd {n : Int} {l : List St} {w w' : World} {e : Ending} (h : OwnT n l w e w') : ∃ s, e = .returned (.agg #[.int .i64 n, s]) ∧ w'.ownsRow w.heap.size 47 3 s l.length (l.flatMap St.cells) ∧ Below w.heap.size w w' := h

end Go.Proofs.YtjogndeodgibfaaDoor
