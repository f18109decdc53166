/-
  slices.Clone at appliances. (joined by pack.py: CloneA)
-/
import Derived.Test.YthgegghdkoeofaaGreatK3
import Derived.Test.YthgegghdkoeofaaGreatK8
import Derived.Test.YthgegghdkoeofaaGreatK7
import Derived.Test.YthgegghdkoeofaaGreatK6
import Derived.Lib.SliceRun
import Derived.Laws.IdiomCopy
namespace Go.Proofs.YthgegghdkoeofaaGreat
set_option linter.unusedVariables false
set_option linter.unusedSimpArgs false
open Go.RowKit

theorem ap_one (l : List Ap) : ∀ u ∈ l.flatMap Ap.cells, u.oneCell' = true := fun u hu => by
  obtain ⟨a, _, h⟩ := List.mem_flatMap.1 hu
  simp only [Ap.cells, List.mem_cons, List.not_mem_nil, or_false] at h
  rcases h with rfl | rfl | rfl | rfl | rfl <;> rfl
end Go.Proofs.YthgegghdkoeofaaGreat
