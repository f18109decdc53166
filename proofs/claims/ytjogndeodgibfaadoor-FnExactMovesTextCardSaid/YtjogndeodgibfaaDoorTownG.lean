/-
  A good town: the plain word, and spec.toGood.
-/
import Derived.Test.YtjogndeodgibfaaDoorStS
namespace Go.Proofs.YtjogndeodgibfaaDoor
open Go.RowKit

def strS (n : Int) (s : St) : Bool := inB s.f 0 (n - 1) && inB s.t 0 (n - 1) && decide (s.f ≠ s.t) && inB s.s 1 3600
def goodSt (n : Int) (s : St) : Bool := inB s.f 0 (n - 1) && inB s.t 0 (n - 1) && decide (s.f < s.t) && inB s.s 1 3600
def befSt (a b : St) : Bool := decide (a.f < b.f) || (decide (a.f = b.f) && decide (a.t < b.t))
def befAt (l : List St) (i : Nat) (s : St) : Bool := decide (i = 0) || (match l[i - 1]? with | none => true | some p => befSt p s)
def okAt (n : Int) (l : List St) (i : Nat) : Bool := match l[i]? with | none => true | some s => goodSt n s && befAt l i s
def goodTown (n : Int) (l : List St) : Bool := inB n 1 14 && decide (l.length ≤ 40) && (List.range l.length).all (okAt n l)

theorem goodTown_true {n : Int} {l : List St} (h : goodTown n l = true) : 1 ≤ n ∧ n ≤ 14 ∧ l.length ≤ 40 ∧ ∀ s ∈ l, 0 ≤ s.f ∧ s.f < s.t ∧ s.t < n ∧ 1 ≤ s.s ∧ s.s ≤ 3600 := by
  simp only [goodTown, Bool.and_eq_true, decide_eq_true_eq, List.all_eq_true, List.mem_range] at h
  obtain ⟨⟨h1, h2⟩, h3⟩ := h
  have := inB_true h1
  refine ⟨this.1, this.2, h2, fun s hs => ?_⟩
  obtain ⟨i, hi, rfl⟩ := List.getElem_of_mem hs
  have h4 := h3 i hi
  unfold okAt at h4
  rw [List.getElem?_eq_getElem hi] at h4
  simp only [Bool.and_eq_true] at h4
  have h5 := h4.1
  simp only [goodSt, inB, Bool.and_eq_true, decide_eq_true_eq] at h5
  omega

end Go.Proofs.YtjogndeodgibfaaDoor
