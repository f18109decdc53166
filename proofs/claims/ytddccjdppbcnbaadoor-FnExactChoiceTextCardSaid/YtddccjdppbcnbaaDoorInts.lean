/-
  Slices of ints: sizes, copies, comparison, marks.
-/
import Derived.Test.YtddccjdppbcnbaaDoorNum
import Derived.Test.YtddccjdppbcnbaaDoorMem
import Derived.Test.YtddccjdppbcnbaaDoorPure
import Derived.Deep.RegionHeld3
import Derived.Deep.RegionWith
import Derived.BigQuiet
import Derived.Deep.QuietTactic
import Derived.IntWalk
namespace Go.Proofs.YtddccjdppbcnbaaDoor
open Go.RowKit

def ints (l : List Int) : List Value := l.map (Value.int .i64)
theorem ints_len (l : List Int) : (ints l).length = l.length := by simp [ints]
theorem ints_get {l : List Int} {k : Nat} {x : Int} (h : l[k]? = some x) : (ints l)[k]? = some (.int .i64 x) := by simp [ints, h]
theorem ints_append (a b : List Int) : ints (a ++ b) = ints a ++ ints b := by simp [ints]
theorem ints_inj {a b : List Int} (h : ints a = ints b) : a = b := by
  refine (List.map_inj_right ?_).1 h
  intro x y e; injection e
/-- A slice of ints that reads as l. -/
def RdI (w : World) (v : Value) (l : List Int) : Prop := Rd w v l.length (ints l)
theorem rdi_below {w w' : World} {v : Value} {l : List Int} (h : RdI w v l) (hb : Below w.heap.size w w') : RdI w' v l := rd_below h hb
theorem rdi_own {w : World} {base : Nat} {e : TypeId} {v : Value} {n : Nat} {l : List Int} (h : w.ownsRow base e 1 v n (ints l)) : RdI w v l := by
  have h1 := h.1
  have : n = l.length := by rw [ints_len] at h1; omega
  subst this
  exact own_rd h
theorem rdi_take {w : World} {g n cap j : Nat} {l : List Int} (h : Rd w (.slice (some ⟨g, 0, none⟩) n cap) n (ints l)) (hj : j ≤ n) (hc : n ≤ cap) (hl : l.length = n) : RdI w (.slice (some ⟨g, 0, none⟩) j cap) (l.take j) := by
  obtain ⟨A, c, hv, h1, h2, h3⟩ := h
  injection hv with hA _ hcc
  subst hA; subst hcc
  refine ⟨_, _, by rw [List.length_take, Nat.min_eq_left (by omega)], by rw [List.length_take]; omega, h2, fun hn => ?_⟩
  rw [List.length_take] at hn
  obtain ⟨b, off, e, hb, hcell⟩ := h3 (by omega)
  refine ⟨b, off, e, hb, fun q u hu => hcell q u ?_⟩
  rw [ints, List.map_take, List.getElem?_take] at hu
  split at hu
  · exact hu
  · cases hu
theorem rd_drop {w : World} {g n cap j : Nat} {l : List Int} (h : Rd w (.slice (some ⟨g, 0, none⟩) n cap) n (ints l)) (hj : j ≤ n) : Rd w (.slice (some ⟨g, j, none⟩) (n - j) (cap - j)) (n - j) (ints (l.drop j)) := by
  obtain ⟨A, c, hv, h1, h2, h3⟩ := h
  injection hv with hA _ hcc
  subst hA; subst hcc
  refine ⟨_, _, rfl, by omega, by omega, fun hn => ?_⟩
  obtain ⟨b, off, e, hb, hcell⟩ := h3 (by omega)
  injection e with e
  injection e with e1 e2
  subst e1; subst e2
  refine ⟨g, j, rfl, hb, fun q u hu => ?_⟩
  have := hcell (j + q) u (by rw [ints, List.map_drop, List.getElem?_drop] at hu; exact hu)
  simpa using this
theorem Tryd.infoInt : (Tryd.prog.info? 3).map (fun i => (i.zero, i.size, i.bytes)) = some (some (.int .i64 0), 1, 8) := by kernel_rfl

/-- k, k+1, .., n of them. -/
def upFrom (k : Int) (n : Nat) : List Int := (List.range n).map fun (i : Nat) => k + (i : Int)
theorem upFrom_len (k : Int) (n : Nat) : (upFrom k n).length = n := by simp [upFrom]
theorem upFrom_get {k : Int} {n i : Nat} (h : i < n) : (upFrom k n)[i]? = some (k + i) := by simp [upFrom, h]
theorem upFrom_succ (k : Int) (n : Nat) : upFrom k (n + 1) = upFrom k n ++ [k + n] := by simp [upFrom, List.range_succ]

end Go.Proofs.YtddccjdppbcnbaaDoor
