/-
  The struct Street as a value: its copy and its comparison. The numbers below k that a test lets pass. The greater of two. Contracts over numbers alone: foam, water, rounding up. (joined by pack.py: St Sel Most NumF)
-/
import Derived.Test.YtgcdgcidjjdhmaaGreatDoorK0
import Derived.Test.YtgcdgcidjjdhmaaGreatDoorK1
import Derived.Test.YtgcdgcidjjdhmaaGreatDoorK2
namespace Go.Proofs.YtgcdgcidjjdhmaaGreatDoor
set_option linter.unusedVariables false
set_option linter.unusedSimpArgs false
open Go.RowKit

structure St where
  f : Int
  t : Int
  s : Int
deriving DecidableEq

def St.cells (t : St) : List Value := [.int .i64 t.f, .int .i64 t.t, .int .i64 t.s]
def stEq (a b : St) : Bool := decide (a = b)
theorem St.cells_len (t : St) : t.cells.length = 3 := rfl
theorem st_at {w wr : World} {b off : Nat} {l : List St} (hc : ∀ j u, (l.flatMap St.cells)[j]? = some u → w.cell? ⟨b, off + j, none⟩ = some u) (hb : Below w.heap.size w wr) (hbl : b < w.heap.size)
    {k : Nat} {t : St} (hx : l[k]? = some t) :
    wr.cell? ⟨b, off + k * 3, none⟩ = some (.int .i64 t.f) ∧ wr.cell? ⟨b, off + k * 3 + 1, none⟩ = some (.int .i64 t.t) ∧ wr.cell? ⟨b, off + k * 3 + 2, none⟩ = some (.int .i64 t.s) := by
  have hf := flat_get St.cells_len l k t hx
  exact ⟨cell_at hc hb hbl (hf 0 (by omega)), cell_at hc hb hbl (hf 1 (by omega)), cell_at hc hb hbl (hf 2 (by omega))⟩
theorem st_at' {w wr : World} {b off : Nat} {l : List St} (hc : ∀ j u, (l.flatMap St.cells)[j]? = some u → w.cell? ⟨b, off + j, none⟩ = some u) (hb : Below w.heap.size w wr) (hbl : b < w.heap.size)
    {k : Nat} (hk : k < l.length) : ∃ f t s, l[k]? = some ⟨f, t, s⟩ ∧
    wr.cell? ⟨b, off + k * 3, none⟩ = some (.int .i64 f) ∧ wr.cell? ⟨b, off + k * 3 + 1, none⟩ = some (.int .i64 t) ∧ wr.cell? ⟨b, off + k * 3 + 2, none⟩ = some (.int .i64 s) := by
  have hx : l[k]? = some l[k] := List.getElem?_eq_getElem hk
  exact ⟨_, _, _, hx, st_at hc hb hbl hx⟩

end Go.Proofs.YtgcdgcidjjdhmaaGreatDoor

namespace Go.Proofs.YtgcdgcidjjdhmaaGreatDoor
set_option linter.unusedVariables false
set_option linter.unusedSimpArgs false
open Go.RowKit

def selD (p : Nat → Bool) (k : Nat) : List Int := ((List.range k).filter p).map fun (i : Nat) => (i : Int)
theorem selD_yes {p : Nat → Bool} {k : Nat} (h : p k = true) : selD p (k + 1) = selD p k ++ [(k : Int)] := by
  unfold selD; rw [List.range_succ, List.filter_append, List.map_append]; simp [h]
theorem selD_no {p : Nat → Bool} {k : Nat} (h : p k = false) : selD p (k + 1) = selD p k := by
  unfold selD; rw [List.range_succ, List.filter_append, List.map_append]; simp [h]
theorem selD_len (p : Nat → Bool) (k : Nat) : (selD p k).length ≤ k := by
  unfold selD; rw [List.length_map]; exact Nat.le_trans (List.length_filter_le _ _) (by simp)
theorem selD_mem {p : Nat → Bool} {k : Nat} {x : Int} (h : x ∈ selD p k) : ∃ i : Nat, x = (i : Int) ∧ i < k ∧ p i = true := by
  unfold selD at h
  obtain ⟨i, hi, rfl⟩ := List.mem_map.1 h
  rw [List.mem_filter, List.mem_range] at hi
  exact ⟨i, rfl, hi.1, hi.2⟩
end Go.Proofs.YtgcdgcidjjdhmaaGreatDoor

namespace Go.Proofs.YtgcdgcidjjdhmaaGreatDoor
set_option linter.unusedVariables false
set_option linter.unusedSimpArgs false
open Go.RowKit

end Go.Proofs.YtgcdgcidjjdhmaaGreatDoor

namespace Go.Proofs.YtgcdgcidjjdhmaaGreatDoor
set_option linter.unusedVariables false
set_option linter.unusedSimpArgs false
open Go.RowKit

/-- What FoamFor gives. -/
def foamFor (a r p m : Int) : Int × Int × Bool :=
  if inB a 1 5000 && inB r 1 20 && inB p 1 6 && inB m 1 60 then (a * r * m - (a * r * m * p + 99) / 100, (a * r * m * p + 99) / 100, true) else (0, 0, false)

/-- What FoamLasts gives. -/
def foamLasts (wa fo fl p : Int) : Int × Bool :=
  if inB wa 0 100000 && inB fo 0 100000 && inB fl 1 6000 && inB p 1 6 then
    (if (fl * p + 99) / 100 < fl then minI (fo / ((fl * p + 99) / 100)) (wa / (fl - (fl * p + 99) / 100)) else fo / ((fl * p + 99) / 100), true)
  else (0, false)

end Go.Proofs.YtgcdgcidjjdhmaaGreatDoor
