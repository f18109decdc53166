/-
  spec.dsReady (printed by gen_dsr.py). FirstAttendance: both sides. (joined by pack.py: Dsr First)
-/
import Derived.Test.YtgcdgcidjjdhmaaGreatDoorK17
import Derived.Test.YtgcdgcidjjdhmaaGreatDoorK16
import Derived.Deep.RegionLaw
import Derived.Deep.DeepCutAuto
import Derived.Deep.CutBlock
namespace Go.Proofs.YtgcdgcidjjdhmaaGreatDoor
set_option linter.unusedVariables false
set_option linter.unusedSimpArgs false
open Go.RowKit

def Sep (u v : Value) : Prop := ∀ q q', u.ownBlock = some q → v.ownBlock = some q' → q ≠ q'
theorem Sep.symm {u v : Value} (h : Sep u v) : Sep v u := fun q q' h1 h2 e => h q' q h2 h1 e.symm
theorem kept3 {a b : World} {base : Nat} {e : TypeId} {sz : Nat} {v v' : Value} {n : Nat} {xs : List Value} (h : a.ownsRow base e sz v n xs) (g : a.grownBy b v'.ownBlock) (sep : Sep v v') : b.ownsRow base e sz v n xs :=
  h.kept g (by
    cases hv : v.ownBlock with
    | none => exact .inl rfl
    | some q => exact .inr (fun hq => sep q q hv hq.symm rfl))
theorem sep_grow {a : World} {v v' x : Value} (e : v'.ownBlock = v.ownBlock ∨ v'.ownBlock = some a.heap.size) (hx : Sep v x) (hlt : ∀ q, x.ownBlock = some q → q < a.heap.size) : Sep v' x := fun q q' e1 e2 => by
  rcases e with e | e
  · exact hx q q' (by rw [← e]; exact e1) e2
  · rw [e] at e1
    have h1 := Option.some.inj e1
    have h2 := hlt q' e2
    omega
theorem cell_keep {b c : World} {x o : Nat} (h : c.heap[x]? = b.heap[x]?) : c.cell? ⟨x, o, none⟩ = b.cell? ⟨x, o, none⟩ := World.cell?_of_block h
theorem rd_cell_at {w : World} {base : Nat} {e : TypeId} {sz : Nat} {g o n cap m : Nat} {xs : List Value} (h : w.ownsRow base e sz (.slice (some ⟨g, o, none⟩) n cap) m xs) {j : Nat} {u : Value} (hj : xs[j]? = some u) (hm : 0 < m) : w.cell? ⟨g, o + j, none⟩ = some u := by
  obtain ⟨A, c, he, _, _, hr⟩ := own_rd h
  obtain ⟨b, off, rfl, _, hc⟩ := hr hm
  cases he
  exact hc j u hj
theorem cmpI_lt (a b : Int) : decide (cmpI a b < 0) = decide (a < b) := by
  unfold cmpI
  split
  · simp [*]
  · split <;> simp [*]
/-- The times of all appliances. -/
def allT (ev : List Int) (f : List Ap) : List Int := f.map fun a => ev.getD a.nd.toNat 0
theorem allT_snoc {ev : List Int} {f : List Ap} {k : Nat} {a : Ap} (h : f[k]? = some a) : allT ev (f.take (k + 1)) = allT ev (f.take k) ++ [ev.getD a.nd.toNat 0] := by unfold allT; rw [take_succ_of h, List.map_append]; rfl
/-- Two lists that can be read. -/
def Rd2 (a b : List Int) (w : World) (e : Ending) (w' : World) : Prop := ∃ v u, e = .returned (.tuple #[v, u]) ∧ RdI w' v a ∧ RdI w' u b ∧ Below w.heap.size w w'

end Go.Proofs.YtgcdgcidjjdhmaaGreatDoor

namespace Go.Proofs.YtgcdgcidjjdhmaaGreatDoor
set_option linter.unusedVariables false
set_option linter.unusedSimpArgs false
open Go.RowKit

def firstAttendanceV (n : Int) (l : List St) (f : List Ap) (x : Int) : ByteArray × Int × Bool :=
  if askD n l f x = true then
    match readyL (distT n.toNat (arcs l) x.toNat) f with
    | [] => (⟨#[]⟩, 0, false)
    | i :: _ => match f[i.toNat]? with
      | some a => (a.nm, (distT n.toNat (arcs l) x.toNat).getD a.nd.toNat 0, true)
      | none => (⟨#[]⟩, 0, false)
  else (⟨#[]⟩, 0, false)
theorem firstV_no {n : Int} {l : List St} {f : List Ap} {x : Int} (h : askD n l f x = false) : firstAttendanceV n l f x = (⟨#[]⟩, 0, false) := by
  unfold firstAttendanceV; rw [if_neg (by rw [h]; simp)]
theorem firstV_nil {n src : Nat} {l : List St} {f : List Ap} (h : askD n l f src = true) (hr : readyL (distT n (arcs l) src) f = []) : firstAttendanceV n l f src = (⟨#[]⟩, 0, false) := by
  unfold firstAttendanceV; rw [if_pos h, Int.toNat_natCast, Int.toNat_natCast, hr]
theorem firstV_yes {n src k : Nat} {l : List St} {f : List Ap} {r : List Int} {a : Ap} (h : askD n l f src = true) (hr : readyL (distT n (arcs l) src) f = (k : Int) :: r) (ha : f[k]? = some a) :
    firstAttendanceV n l f src = (a.nm, (distT n (arcs l) src).getD a.nd.toNat 0, true) := by
  unfold firstAttendanceV; rw [if_pos h, Int.toNat_natCast, Int.toNat_natCast, hr]; dsimp only; rw [Int.toNat_natCast, ha]
theorem allT_get {ev : List Int} {f : List Ap} {k : Nat} {a : Ap} (h : f[k]? = some a) : (allT ev f)[k]? = some (ev.getD a.nd.toNat 0) := by unfold allT; rw [List.getElem?_map, h]; rfl
theorem allT_len (ev : List Int) (f : List Ap) : (allT ev f).length = f.length := by simp [allT]

def FirstIs (n : Int) (l : List St) (f : List Ap) (x : Int) (w : World) (e : Ending) (w' : World) : Prop :=
  e = .returned (.tuple #[.string (firstAttendanceV n l f x).1, .int .i64 (firstAttendanceV n l f x).2.1, .bool (firstAttendanceV n l f x).2.2]) ∧ Below w.heap.size w w'

end Go.Proofs.YtgcdgcidjjdhmaaGreatDoor
