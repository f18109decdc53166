/-
  The struct Appliance as a value: its copy and its comparison. The struct Choice as a value: its copy and its comparison. (joined by pack.py: Ap Ch)
-/
import Derived.Test.YtgcdgcidjjdhmaaGreatDoorK0
import Derived.Test.YtgcdgcidjjdhmaaGreatDoorK1
import Derived.Test.YtgcdgcidjjdhmaaGreatDoorK2
import Derived.Test.YtgcdgcidjjdhmaaGreatDoorK3
namespace Go.Proofs.YtgcdgcidjjdhmaaGreatDoor
set_option linter.unusedVariables false
set_option linter.unusedSimpArgs false
open Go.RowKit

structure Ap where
  nm : ByteArray
  kd : Int
  nd : Int
  cr : Int
  sv : Int
deriving DecidableEq

def Ap.cells (t : Ap) : List Value := [.string t.nm, .int .i64 t.kd, .int .i64 t.nd, .int .i64 t.cr, .int .i64 t.sv]
def apEq (a b : Ap) : Bool := decide (a = b)
theorem Ap.cells_len (t : Ap) : t.cells.length = 5 := rfl
theorem ap_at {w wr : World} {b off : Nat} {l : List Ap} (hc : ∀ j u, (l.flatMap Ap.cells)[j]? = some u → w.cell? ⟨b, off + j, none⟩ = some u) (hb : Below w.heap.size w wr) (hbl : b < w.heap.size)
    {k : Nat} {t : Ap} (hx : l[k]? = some t) :
    wr.cell? ⟨b, off + k * 5, none⟩ = some (.string t.nm) ∧ wr.cell? ⟨b, off + k * 5 + 1, none⟩ = some (.int .i64 t.kd) ∧ wr.cell? ⟨b, off + k * 5 + 2, none⟩ = some (.int .i64 t.nd) ∧ wr.cell? ⟨b, off + k * 5 + 3, none⟩ = some (.int .i64 t.cr) ∧ wr.cell? ⟨b, off + k * 5 + 4, none⟩ = some (.int .i64 t.sv) := by
  have hf := flat_get Ap.cells_len l k t hx
  exact ⟨cell_at hc hb hbl (hf 0 (by omega)), cell_at hc hb hbl (hf 1 (by omega)), cell_at hc hb hbl (hf 2 (by omega)), cell_at hc hb hbl (hf 3 (by omega)), cell_at hc hb hbl (hf 4 (by omega))⟩
theorem ap_at' {w wr : World} {b off : Nat} {l : List Ap} (hc : ∀ j u, (l.flatMap Ap.cells)[j]? = some u → w.cell? ⟨b, off + j, none⟩ = some u) (hb : Below w.heap.size w wr) (hbl : b < w.heap.size)
    {k : Nat} (hk : k < l.length) : ∃ nm kd nd cr sv, l[k]? = some ⟨nm, kd, nd, cr, sv⟩ ∧
    wr.cell? ⟨b, off + k * 5, none⟩ = some (.string nm) ∧ wr.cell? ⟨b, off + k * 5 + 1, none⟩ = some (.int .i64 kd) ∧ wr.cell? ⟨b, off + k * 5 + 2, none⟩ = some (.int .i64 nd) ∧ wr.cell? ⟨b, off + k * 5 + 3, none⟩ = some (.int .i64 cr) ∧ wr.cell? ⟨b, off + k * 5 + 4, none⟩ = some (.int .i64 sv) := by
  have hx : l[k]? = some l[k] := List.getElem?_eq_getElem hk
  exact ⟨_, _, _, _, _, hx, ap_at hc hb hbl hx⟩

end Go.Proofs.YtgcdgcidjjdhmaaGreatDoor

namespace Go.Proofs.YtgcdgcidjjdhmaaGreatDoor
set_option linter.unusedVariables false
set_option linter.unusedSimpArgs false
open Go.RowKit

structure Ch where
  cn : ByteArray
  cs : Int
deriving DecidableEq

def Ch.cells (t : Ch) : List Value := [.string t.cn, .int .i64 t.cs]
def chEq (a b : Ch) : Bool := decide (a = b)
theorem Ch.cells_len (t : Ch) : t.cells.length = 2 := rfl
theorem ch_at {w wr : World} {b off : Nat} {l : List Ch} (hc : ∀ j u, (l.flatMap Ch.cells)[j]? = some u → w.cell? ⟨b, off + j, none⟩ = some u) (hb : Below w.heap.size w wr) (hbl : b < w.heap.size)
    {k : Nat} {t : Ch} (hx : l[k]? = some t) :
    wr.cell? ⟨b, off + k * 2, none⟩ = some (.string t.cn) ∧ wr.cell? ⟨b, off + k * 2 + 1, none⟩ = some (.int .i64 t.cs) := by
  have hf := flat_get Ch.cells_len l k t hx
  exact ⟨cell_at hc hb hbl (hf 0 (by omega)), cell_at hc hb hbl (hf 1 (by omega))⟩
theorem ch_at' {w wr : World} {b off : Nat} {l : List Ch} (hc : ∀ j u, (l.flatMap Ch.cells)[j]? = some u → w.cell? ⟨b, off + j, none⟩ = some u) (hb : Below w.heap.size w wr) (hbl : b < w.heap.size)
    {k : Nat} (hk : k < l.length) : ∃ cn cs, l[k]? = some ⟨cn, cs⟩ ∧
    wr.cell? ⟨b, off + k * 2, none⟩ = some (.string cn) ∧ wr.cell? ⟨b, off + k * 2 + 1, none⟩ = some (.int .i64 cs) := by
  have hx : l[k]? = some l[k] := List.getElem?_eq_getElem hk
  exact ⟨_, _, hx, ch_at hc hb hbl hx⟩

end Go.Proofs.YtgcdgcidjjdhmaaGreatDoor
