/-
  The struct Appliance as a value: its copy and its comparison.
-/
import Derived.Test.YtddccjdppbcnbaaDoorNum
import Derived.Test.YtddccjdppbcnbaaDoorMem
import Derived.Test.YtddccjdppbcnbaaDoorPure
import Derived.Test.YtddccjdppbcnbaaDoorStr
namespace Go.Proofs.YtddccjdppbcnbaaDoor
open Go.RowKit

structure Ap where
  nm : ByteArray
  kd : Int
  nd : Int
  cr : Int
  sv : Int
deriving DecidableEq

def Ap.cells (t : Ap) : List Value := [.string t.nm, .int .i64 t.kd, .int .i64 t.nd, .int .i64 t.cr, .int .i64 t.sv]
def apEq (a b : Ap) : Bool := decide (a = b)
theorem Ap.cells_len (t : Ap) : t.cells.length = 5 := rfl
theorem ap_at {w wr : World} {b off : Nat} {l : List Ap} (hc : ∀ j u, (l.flatMap Ap.cells)[j]? = some u → w.cell? ⟨b, off + j, none⟩ = some u) (hb : Below w.heap.size w wr) (hbl : b < w.heap.size)
    {k : Nat} {t : Ap} (hx : l[k]? = some t) :
    wr.cell? ⟨b, off + k * 5, none⟩ = some (.string t.nm) ∧ wr.cell? ⟨b, off + k * 5 + 1, none⟩ = some (.int .i64 t.kd) ∧ wr.cell? ⟨b, off + k * 5 + 2, none⟩ = some (.int .i64 t.nd) ∧ wr.cell? ⟨b, off + k * 5 + 3, none⟩ = some (.int .i64 t.cr) ∧ wr.cell? ⟨b, off + k * 5 + 4, none⟩ = some (.int .i64 t.sv) := by
  have hf := flat_get Ap.cells_len l k t hx
  exact ⟨cell_at hc hb hbl (hf 0 (by omega)), cell_at hc hb hbl (hf 1 (by omega)), cell_at hc hb hbl (hf 2 (by omega)), cell_at hc hb hbl (hf 3 (by omega)), cell_at hc hb hbl (hf 4 (by omega))⟩
theorem ap_at' {w wr : World} {b off : Nat} {l : List Ap} (hc : ∀ j u, (l.flatMap Ap.cells)[j]? = some u → w.cell? ⟨b, off + j, none⟩ = some u) (hb : Below w.heap.size w wr) (hbl : b < w.heap.size)
    {k : Nat} (hk : k < l.length) : ∃ nm kd nd cr sv, l[k]? = some ⟨nm, kd, nd, cr, sv⟩ ∧
    wr.cell? ⟨b, off + k * 5, none⟩ = some (.string nm) ∧ wr.cell? ⟨b, off + k * 5 + 1, none⟩ = some (.int .i64 kd) ∧ wr.cell? ⟨b, off + k * 5 + 2, none⟩ = some (.int .i64 nd) ∧ wr.cell? ⟨b, off + k * 5 + 3, none⟩ = some (.int .i64 cr) ∧ wr.cell? ⟨b, off + k * 5 + 4, none⟩ = some (.int .i64 sv) := by
  have hx : l[k]? = some l[k] := List.getElem?_eq_getElem hk
  exact ⟨_, _, _, _, _, hx, ap_at hc hb hbl hx⟩

end Go.Proofs.YtddccjdppbcnbaaDoor
