/-
  The struct Street as a value: its copy and its comparison.
-/
import Derived.Test.YtbjiipicbcamnaaNum
import Derived.Test.YtbjiipicbcamnaaMem
import Derived.Test.YtbjiipicbcamnaaPure
namespace Go.Proofs.Ytbjiipicbcamnaa
open Go.RowKit

structure St where
  f : Int
  t : Int
  s : Int
deriving DecidableEq

def St.cells (t : St) : List Value := [.int .i64 t.f, .int .i64 t.t, .int .i64 t.s]
def stEq (a b : St) : Bool := decide (a = b)
theorem St.cells_len (t : St) : t.cells.length = 3 := rfl
theorem st_at {w wr : World} {b off : Nat} {l : List St} (hc : ∀ j u, (l.flatMap St.cells)[j]? = some u → w.cell? ⟨b, off + j, none⟩ = some u) (hb : Below w.heap.size w wr) (hbl : b < w.heap.size)
    {k : Nat} {t : St} (hx : l[k]? = some t) :
    wr.cell? ⟨b, off + k * 3, none⟩ = some (.int .i64 t.f) ∧ wr.cell? ⟨b, off + k * 3 + 1, none⟩ = some (.int .i64 t.t) ∧ wr.cell? ⟨b, off + k * 3 + 2, none⟩ = some (.int .i64 t.s) := by
  have hf := flat_get St.cells_len l k t hx
  exact ⟨cell_at hc hb hbl (hf 0 (by omega)), cell_at hc hb hbl (hf 1 (by omega)), cell_at hc hb hbl (hf 2 (by omega))⟩
theorem st_at' {w wr : World} {b off : Nat} {l : List St} (hc : ∀ j u, (l.flatMap St.cells)[j]? = some u → w.cell? ⟨b, off + j, none⟩ = some u) (hb : Below w.heap.size w wr) (hbl : b < w.heap.size)
    {k : Nat} (hk : k < l.length) : ∃ f t s, l[k]? = some ⟨f, t, s⟩ ∧
    wr.cell? ⟨b, off + k * 3, none⟩ = some (.int .i64 f) ∧ wr.cell? ⟨b, off + k * 3 + 1, none⟩ = some (.int .i64 t) ∧ wr.cell? ⟨b, off + k * 3 + 2, none⟩ = some (.int .i64 s) := by
  have hx : l[k]? = some l[k] := List.getElem?_eq_getElem hk
  exact ⟨_, _, _, hx, st_at hc hb hbl hx⟩

end Go.Proofs.Ytbjiipicbcamnaa
