/-
  The struct Window as a value: its copy and its comparison.
-/
import Derived.Test.YtibkadkodblefaaDoorNum
import Derived.Test.YtibkadkodblefaaDoorMem
import Derived.Test.YtibkadkodblefaaDoorPure
namespace Go.Proofs.YtibkadkodblefaaDoor
open Go.RowKit

structure Wn where
  al : Int
  up : Int
deriving DecidableEq

def Wn.cells (t : Wn) : List Value := [.int .i64 t.al, .int .i64 t.up]
def wnEq (a b : Wn) : Bool := decide (a = b)
theorem Wn.cells_len (t : Wn) : t.cells.length = 2 := rfl
theorem wn_at {w wr : World} {b off : Nat} {l : List Wn} (hc : ∀ j u, (l.flatMap Wn.cells)[j]? = some u → w.cell? ⟨b, off + j, none⟩ = some u) (hb : Below w.heap.size w wr) (hbl : b < w.heap.size)
    {k : Nat} {t : Wn} (hx : l[k]? = some t) :
    wr.cell? ⟨b, off + k * 2, none⟩ = some (.int .i64 t.al) ∧ wr.cell? ⟨b, off + k * 2 + 1, none⟩ = some (.int .i64 t.up) := by
  have hf := flat_get Wn.cells_len l k t hx
  exact ⟨cell_at hc hb hbl (hf 0 (by omega)), cell_at hc hb hbl (hf 1 (by omega))⟩
theorem wn_at' {w wr : World} {b off : Nat} {l : List Wn} (hc : ∀ j u, (l.flatMap Wn.cells)[j]? = some u → w.cell? ⟨b, off + j, none⟩ = some u) (hb : Below w.heap.size w wr) (hbl : b < w.heap.size)
    {k : Nat} (hk : k < l.length) : ∃ al up, l[k]? = some ⟨al, up⟩ ∧
    wr.cell? ⟨b, off + k * 2, none⟩ = some (.int .i64 al) ∧ wr.cell? ⟨b, off + k * 2 + 1, none⟩ = some (.int .i64 up) := by
  have hx : l[k]? = some l[k] := List.getElem?_eq_getElem hk
  exact ⟨_, _, hx, wn_at hc hb hbl hx⟩

set_option maxHeartbeats 400000 in
theorem toWindow_c (al : Int) (up : Int) (w : World) :
    Calls Tryd.prog 67 #[.agg #[.int .i64 al, .int .i64 up]] w fun en w' => en = .returned (.agg #[.int .i64 al, .int .i64 up]) ∧ Below w.heap.size w w' := by
  go_enter Tryd.func67, Tryd.ntmps67
  go_wp2
  refine bodyPost_ret (v := .agg #[.int .i64 al, .int .i64 up]) (by simp [results, Tryd.results67, go_sem]) rfl ⟨rfl, ?_⟩
  exact (by repeat (first | exact Below.refl _ _ | assumption | refine bel_al ?_ _ | refine bel_dr ?_ | refine below_drewN ?_ _ | refine bel_then ?_ (by assumption)))

set_option maxHeartbeats 400000 in
theorem eqWindow_c (al : Int) (up : Int) (al' : Int) (up' : Int) (w : World) :
    Calls Tryd.prog 70 #[.agg #[.int .i64 al, .int .i64 up], .agg #[.int .i64 al', .int .i64 up']] w fun en w' => en = .returned (.bool (wnEq (Wn.mk al up) (Wn.mk al' up'))) ∧ Below w.heap.size w w' := by
  go_enter Tryd.func70, Tryd.ntmps70
  go_wp2
  all_goals (go_ret; exact ⟨by simp_all [wnEq], (by repeat (first | exact Below.refl _ _ | assumption | refine bel_al ?_ _ | refine bel_dr ?_ | refine below_drewN ?_ _ | refine bel_then ?_ (by assumption)))⟩)
end Go.Proofs.YtibkadkodblefaaDoor
