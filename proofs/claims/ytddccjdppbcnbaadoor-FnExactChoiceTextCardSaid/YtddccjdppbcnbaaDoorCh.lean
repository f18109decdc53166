/-
  The struct Choice as a value: its copy and its comparison.
-/
import Derived.Test.YtddccjdppbcnbaaDoorNum
import Derived.Test.YtddccjdppbcnbaaDoorMem
import Derived.Test.YtddccjdppbcnbaaDoorPure
import Derived.Test.YtddccjdppbcnbaaDoorStr
namespace Go.Proofs.YtddccjdppbcnbaaDoor
open Go.RowKit

structure Ch where
  cn : ByteArray
  cs : Int
deriving DecidableEq

def Ch.cells (t : Ch) : List Value := [.string t.cn, .int .i64 t.cs]
def chEq (a b : Ch) : Bool := decide (a = b)
theorem Ch.cells_len (t : Ch) : t.cells.length = 2 := rfl
theorem ch_at {w wr : World} {b off : Nat} {l : List Ch} (hc : ∀ j u, (l.flatMap Ch.cells)[j]? = some u → w.cell? ⟨b, off + j, none⟩ = some u) (hb : Below w.heap.size w wr) (hbl : b < w.heap.size)
    {k : Nat} {t : Ch} (hx : l[k]? = some t) :
    wr.cell? ⟨b, off + k * 2, none⟩ = some (.string t.cn) ∧ wr.cell? ⟨b, off + k * 2 + 1, none⟩ = some (.int .i64 t.cs) := by
  have hf := flat_get Ch.cells_len l k t hx
  exact ⟨cell_at hc hb hbl (hf 0 (by omega)), cell_at hc hb hbl (hf 1 (by omega))⟩
theorem ch_at' {w wr : World} {b off : Nat} {l : List Ch} (hc : ∀ j u, (l.flatMap Ch.cells)[j]? = some u → w.cell? ⟨b, off + j, none⟩ = some u) (hb : Below w.heap.size w wr) (hbl : b < w.heap.size)
    {k : Nat} (hk : k < l.length) : ∃ cn cs, l[k]? = some ⟨cn, cs⟩ ∧
    wr.cell? ⟨b, off + k * 2, none⟩ = some (.string cn) ∧ wr.cell? ⟨b, off + k * 2 + 1, none⟩ = some (.int .i64 cs) := by
  have hx : l[k]? = some l[k] := List.getElem?_eq_getElem hk
  exact ⟨_, _, hx, ch_at hc hb hbl hx⟩

set_option maxHeartbeats 400000 in
theorem toChoice_c (cn : ByteArray) (cs : Int) (w : World) :
    Calls Tryd.prog 13 #[.agg #[.string cn, .int .i64 cs]] w fun en w' => en = .returned (.agg #[.string cn, .int .i64 cs]) ∧ Below w.heap.size w w' := by
  go_enter Tryd.func13, Tryd.ntmps13
  go_wp2
  refine bodyPost_ret (v := .agg #[.string cn, .int .i64 cs]) (by simp [results, Tryd.results13, go_sem]) rfl ⟨rfl, ?_⟩
  exact (by repeat (first | exact Below.refl _ _ | assumption | refine bel_al ?_ _ | refine bel_dr ?_ | refine below_drewN ?_ _ | refine bel_then ?_ (by assumption)))

set_option maxHeartbeats 400000 in
theorem eqChoice_c (cn : ByteArray) (cs : Int) (cn' : ByteArray) (cs' : Int) (w : World) :
    Calls Tryd.prog 17 #[.agg #[.string cn, .int .i64 cs], .agg #[.string cn', .int .i64 cs']] w fun en w' => en = .returned (.bool (chEq (Ch.mk cn cs) (Ch.mk cn' cs'))) ∧ Below w.heap.size w w' := by
  go_enter Tryd.func17, Tryd.ntmps17
  go_wp2
  all_goals (go_ret; exact ⟨by simp_all [chEq, bl_iff], (by repeat (first | exact Below.refl _ _ | assumption | refine bel_al ?_ _ | refine bel_dr ?_ | refine below_drewN ?_ _ | refine bel_then ?_ (by assumption)))⟩)
end Go.Proofs.YtddccjdppbcnbaaDoor
