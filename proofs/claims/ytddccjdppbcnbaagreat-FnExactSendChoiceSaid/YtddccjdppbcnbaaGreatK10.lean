/-
  The struct Street as a value: its copy and its comparison. The numbers below k that a test lets pass. (joined by pack.py: St Sel)
-/
import Derived.Test.YtddccjdppbcnbaaGreatK0
import Derived.Test.YtddccjdppbcnbaaGreatK1
import Derived.Test.YtddccjdppbcnbaaGreatK2
namespace Go.Proofs.YtddccjdppbcnbaaGreat
set_option linter.unusedVariables false
set_option linter.unusedSimpArgs false
open Go.RowKit

structure St where
  f : Int
  t : Int
  s : Int
deriving DecidableEq

def St.cells (t : St) : List Value := [.int .i64 t.f, .int .i64 t.t, .int .i64 t.s]
def stEq (a b : St) : Bool := decide (a = b)
theorem St.cells_len (t : St) : t.cells.length = 3 := rfl
theorem st_at {w wr : World} {b off : Nat} {l : List St} (hc : ∀ j u, (l.flatMap St.cells)[j]? = some u → w.cell? ⟨b, off + j, none⟩ = some u) (hb : Below w.heap.size w wr) (hbl : b < w.heap.size)
    {k : Nat} {t : St} (hx : l[k]? = some t) :
    wr.cell? ⟨b, off + k * 3, none⟩ = some (.int .i64 t.f) ∧ wr.cell? ⟨b, off + k * 3 + 1, none⟩ = some (.int .i64 t.t) ∧ wr.cell? ⟨b, off + k * 3 + 2, none⟩ = some (.int .i64 t.s) := by
  have hf := flat_get St.cells_len l k t hx
  exact ⟨cell_at hc hb hbl (hf 0 (by omega)), cell_at hc hb hbl (hf 1 (by omega)), cell_at hc hb hbl (hf 2 (by omega))⟩
theorem st_at' {w wr : World} {b off : Nat} {l : List St} (hc : ∀ j u, (l.flatMap St.cells)[j]? = some u → w.cell? ⟨b, off + j, none⟩ = some u) (hb : Below w.heap.size w wr) (hbl : b < w.heap.size)
    {k : Nat} (hk : k < l.length) : ∃ f t s, l[k]? = some ⟨f, t, s⟩ ∧
    wr.cell? ⟨b, off + k * 3, none⟩ = some (.int .i64 f) ∧ wr.cell? ⟨b, off + k * 3 + 1, none⟩ = some (.int .i64 t) ∧ wr.cell? ⟨b, off + k * 3 + 2, none⟩ = some (.int .i64 s) := by
  have hx : l[k]? = some l[k] := List.getElem?_eq_getElem hk
  exact ⟨_, _, _, hx, st_at hc hb hbl hx⟩

set_option maxHeartbeats 400000 in
theorem toStreet_c (f : Int) (t : Int) (s : Int) (w : World) :
    Calls Tryz.prog 44 #[.agg #[.int .i64 f, .int .i64 t, .int .i64 s]] w fun en w' => en = .returned (.agg #[.int .i64 f, .int .i64 t, .int .i64 s]) ∧ Below w.heap.size w w' := by
  go_enter Tryz.func44, Tryz.ntmps44
  go_wp2
  refine bodyPost_ret (v := .agg #[.int .i64 f, .int .i64 t, .int .i64 s]) (by simp [results, Tryz.results44, go_sem]) rfl ⟨rfl, ?_⟩
  exact (by repeat (first | exact Below.refl _ _ | assumption | refine bel_al ?_ _ | refine bel_dr ?_ | refine below_drewN ?_ _ | refine bel_then ?_ (by assumption)))

set_option maxHeartbeats 400000 in
theorem eqStreet_c (f : Int) (t : Int) (s : Int) (f' : Int) (t' : Int) (s' : Int) (w : World) :
    Calls Tryz.prog 55 #[.agg #[.int .i64 f, .int .i64 t, .int .i64 s], .agg #[.int .i64 f', .int .i64 t', .int .i64 s']] w fun en w' => en = .returned (.bool (stEq (St.mk f t s) (St.mk f' t' s'))) ∧ Below w.heap.size w w' := by
  go_enter Tryz.func55, Tryz.ntmps55
  go_wp2
  all_goals (go_ret; exact ⟨by simp_all [stEq], (by repeat (first | exact Below.refl _ _ | assumption | refine bel_al ?_ _ | refine bel_dr ?_ | refine below_drewN ?_ _ | refine bel_then ?_ (by assumption)))⟩)
end Go.Proofs.YtddccjdppbcnbaaGreat

namespace Go.Proofs.YtddccjdppbcnbaaGreat
set_option linter.unusedVariables false
set_option linter.unusedSimpArgs false
open Go.RowKit

def selD (p : Nat → Bool) (k : Nat) : List Int := ((List.range k).filter p).map fun (i : Nat) => (i : Int)
theorem selD_yes {p : Nat → Bool} {k : Nat} (h : p k = true) : selD p (k + 1) = selD p k ++ [(k : Int)] := by
  unfold selD; rw [List.range_succ, List.filter_append, List.map_append]; simp [h]
theorem selD_no {p : Nat → Bool} {k : Nat} (h : p k = false) : selD p (k + 1) = selD p k := by
  unfold selD; rw [List.range_succ, List.filter_append, List.map_append]; simp [h]
theorem selD_len (p : Nat → Bool) (k : Nat) : (selD p k).length ≤ k := by
  unfold selD; rw [List.length_map]; exact Nat.le_trans (List.length_filter_le _ _) (by simp)
theorem selD_mem {p : Nat → Bool} {k : Nat} {x : Int} (h : x ∈ selD p k) : ∃ i : Nat, x = (i : Int) ∧ i < k ∧ p i = true := by
  unfold selD at h
  obtain ⟨i, hi, rfl⟩ := List.mem_map.1 h
  rw [List.mem_filter, List.mem_range] at hi
  exact ⟨i, rfl, hi.1, hi.2⟩
end Go.Proofs.YtddccjdppbcnbaaGreat
