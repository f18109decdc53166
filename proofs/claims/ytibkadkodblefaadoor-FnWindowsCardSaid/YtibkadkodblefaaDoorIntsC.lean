/-
  toIntS: a copy of a slice of ints.
-/
import Derived.Test.YtibkadkodblefaaDoorInts
import Derived.Test.YtibkadkodblefaaDoorOwn
namespace Go.Proofs.YtibkadkodblefaaDoor
open Go.RowKit

def one (x : Int) : List Value := [.int .i64 x]
theorem one_len (x : Int) : (one x).length = 1 := rfl
theorem flat_one (l : List Int) : l.flatMap one = ints l := by
  induction l with
  | nil => rfl
  | cons x l ih => rw [List.flatMap_cons, ih]; rfl
def zone : List Value := [.int .i64 0]
set_option maxRecDepth 100000 in
set_option maxHeartbeats 400000 in
theorem toIntS_c (v : Value) (l : List Int) (w : World) (hl : l.length ≤ 1048576) (hr : RdI w v l) :
    Calls Tryd.prog 37 #[v] w (OwnI l w) := by
  obtain ⟨A, c, rfl, hc, hm, hr⟩ := hr
  rw [maxLen_eq] at hm
  obtain ⟨i0, hi, hz0, hz1, hz2⟩ := info_parts Tryd.infoInt
  go_enter Tryd.func37, Tryd.ntmps37
  go_wp2_with (at_make; refine wpList_make_full _ rfl _ _ 22 rfl w.heap.size 3 i0 _ 1 Tryd.underlying22 hi hz0 hz1 _ _ _ _ l.length rfl rfl rfl rfl (by rw [hz2]; omega) (by rw [maxLen_eq]; omega) (Nat.le_refl _) ?_; intro w1 hown1 hg1)
  have hb1 : Below w.heap.size w w1 := (Below.refl _ _).grown hg1 (Nat.le_refl _) (fun k h => by cases h)
  clear hg1
  go_loopw [4] (fun i wr => ∃ k : Nat, k ≤ l.length ∧ i = .int .i64 k ∧ wr.ownsRow w.heap.size 3 1 (.slice (some ⟨w.heap.size, 0, none⟩) l.length l.length) l.length (part one zone l k) ∧ Below w.heap.size w wr) (fun i _ => l.length - (intOf i).toNat)
  case atStart => exact ⟨0, Nat.zero_le _, rfl, by rw [part_zero, show zone = (#[.int .i64 0] : Array Value).toList from rfl, ← made_eq (sz := 1) rfl (by omega)]; exact hown1, hb1⟩
  case round =>
    obtain ⟨k, hk, rfl, hown, hb⟩ := hrel
    by_cases hlt : k < l.length
    · obtain ⟨b, off, rfl, hbl, hcell⟩ := hr (by omega)
      have hx : l[k]? = some l[k] := by simp [hlt]
      generalize l[k] = t at hx
      have c0 := cell_at hcell hb hbl (ints_get hx)
      have HX := Lib.hid hx
      clear hx hown1 hb1
      have hg : (part one zone l k)[k]? = zone[0]? := by have := part_get (sz := 1) one_len rfl hlt (j := 0) (zs := zone) (by omega); simpa using this
      have d0 : wr.cell? ⟨w.heap.size, k, none⟩ = some (.int .i64 0) := (hown.cellAt k (by omega)).trans hg
      have f0 := hown.frozenAt k
      have HO := Lib.hid hown
      clear hown
      go_wp2
      refine ⟨⟨k + 1, by omega, by go_num, ?_, bel_put (Nat.le_refl _) (one t) wr k hb⟩, by simp [intOf]; omega⟩
      have hp := own_put (one t) wr _ k HO.out
      have e := part_put (sz := 1) (zs := zone) one_len rfl HX.out
      rw [Nat.mul_one] at e
      rw [e] at hp
      exact hp
    · go_wp2
      go_ret
      obtain rfl : k = l.length := by omega
      refine ⟨_, rfl, ?_, hb⟩
      rw [part_full, flat_one] at hown; exact hown
end Go.Proofs.YtibkadkodblefaaDoor
