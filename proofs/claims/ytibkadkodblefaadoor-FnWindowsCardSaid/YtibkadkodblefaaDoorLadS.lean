/-
  Ladders: the table of sines on both sides.
-/
import Derived.Test.YtibkadkodblefaaDoorSinW
import Derived.Test.YtibkadkodblefaaDoorOwn
import Derived.Test.YtibkadkodblefaaDoorSort0
namespace Go.Proofs.YtibkadkodblefaaDoor
open Go.RowKit

theorem run_f2i {x : Nat} {n : Int} (h : floatToIntVal .f64 x .i64 = some n) (W : World) : (convert 101 3 (.float .f64 x)).run Tryd.prog W = .ok (.int .i64 n) W := run_convert_float_int W _ _ .f64 .i64 _ _ (by rw [Tryd.underlying101]; rfl) Tryd.underlying3 h
theorem run_i2f (n : Int) (W : World) : (convert 3 101 (.int .i64 n)).run Tryd.prog W = .ok (.float .f64 (floatOfInt .f64 n)) W := run_convert_int_float W _ _ .i64 .f64 n (by rw [Tryd.underlying3]; rfl) Tryd.underlying101
set_option maxRecDepth 100000 in
set_option maxHeartbeats 1000000 in
theorem sines_c (w : World) (ht : SinTab w) : Calls Tryd.prog 52 #[] w (OwnI sinL w) := by
  have HT := Lib.hid ht
  clear ht
  obtain ⟨i0, hi, hz0, hz1, hz2⟩ := info_parts Tryd.infoInt
  go_enter Tryd.func52, Tryd.ntmps52
  go_wp2_with fail
  go_loopw [1, 3] (fun v1 v3 wr => ∃ k : Nat, k ≤ 91 ∧ v3 = .int .i64 k ∧ Hid (wr.ownsRow w.heap.size 3 1 v1 k (ints (sinL.take k))) ∧ Hid (Below w.heap.size w wr)) (fun _ v3 _ => 91 - (intOf v3).toNat)
  case atStart => exact ⟨0, Nat.zero_le _, rfl, Lib.hid (show w.ownsRow w.heap.size 3 1 (.slice none 0 0) 0 [] from World.ownsRow_nil _ _ _ _), Lib.hid (Below.refl _ _)⟩
  case round =>
    obtain ⟨k, hk, rfl, HO, HB⟩ := hrel
    obtain ⟨wA, rfl⟩ : ∃ wA : World, wA = wr := ⟨_, rfl⟩
    have hsA := HB.out.size
    by_cases hlt : k < 91
    · obtain ⟨h1, h2, h3, h4⟩ := deg_all k hlt
      have f1 := run_fmul h1
      have f2 := run_fquo h2
      have f3 := run_fmul h3
      have f4 := run_f2i (x := rndV (degM k)) h4
      have f0 := run_i2f (k : Int)
      have HS : Hid (ints (sinL.take (k + 1)) = ints (sinL.take k) ++ [.int .i64 (sn k)]) := Lib.hid (by rw [take_succ_of (sn_get (by omega)), ints_append]; rfl)
      have hL : (ints (sinL.take k)).length = k := by rw [ints_len, List.length_take]; exact Nat.min_eq_left (by show k ≤ 91; omega)
      clear h1 h2 h3 h4
      go_wp2_with fail
      refine (mathSin_c k hlt _ (sinTab_below HT.out HB.out)).mono ?_; rintro e w1 ⟨rfl, hb1⟩
      have HB1 := Lib.hid (bel_then HB.out hb1)
      have HO1 := Lib.hid (own_below HO.out hb1)
      have hs1 := hb1.size
      clear hb1
      go_wp2_with (first | (go_at_call 87; refine (round_c _ _).mono ?_; rintro e w' ⟨rfl, rfl⟩) | (at_builtin; refine wpList_app_rd _ rfl _ _ 22 rfl w.heap.size 3 i0 (.int .i64 0) 1 8 Tryd.underlying22 hi hz0 hz1 hz2 rfl (by decide) _ _ _ rfl (HO1.out.alloc _) _ 1 [.int .i64 (sn k)] rfl (rd_new _ rfl (Nat.le_refl _) (by rw [maxLen_eq]; omega)) rfl (ints_one [sn k]) (by rw [maxLen_eq]; omega) (by omega) (by simp; omega) ?_; intro v7 w7 hown7 hgrow7 he7))
      have HO7 : Hid (w7.ownsRow w.heap.size 3 1 v7 (k + 1) (ints (sinL.take (k + 1)))) := Lib.hid (by rw [HS.out]; exact hown7)
      refine ⟨⟨k + 1, by omega, by go_num, HO7, Lib.hid (bel_grown (bel_al HB1.out _) hgrow7 (fun q e => (HO1.out.lt q e).1))⟩, by simp [intOf]; omega⟩
    · obtain rfl : k = 91 := by omega
      go_wp2
      go_ret
      exact ⟨_, rfl, by simpa [sinL] using HO.out, HB.out⟩
set_option maxRecDepth 100000 in
set_option maxHeartbeats 4000000 in
theorem laSines_c (w : World) : Calls Tryd.prog 51 #[] w (OwnI sinL w) := by
  go_enter Tryd.func51, Tryd.ntmps51
  go_wp2_with fail
  go_ret
  refine ⟨_, rfl, ?_, bel_al (Below.refl _ _) _⟩
  exact World.ownsRow_lit (size := 1) w (ints sinL).toArray 91 (Nat.le_refl _) (by rw [maxLen_eq]; omega) (by rfl)
set_option maxHeartbeats 1000000 in
theorem sineTableS_c (w : World) : Calls Tryd.prog 14 #[] w (OwnI sinL w) := by
  go_enter Tryd.func14, Tryd.ntmps14
  go_wp2_with fail
  refine (laSines_c _).mono ?_; rintro e w' ⟨v, rfl, ho, hb⟩
  go_wp2
  go_ret
  exact ⟨v, rfl, ho, hb⟩
set_option maxHeartbeats 1000000 in
theorem sineTableI_c (w : World) (ht : SinTab w) : Calls Tryd.prog 15 #[] w (OwnI sinL w) := by
  have HT := Lib.hid ht
  clear ht
  go_enter Tryd.func15, Tryd.ntmps15
  go_wp2_with fail
  refine (sines_c _ HT.out).mono ?_; rintro e w' ⟨v, rfl, ho, hb⟩
  go_wp2
  go_ret
  exact ⟨v, rfl, ho, hb⟩
end Go.Proofs.YtibkadkodblefaaDoor
