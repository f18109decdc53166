/-
  The walk of the law of BestPlace.
-/
import Derived.Test.YtibkadkodblefaaDoorLadZ
import Derived.Test.YtibkadkodblefaaDoorLaw
import Derived.Test.YtibkadkodblefaaDoorTownV
import Derived.Test.YtibkadkodblefaaDoorIntsC
import Derived.Test.YtibkadkodblefaaDoorWnS
import Derived.Test.YtibkadkodblefaaDoorMarkWn
namespace Go.Proofs.YtibkadkodblefaaDoor
open Go.RowKit

set_option maxRecDepth 100000 in
set_option maxHeartbeats 4000000 in
theorem walk_FnExactBestPlace (w : World) (b0 l0 o0 s0 m0 : Int) (a1 : Int) (v2 : Value) (q2 : List Wn) (hq2 : Rd w v2 q2.length (q2.flatMap Wn.cells)) (v3 : Value) (q3 : List Int) (hq3 : RdI w v3 q3) (ht : SinTab w) :
    Calls Tryd.prog 10 #[ldV b0 l0 o0 s0 m0, .int .i64 a1, v2, v3] w fun en w' => en = .returned (.bool true) ∧ Below w.heap.size w w' := by
  have HT := Lib.hid ht
  clear ht
  have HQ3 := Lib.hid hq3
  obtain ⟨A3, c3, rfl, _⟩ := hq3
  have HQ2 := Lib.hid hq2
  obtain ⟨A2, c2, rfl, _⟩ := hq2
  by_cases hbq3 : (1048576 : Int) < q3.length
  · go_enter Tryd.func10, Tryd.ntmps10
    go_wp2
    go_ret
    exact ⟨rfl, (by repeat (first | exact Below.refl _ _ | assumption | refine bel_al ?_ _ | refine bel_dr ?_ | refine below_drewN ?_ _ | refine bel_then ?_ (by assumption)))⟩
  by_cases hbt2 : (1048576 : Int) < q2.length
  · go_enter Tryd.func10, Tryd.ntmps10
    go_wp2_with (go_at_call 30; refine (szWindowS_big _ q2.length _ _ _ (by omega) (by omega) (rd_below HQ2.out (bel_al (Below.refl _ _) _)) (by omega)).mono ?_; rintro e w' ⟨rfl, rfl⟩)
    go_ret
    exact ⟨rfl, (by repeat (first | exact Below.refl _ _ | assumption | refine bel_al ?_ _ | refine bel_dr ?_ | refine below_drewN ?_ _ | refine bel_then ?_ (by assumption)))⟩
  obtain ⟨r0, hr0'⟩ : ∃ r0, (bestPlaceV b0 l0 o0 s0 m0 a1 q2 q3).1 = r0 := ⟨_, rfl⟩
  obtain ⟨r1, hr1'⟩ : ∃ r1, (bestPlaceV b0 l0 o0 s0 m0 a1 q2 q3).2.1 = r1 := ⟨_, rfl⟩
  obtain ⟨r2, hr2'⟩ : ∃ r2, (bestPlaceV b0 l0 o0 s0 m0 a1 q2 q3).2.2 = r2 := ⟨_, rfl⟩
  have e1 : ∀ (W : World) (e : Ending) (W' : World), (e = .returned (.tuple #[.int .i64 ((bestPlaceV b0 l0 o0 s0 m0 a1 q2 q3).1), .int .i64 ((bestPlaceV b0 l0 o0 s0 m0 a1 q2 q3).2.1), .bool ((bestPlaceV b0 l0 o0 s0 m0 a1 q2 q3).2.2)]) ∧ Below W.heap.size W W') → e = .returned (.tuple #[.int .i64 r0, .int .i64 r1, .bool r2]) ∧ Below W.heap.size W W' := by
    intro W e W' h
    rw [hr0', hr1', hr2'] at h
    exact h
  have E1 := Lib.hid e1
  clear e1 hr0' hr1' hr2'
  have hne0 : (r0 != r0) = false := by simp
  have hne1 : (r1 != r1) = false := by simp
  have hne2 : (r2 != r2) = false := by simp
  go_enter Tryd.func10, Tryd.ntmps10
  go_wp2_with fail
  generalize hw1 : World.alloc w _ = w100
  have t0 : w100.cell? ⟨w.heap.size, 0, none⟩ = some (.int .i64 b0) := by subst hw1; simp [go_sem]
  have t1 : w100.cell? ⟨w.heap.size, 1, none⟩ = some (.int .i64 l0) := by subst hw1; simp [go_sem]
  have t2 : w100.cell? ⟨w.heap.size, 2, none⟩ = some (.int .i64 o0) := by subst hw1; simp [go_sem]
  have t3 : w100.cell? ⟨w.heap.size, 3, none⟩ = some (.int .i64 s0) := by subst hw1; simp [go_sem]
  have t4 : w100.cell? ⟨w.heap.size, 4, none⟩ = some (.int .i64 m0) := by subst hw1; simp [go_sem]
  have HB : Hid (Below w.heap.size w w100) := Lib.hid (by subst hw1; exact bel_al (Below.refl _ _) _)
  have szw100 : w.heap.size < w100.heap.size := by subst hw1; simp
  clear hw1
  go_wp2_with fail
  refine (szWindowS_fits _ q2.length _ _ _ (by omega) (rd_below HQ2.out HB.out) (by omega)).mono ?_; rintro e w101 ⟨rfl, rfl⟩
  go_wp2_with fail
  refine (toLadder_c b0 l0 o0 s0 m0 _).mono ?_; rintro e w102 ⟨rfl, c⟩
  replace t0 := (c.cell (p := ⟨w.heap.size, 0, none⟩) (by show w.heap.size < _; omega)).trans t0
  replace t1 := (c.cell (p := ⟨w.heap.size, 1, none⟩) (by show w.heap.size < _; omega)).trans t1
  replace t2 := (c.cell (p := ⟨w.heap.size, 2, none⟩) (by show w.heap.size < _; omega)).trans t2
  replace t3 := (c.cell (p := ⟨w.heap.size, 3, none⟩) (by show w.heap.size < _; omega)).trans t3
  replace t4 := (c.cell (p := ⟨w.heap.size, 4, none⟩) (by show w.heap.size < _; omega)).trans t4
  replace HB := Lib.hid (bel_then HB.out c)
  have szw102 := c.size
  clear c
  go_wp2_with fail
  refine (toWindowS_c _ q2 _ (by omega) (rd_below HQ2.out HB.out)).mono ?_; rintro e w103 ⟨xa2, rfl, ho, c⟩
  have Ia2 := Lib.hid ho.lt
  replace t0 := (c.cell (p := ⟨w.heap.size, 0, none⟩) (by show w.heap.size < _; omega)).trans t0
  replace t1 := (c.cell (p := ⟨w.heap.size, 1, none⟩) (by show w.heap.size < _; omega)).trans t1
  replace t2 := (c.cell (p := ⟨w.heap.size, 2, none⟩) (by show w.heap.size < _; omega)).trans t2
  replace t3 := (c.cell (p := ⟨w.heap.size, 3, none⟩) (by show w.heap.size < _; omega)).trans t3
  replace t4 := (c.cell (p := ⟨w.heap.size, 4, none⟩) (by show w.heap.size < _; omega)).trans t4
  replace HB := Lib.hid (bel_then HB.out c)
  have szw103 := c.size
  clear c
  have Oa2 := Lib.hid ho
  clear ho
  go_wp2_with fail
  refine (toIntS_c _ q3 _ (by omega) (rdi_below HQ3.out HB.out)).mono ?_; rintro e w104 ⟨xa3, rfl, ho, c⟩
  have Ia3 := Lib.hid ho.lt
  have Oa2 := Lib.hid (own_below Oa2.out c)
  replace t0 := (c.cell (p := ⟨w.heap.size, 0, none⟩) (by show w.heap.size < _; omega)).trans t0
  replace t1 := (c.cell (p := ⟨w.heap.size, 1, none⟩) (by show w.heap.size < _; omega)).trans t1
  replace t2 := (c.cell (p := ⟨w.heap.size, 2, none⟩) (by show w.heap.size < _; omega)).trans t2
  replace t3 := (c.cell (p := ⟨w.heap.size, 3, none⟩) (by show w.heap.size < _; omega)).trans t3
  replace t4 := (c.cell (p := ⟨w.heap.size, 4, none⟩) (by show w.heap.size < _; omega)).trans t4
  replace HB := Lib.hid (bel_then HB.out c)
  have szw104 := c.size
  clear c
  have Oa3 := Lib.hid ho
  clear ho
  go_wp2_with fail
  refine (bestPlaceS_c b0 l0 o0 s0 m0 a1 _ q2 _ q3 _ (own_rd Oa2.out) (rdi_own Oa3.out)).mono ?_; intro e w105 hh; obtain ⟨rfl, c⟩ := E1.out _ _ _ hh; clear hh
  have Oa2 := Lib.hid (own_below Oa2.out c)
  have Oa3 := Lib.hid (own_below Oa3.out c)
  replace t0 := (c.cell (p := ⟨w.heap.size, 0, none⟩) (by show w.heap.size < _; omega)).trans t0
  replace t1 := (c.cell (p := ⟨w.heap.size, 1, none⟩) (by show w.heap.size < _; omega)).trans t1
  replace t2 := (c.cell (p := ⟨w.heap.size, 2, none⟩) (by show w.heap.size < _; omega)).trans t2
  replace t3 := (c.cell (p := ⟨w.heap.size, 3, none⟩) (by show w.heap.size < _; omega)).trans t3
  replace t4 := (c.cell (p := ⟨w.heap.size, 4, none⟩) (by show w.heap.size < _; omega)).trans t4
  replace HB := Lib.hid (bel_then HB.out c)
  have szw105 := c.size
  clear c
  go_wp2_with fail
  clear Oa2
  clear Oa3
  refine (toWindowS_c _ q2 _ (by omega) (rd_below HQ2.out HB.out)).mono ?_; rintro e w106 ⟨xb2, rfl, ho, c⟩
  have Ib2 := Lib.hid ho.lt
  replace t0 := (c.cell (p := ⟨w.heap.size, 0, none⟩) (by show w.heap.size < _; omega)).trans t0
  replace t1 := (c.cell (p := ⟨w.heap.size, 1, none⟩) (by show w.heap.size < _; omega)).trans t1
  replace t2 := (c.cell (p := ⟨w.heap.size, 2, none⟩) (by show w.heap.size < _; omega)).trans t2
  replace t3 := (c.cell (p := ⟨w.heap.size, 3, none⟩) (by show w.heap.size < _; omega)).trans t3
  replace t4 := (c.cell (p := ⟨w.heap.size, 4, none⟩) (by show w.heap.size < _; omega)).trans t4
  replace HB := Lib.hid (bel_then HB.out c)
  have szw106 := c.size
  clear c
  have Ob2 := Lib.hid ho
  clear ho
  obtain ⟨Ab2, cb2, hxb2, _⟩ := own_rd Ob2.out
  subst hxb2
  go_wp2_with fail
  refine (toIntS_c _ q3 _ (by omega) (rdi_below HQ3.out HB.out)).mono ?_; rintro e w107 ⟨xb3, rfl, ho, c⟩
  have Ib3 := Lib.hid ho.lt
  have Ob2 := Lib.hid (own_below Ob2.out c)
  replace t0 := (c.cell (p := ⟨w.heap.size, 0, none⟩) (by show w.heap.size < _; omega)).trans t0
  replace t1 := (c.cell (p := ⟨w.heap.size, 1, none⟩) (by show w.heap.size < _; omega)).trans t1
  replace t2 := (c.cell (p := ⟨w.heap.size, 2, none⟩) (by show w.heap.size < _; omega)).trans t2
  replace t3 := (c.cell (p := ⟨w.heap.size, 3, none⟩) (by show w.heap.size < _; omega)).trans t3
  replace t4 := (c.cell (p := ⟨w.heap.size, 4, none⟩) (by show w.heap.size < _; omega)).trans t4
  replace HB := Lib.hid (bel_then HB.out c)
  have szw107 := c.size
  clear c
  have Ob3 := Lib.hid ho
  clear ho
  obtain ⟨Ab3, cb3, hxb3, _⟩ := own_rd Ob3.out
  subst hxb3
  go_wp2_with fail
  refine (toLadder_c b0 l0 o0 s0 m0 _).mono ?_; rintro e w108 ⟨rfl, c⟩
  have Ob2 := Lib.hid (own_below Ob2.out c)
  have Ob3 := Lib.hid (own_below Ob3.out c)
  replace t0 := (c.cell (p := ⟨w.heap.size, 0, none⟩) (by show w.heap.size < _; omega)).trans t0
  replace t1 := (c.cell (p := ⟨w.heap.size, 1, none⟩) (by show w.heap.size < _; omega)).trans t1
  replace t2 := (c.cell (p := ⟨w.heap.size, 2, none⟩) (by show w.heap.size < _; omega)).trans t2
  replace t3 := (c.cell (p := ⟨w.heap.size, 3, none⟩) (by show w.heap.size < _; omega)).trans t3
  replace t4 := (c.cell (p := ⟨w.heap.size, 4, none⟩) (by show w.heap.size < _; omega)).trans t4
  replace HB := Lib.hid (bel_then HB.out c)
  have szw108 := c.size
  clear c
  go_wp2_with fail
  refine (bestPlaceI_c b0 l0 o0 s0 m0 a1 _ q2 _ q3 _ (own_rd Ob2.out) (rdi_own Ob3.out) (sinTab_below HT.out HB.out)).mono ?_; intro e w109 hh; obtain ⟨rfl, c⟩ := E1.out _ _ _ hh; clear hh
  have Ob2 := Lib.hid (own_below Ob2.out c)
  have Ob3 := Lib.hid (own_below Ob3.out c)
  replace t0 := (c.cell (p := ⟨w.heap.size, 0, none⟩) (by show w.heap.size < _; omega)).trans t0
  replace t1 := (c.cell (p := ⟨w.heap.size, 1, none⟩) (by show w.heap.size < _; omega)).trans t1
  replace t2 := (c.cell (p := ⟨w.heap.size, 2, none⟩) (by show w.heap.size < _; omega)).trans t2
  replace t3 := (c.cell (p := ⟨w.heap.size, 3, none⟩) (by show w.heap.size < _; omega)).trans t3
  replace t4 := (c.cell (p := ⟨w.heap.size, 4, none⟩) (by show w.heap.size < _; omega)).trans t4
  replace HB := Lib.hid (bel_then HB.out c)
  have szw109 := c.size
  clear c
  go_wp2_with fail
  refine (toWindowS_c _ q2 _ (by omega) (rd_below HQ2.out HB.out)).mono ?_; rintro e w110 ⟨xc2, rfl, ho, c⟩
  have Ic2 := Lib.hid ho.lt
  have Ob2 := Lib.hid (own_below Ob2.out c)
  have Ob3 := Lib.hid (own_below Ob3.out c)
  replace t0 := (c.cell (p := ⟨w.heap.size, 0, none⟩) (by show w.heap.size < _; omega)).trans t0
  replace t1 := (c.cell (p := ⟨w.heap.size, 1, none⟩) (by show w.heap.size < _; omega)).trans t1
  replace t2 := (c.cell (p := ⟨w.heap.size, 2, none⟩) (by show w.heap.size < _; omega)).trans t2
  replace t3 := (c.cell (p := ⟨w.heap.size, 3, none⟩) (by show w.heap.size < _; omega)).trans t3
  replace t4 := (c.cell (p := ⟨w.heap.size, 4, none⟩) (by show w.heap.size < _; omega)).trans t4
  replace HB := Lib.hid (bel_then HB.out c)
  have szw110 := c.size
  clear c
  have Oc2 := Lib.hid ho
  clear ho
  go_wp2_with fail
  refine (eqWindowS_c _ _ q2 q2 _ (own_rd Ob2.out) (own_rd Oc2.out)).mono ?_; rintro e w111 ⟨rfl, c⟩
  have Ob2 := Lib.hid (own_below Ob2.out c)
  have Ob3 := Lib.hid (own_below Ob3.out c)
  have Oc2 := Lib.hid (own_below Oc2.out c)
  replace t0 := (c.cell (p := ⟨w.heap.size, 0, none⟩) (by show w.heap.size < _; omega)).trans t0
  replace t1 := (c.cell (p := ⟨w.heap.size, 1, none⟩) (by show w.heap.size < _; omega)).trans t1
  replace t2 := (c.cell (p := ⟨w.heap.size, 2, none⟩) (by show w.heap.size < _; omega)).trans t2
  replace t3 := (c.cell (p := ⟨w.heap.size, 3, none⟩) (by show w.heap.size < _; omega)).trans t3
  replace t4 := (c.cell (p := ⟨w.heap.size, 4, none⟩) (by show w.heap.size < _; omega)).trans t4
  replace HB := Lib.hid (bel_then HB.out c)
  have szw111 := c.size
  clear c
  rw [decide_eq_true (rfl : q2 = q2)]
  go_wp2_with fail
  clear Oc2
  refine (toIntS_c _ q3 _ (by omega) (rdi_below HQ3.out HB.out)).mono ?_; rintro e w112 ⟨xc3, rfl, ho, c⟩
  have Ic3 := Lib.hid ho.lt
  have Ob2 := Lib.hid (own_below Ob2.out c)
  have Ob3 := Lib.hid (own_below Ob3.out c)
  replace t0 := (c.cell (p := ⟨w.heap.size, 0, none⟩) (by show w.heap.size < _; omega)).trans t0
  replace t1 := (c.cell (p := ⟨w.heap.size, 1, none⟩) (by show w.heap.size < _; omega)).trans t1
  replace t2 := (c.cell (p := ⟨w.heap.size, 2, none⟩) (by show w.heap.size < _; omega)).trans t2
  replace t3 := (c.cell (p := ⟨w.heap.size, 3, none⟩) (by show w.heap.size < _; omega)).trans t3
  replace t4 := (c.cell (p := ⟨w.heap.size, 4, none⟩) (by show w.heap.size < _; omega)).trans t4
  replace HB := Lib.hid (bel_then HB.out c)
  have szw112 := c.size
  clear c
  have Oc3 := Lib.hid ho
  clear ho
  go_wp2_with fail
  refine (eqIntS_c _ _ q3 q3 _ (rdi_own Ob3.out) (rdi_own Oc3.out)).mono ?_; rintro e w113 ⟨rfl, c⟩
  have Ob2 := Lib.hid (own_below Ob2.out c)
  have Ob3 := Lib.hid (own_below Ob3.out c)
  have Oc3 := Lib.hid (own_below Oc3.out c)
  replace t0 := (c.cell (p := ⟨w.heap.size, 0, none⟩) (by show w.heap.size < _; omega)).trans t0
  replace t1 := (c.cell (p := ⟨w.heap.size, 1, none⟩) (by show w.heap.size < _; omega)).trans t1
  replace t2 := (c.cell (p := ⟨w.heap.size, 2, none⟩) (by show w.heap.size < _; omega)).trans t2
  replace t3 := (c.cell (p := ⟨w.heap.size, 3, none⟩) (by show w.heap.size < _; omega)).trans t3
  replace t4 := (c.cell (p := ⟨w.heap.size, 4, none⟩) (by show w.heap.size < _; omega)).trans t4
  replace HB := Lib.hid (bel_then HB.out c)
  have szw113 := c.size
  clear c
  go_wp2_with fail
  clear Oc3
  go_wp2
  go_ret
  exact ⟨rfl, HB.out⟩
end Go.Proofs.YtibkadkodblefaaDoor
