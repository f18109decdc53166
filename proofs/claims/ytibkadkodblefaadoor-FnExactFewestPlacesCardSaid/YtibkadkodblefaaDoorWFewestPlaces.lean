/-
  The walk of the law of FewestPlaces.
-/
import Derived.Test.YtibkadkodblefaaDoorLadFw
import Derived.Test.YtibkadkodblefaaDoorLaw
import Derived.Test.YtibkadkodblefaaDoorTownV
import Derived.Test.YtibkadkodblefaaDoorIntsC
import Derived.Test.YtibkadkodblefaaDoorWnS
import Derived.Test.YtibkadkodblefaaDoorMarkWn
namespace Go.Proofs.YtibkadkodblefaaDoor
open Go.RowKit

set_option maxRecDepth 100000 in
set_option maxHeartbeats 4000000 in
theorem walk_FnExactFewestPlaces (w : World) (b0 l0 o0 s0 m0 : Int) (a1 : Int) (v2 : Value) (q2 : List Wn) (hq2 : Rd w v2 q2.length (q2.flatMap Wn.cells)) (ht : SinTab w) :
    Calls Tryd.prog 12 #[ldV b0 l0 o0 s0 m0, .int .i64 a1, v2] w fun en w' => en = .returned (.bool true) ∧ Below w.heap.size w w' := by
  have HT := Lib.hid ht
  clear ht
  have HQ2 := Lib.hid hq2
  obtain ⟨A2, c2, rfl, _⟩ := hq2
  by_cases hbt2 : (1048576 : Int) < q2.length
  · go_enter Tryd.func12, Tryd.ntmps12
    go_wp2_with (go_at_call 30; refine (szWindowS_big _ q2.length _ _ _ (by omega) (by omega) (rd_below HQ2.out (bel_al (Below.refl _ _) _)) (by omega)).mono ?_; rintro e w' ⟨rfl, rfl⟩)
    go_ret
    exact ⟨rfl, (by repeat (first | exact Below.refl _ _ | assumption | refine bel_al ?_ _ | refine bel_dr ?_ | refine below_drewN ?_ _ | refine bel_then ?_ (by assumption)))⟩
  have hgl := fewestPlacesV_len b0 l0 o0 s0 m0 a1 q2
  obtain ⟨r1, hr1⟩ : ∃ r1, (fewestPlacesV b0 l0 o0 s0 m0 a1 q2).1 = r1 := ⟨_, rfl⟩
  obtain ⟨r2, hr2⟩ : ∃ r2, (fewestPlacesV b0 l0 o0 s0 m0 a1 q2).2 = r2 := ⟨_, rfl⟩
  rw [hr1] at hgl
  have e1 : ∀ (W : World) (e : Ending) (W' : World), OwnIB (fewestPlacesV b0 l0 o0 s0 m0 a1 q2) W e W' → ∃ x, e = .returned (.tuple #[x, .bool r2]) ∧ W'.ownsRow W.heap.size 3 1 x r1.length (ints r1) ∧ Below W.heap.size W W' := by
    rintro W e W' ⟨x, h1, h2, h3⟩
    rw [hr1] at h2
    rw [hr2] at h1
    exact ⟨x, h1, h2, h3⟩
  have E1 := Lib.hid e1
  clear e1 hr1 hr2
  go_enter Tryd.func12, Tryd.ntmps12
  go_wp2_with fail
  generalize hw1 : World.alloc w _ = w100
  have t0 : w100.cell? ⟨w.heap.size, 0, none⟩ = some (.int .i64 b0) := by subst hw1; simp [go_sem]
  have t1 : w100.cell? ⟨w.heap.size, 1, none⟩ = some (.int .i64 l0) := by subst hw1; simp [go_sem]
  have t2 : w100.cell? ⟨w.heap.size, 2, none⟩ = some (.int .i64 o0) := by subst hw1; simp [go_sem]
  have t3 : w100.cell? ⟨w.heap.size, 3, none⟩ = some (.int .i64 s0) := by subst hw1; simp [go_sem]
  have t4 : w100.cell? ⟨w.heap.size, 4, none⟩ = some (.int .i64 m0) := by subst hw1; simp [go_sem]
  have HB : Hid (Below w.heap.size w w100) := Lib.hid (by subst hw1; exact bel_al (Below.refl _ _) _)
  have szw100 : w.heap.size < w100.heap.size := by subst hw1; simp
  clear hw1
  go_wp2_with fail
  refine (szWindowS_fits _ q2.length _ _ _ (by omega) (rd_below HQ2.out HB.out) (by omega)).mono ?_; rintro e w101 ⟨rfl, rfl⟩
  go_wp2_with fail
  refine (toLadder_c b0 l0 o0 s0 m0 _).mono ?_; rintro e w102 ⟨rfl, c⟩
  replace t0 := (c.cell (p := ⟨w.heap.size, 0, none⟩) (by show w.heap.size < _; omega)).trans t0
  replace t1 := (c.cell (p := ⟨w.heap.size, 1, none⟩) (by show w.heap.size < _; omega)).trans t1
  replace t2 := (c.cell (p := ⟨w.heap.size, 2, none⟩) (by show w.heap.size < _; omega)).trans t2
  replace t3 := (c.cell (p := ⟨w.heap.size, 3, none⟩) (by show w.heap.size < _; omega)).trans t3
  replace t4 := (c.cell (p := ⟨w.heap.size, 4, none⟩) (by show w.heap.size < _; omega)).trans t4
  replace HB := Lib.hid (bel_then HB.out c)
  have szw102 := c.size
  clear c
  go_wp2_with fail
  refine (toWindowS_c _ q2 _ (by omega) (rd_below HQ2.out HB.out)).mono ?_; rintro e w103 ⟨xa2, rfl, ho, c⟩
  have Ia2 := Lib.hid ho.lt
  replace t0 := (c.cell (p := ⟨w.heap.size, 0, none⟩) (by show w.heap.size < _; omega)).trans t0
  replace t1 := (c.cell (p := ⟨w.heap.size, 1, none⟩) (by show w.heap.size < _; omega)).trans t1
  replace t2 := (c.cell (p := ⟨w.heap.size, 2, none⟩) (by show w.heap.size < _; omega)).trans t2
  replace t3 := (c.cell (p := ⟨w.heap.size, 3, none⟩) (by show w.heap.size < _; omega)).trans t3
  replace t4 := (c.cell (p := ⟨w.heap.size, 4, none⟩) (by show w.heap.size < _; omega)).trans t4
  replace HB := Lib.hid (bel_then HB.out c)
  have szw103 := c.size
  clear c
  have Oa2 := Lib.hid ho
  clear ho
  go_wp2_with fail
  refine (fewestPlacesS_c b0 l0 o0 s0 m0 a1 _ q2 _ (own_rd Oa2.out)).mono ?_; intro e w104 hh; obtain ⟨xw0, rfl, ho, c⟩ := E1.out _ _ _ hh; clear hh
  have Iw0 := Lib.hid ho.lt
  have Oa2 := Lib.hid (own_below Oa2.out c)
  replace t0 := (c.cell (p := ⟨w.heap.size, 0, none⟩) (by show w.heap.size < _; omega)).trans t0
  replace t1 := (c.cell (p := ⟨w.heap.size, 1, none⟩) (by show w.heap.size < _; omega)).trans t1
  replace t2 := (c.cell (p := ⟨w.heap.size, 2, none⟩) (by show w.heap.size < _; omega)).trans t2
  replace t3 := (c.cell (p := ⟨w.heap.size, 3, none⟩) (by show w.heap.size < _; omega)).trans t3
  replace t4 := (c.cell (p := ⟨w.heap.size, 4, none⟩) (by show w.heap.size < _; omega)).trans t4
  replace HB := Lib.hid (bel_then HB.out c)
  have szw104 := c.size
  clear c
  have Ow0 := Lib.hid ho
  clear ho
  go_wp2_with fail
  clear Oa2
  refine (toWindowS_c _ q2 _ (by omega) (rd_below HQ2.out HB.out)).mono ?_; rintro e w105 ⟨xb2, rfl, ho, c⟩
  have Ib2 := Lib.hid ho.lt
  have Ow0 := Lib.hid (own_below Ow0.out c)
  replace t0 := (c.cell (p := ⟨w.heap.size, 0, none⟩) (by show w.heap.size < _; omega)).trans t0
  replace t1 := (c.cell (p := ⟨w.heap.size, 1, none⟩) (by show w.heap.size < _; omega)).trans t1
  replace t2 := (c.cell (p := ⟨w.heap.size, 2, none⟩) (by show w.heap.size < _; omega)).trans t2
  replace t3 := (c.cell (p := ⟨w.heap.size, 3, none⟩) (by show w.heap.size < _; omega)).trans t3
  replace t4 := (c.cell (p := ⟨w.heap.size, 4, none⟩) (by show w.heap.size < _; omega)).trans t4
  replace HB := Lib.hid (bel_then HB.out c)
  have szw105 := c.size
  clear c
  have Ob2 := Lib.hid ho
  clear ho
  obtain ⟨Ab2, cb2, hxb2, _⟩ := own_rd Ob2.out
  subst hxb2
  go_wp2_with fail
  refine (toLadder_c b0 l0 o0 s0 m0 _).mono ?_; rintro e w106 ⟨rfl, c⟩
  have Ow0 := Lib.hid (own_below Ow0.out c)
  have Ob2 := Lib.hid (own_below Ob2.out c)
  replace t0 := (c.cell (p := ⟨w.heap.size, 0, none⟩) (by show w.heap.size < _; omega)).trans t0
  replace t1 := (c.cell (p := ⟨w.heap.size, 1, none⟩) (by show w.heap.size < _; omega)).trans t1
  replace t2 := (c.cell (p := ⟨w.heap.size, 2, none⟩) (by show w.heap.size < _; omega)).trans t2
  replace t3 := (c.cell (p := ⟨w.heap.size, 3, none⟩) (by show w.heap.size < _; omega)).trans t3
  replace t4 := (c.cell (p := ⟨w.heap.size, 4, none⟩) (by show w.heap.size < _; omega)).trans t4
  replace HB := Lib.hid (bel_then HB.out c)
  have szw106 := c.size
  clear c
  go_wp2_with fail
  refine (fewestPlacesI_c b0 l0 o0 s0 m0 a1 _ q2 _ (own_rd Ob2.out) (sinTab_below HT.out HB.out)).mono ?_; intro e w107 hh; obtain ⟨xg0, rfl, ho, c⟩ := E1.out _ _ _ hh; clear hh
  have Ig0 := Lib.hid ho.lt
  have Ow0 := Lib.hid (own_below Ow0.out c)
  have Ob2 := Lib.hid (own_below Ob2.out c)
  replace t0 := (c.cell (p := ⟨w.heap.size, 0, none⟩) (by show w.heap.size < _; omega)).trans t0
  replace t1 := (c.cell (p := ⟨w.heap.size, 1, none⟩) (by show w.heap.size < _; omega)).trans t1
  replace t2 := (c.cell (p := ⟨w.heap.size, 2, none⟩) (by show w.heap.size < _; omega)).trans t2
  replace t3 := (c.cell (p := ⟨w.heap.size, 3, none⟩) (by show w.heap.size < _; omega)).trans t3
  replace t4 := (c.cell (p := ⟨w.heap.size, 4, none⟩) (by show w.heap.size < _; omega)).trans t4
  replace HB := Lib.hid (bel_then HB.out c)
  have szw107 := c.size
  clear c
  have Og0 := Lib.hid ho
  clear ho
  go_wp2_with fail
  refine (eqIntS_c _ _ r1 r1 _ (rdi_own Og0.out) (rdi_own Ow0.out)).mono ?_; rintro e w108 ⟨rfl, c⟩
  have Ow0 := Lib.hid (own_below Ow0.out c)
  have Ob2 := Lib.hid (own_below Ob2.out c)
  have Og0 := Lib.hid (own_below Og0.out c)
  replace t0 := (c.cell (p := ⟨w.heap.size, 0, none⟩) (by show w.heap.size < _; omega)).trans t0
  replace t1 := (c.cell (p := ⟨w.heap.size, 1, none⟩) (by show w.heap.size < _; omega)).trans t1
  replace t2 := (c.cell (p := ⟨w.heap.size, 2, none⟩) (by show w.heap.size < _; omega)).trans t2
  replace t3 := (c.cell (p := ⟨w.heap.size, 3, none⟩) (by show w.heap.size < _; omega)).trans t3
  replace t4 := (c.cell (p := ⟨w.heap.size, 4, none⟩) (by show w.heap.size < _; omega)).trans t4
  replace HB := Lib.hid (bel_then HB.out c)
  have szw108 := c.size
  clear c
  go_wp2_with fail
  refine (toWindowS_c _ q2 _ (by omega) (rd_below HQ2.out HB.out)).mono ?_; rintro e w109 ⟨xc2, rfl, ho, c⟩
  have Ic2 := Lib.hid ho.lt
  have Ow0 := Lib.hid (own_below Ow0.out c)
  have Ob2 := Lib.hid (own_below Ob2.out c)
  have Og0 := Lib.hid (own_below Og0.out c)
  replace t0 := (c.cell (p := ⟨w.heap.size, 0, none⟩) (by show w.heap.size < _; omega)).trans t0
  replace t1 := (c.cell (p := ⟨w.heap.size, 1, none⟩) (by show w.heap.size < _; omega)).trans t1
  replace t2 := (c.cell (p := ⟨w.heap.size, 2, none⟩) (by show w.heap.size < _; omega)).trans t2
  replace t3 := (c.cell (p := ⟨w.heap.size, 3, none⟩) (by show w.heap.size < _; omega)).trans t3
  replace t4 := (c.cell (p := ⟨w.heap.size, 4, none⟩) (by show w.heap.size < _; omega)).trans t4
  replace HB := Lib.hid (bel_then HB.out c)
  have szw109 := c.size
  clear c
  have Oc2 := Lib.hid ho
  clear ho
  go_wp2_with fail
  refine (eqWindowS_c _ _ q2 q2 _ (own_rd Ob2.out) (own_rd Oc2.out)).mono ?_; rintro e w110 ⟨rfl, c⟩
  have Ow0 := Lib.hid (own_below Ow0.out c)
  have Ob2 := Lib.hid (own_below Ob2.out c)
  have Og0 := Lib.hid (own_below Og0.out c)
  have Oc2 := Lib.hid (own_below Oc2.out c)
  replace t0 := (c.cell (p := ⟨w.heap.size, 0, none⟩) (by show w.heap.size < _; omega)).trans t0
  replace t1 := (c.cell (p := ⟨w.heap.size, 1, none⟩) (by show w.heap.size < _; omega)).trans t1
  replace t2 := (c.cell (p := ⟨w.heap.size, 2, none⟩) (by show w.heap.size < _; omega)).trans t2
  replace t3 := (c.cell (p := ⟨w.heap.size, 3, none⟩) (by show w.heap.size < _; omega)).trans t3
  replace t4 := (c.cell (p := ⟨w.heap.size, 4, none⟩) (by show w.heap.size < _; omega)).trans t4
  replace HB := Lib.hid (bel_then HB.out c)
  have szw110 := c.size
  clear c
  rw [decide_eq_true (rfl : q2 = q2)]
  go_wp2_with fail
  clear Oc2
  refine (markWindowS_c _ _ _ _ q2.length _ Ob2.out (by omega) (by omega) (by omega)).mono ?_; rintro e w111 ⟨rfl, gr⟩
  have Ow0 := Lib.hid (kept2 Ow0.out gr (fun q q' e e' => by have := Iw0.out q e; have := Ib2.out q' e'; omega))
  have Og0 := Lib.hid (kept2 Og0.out gr (fun q q' e e' => by have := Ig0.out q e; have := Ib2.out q' e'; omega))
  replace t0 := (cell_mark gr (o := 0) (x := w.heap.size) (by omega) (fun q' e' => by have := Ib2.out q' e'; omega)).trans t0
  replace t1 := (cell_mark gr (o := 1) (x := w.heap.size) (by omega) (fun q' e' => by have := Ib2.out q' e'; omega)).trans t1
  replace t2 := (cell_mark gr (o := 2) (x := w.heap.size) (by omega) (fun q' e' => by have := Ib2.out q' e'; omega)).trans t2
  replace t3 := (cell_mark gr (o := 3) (x := w.heap.size) (by omega) (fun q' e' => by have := Ib2.out q' e'; omega)).trans t3
  replace t4 := (cell_mark gr (o := 4) (x := w.heap.size) (by omega) (fun q' e' => by have := Ib2.out q' e'; omega)).trans t4
  replace HB := Lib.hid (bel_mark HB.out HB.out.size gr (fun q' e' => by have := Ib2.out q' e'; omega))
  have szw111 := gr.size
  clear gr
  clear Ob2
  go_wp2_with fail
  refine (eqIntS_c _ _ r1 r1 _ (rdi_own Og0.out) (rdi_own Ow0.out)).mono ?_; rintro e w112 ⟨rfl, c⟩
  have Ow0 := Lib.hid (own_below Ow0.out c)
  have Og0 := Lib.hid (own_below Og0.out c)
  replace t0 := (c.cell (p := ⟨w.heap.size, 0, none⟩) (by show w.heap.size < _; omega)).trans t0
  replace t1 := (c.cell (p := ⟨w.heap.size, 1, none⟩) (by show w.heap.size < _; omega)).trans t1
  replace t2 := (c.cell (p := ⟨w.heap.size, 2, none⟩) (by show w.heap.size < _; omega)).trans t2
  replace t3 := (c.cell (p := ⟨w.heap.size, 3, none⟩) (by show w.heap.size < _; omega)).trans t3
  replace t4 := (c.cell (p := ⟨w.heap.size, 4, none⟩) (by show w.heap.size < _; omega)).trans t4
  replace HB := Lib.hid (bel_then HB.out c)
  have szw112 := c.size
  clear c
  go_wp2_with fail
  refine (markIntS_c _ r1 _ _ r1.length _ Og0.out (by omega) (by omega) (by omega)).mono ?_; rintro e w113 ⟨rfl, hom, gr⟩
  have Ow0 := Lib.hid (kept2 Ow0.out gr (fun q q' e e' => by have := Iw0.out q e; have := Ig0.out q' e'; omega))
  replace t0 := (cell_mark gr (o := 0) (x := w.heap.size) (by omega) (fun q' e' => by have := Ig0.out q' e'; omega)).trans t0
  replace t1 := (cell_mark gr (o := 1) (x := w.heap.size) (by omega) (fun q' e' => by have := Ig0.out q' e'; omega)).trans t1
  replace t2 := (cell_mark gr (o := 2) (x := w.heap.size) (by omega) (fun q' e' => by have := Ig0.out q' e'; omega)).trans t2
  replace t3 := (cell_mark gr (o := 3) (x := w.heap.size) (by omega) (fun q' e' => by have := Ig0.out q' e'; omega)).trans t3
  replace t4 := (cell_mark gr (o := 4) (x := w.heap.size) (by omega) (fun q' e' => by have := Ig0.out q' e'; omega)).trans t4
  replace HB := Lib.hid (bel_mark HB.out HB.out.size gr (fun q' e' => by have := Ig0.out q' e'; omega))
  have szw113 := gr.size
  clear gr
  replace Og0 := Lib.hid hom
  clear hom
  go_wp2_with fail
  refine (heldIntS_c _ _ r1.length _ (rdi_own Og0.out) (by omega) (by omega) (by omega)).mono ?_; rintro e w114 ⟨rfl, c⟩
  have Ow0 := Lib.hid (own_below Ow0.out c)
  have Og0 := Lib.hid (own_below Og0.out c)
  replace t0 := (c.cell (p := ⟨w.heap.size, 0, none⟩) (by show w.heap.size < _; omega)).trans t0
  replace t1 := (c.cell (p := ⟨w.heap.size, 1, none⟩) (by show w.heap.size < _; omega)).trans t1
  replace t2 := (c.cell (p := ⟨w.heap.size, 2, none⟩) (by show w.heap.size < _; omega)).trans t2
  replace t3 := (c.cell (p := ⟨w.heap.size, 3, none⟩) (by show w.heap.size < _; omega)).trans t3
  replace t4 := (c.cell (p := ⟨w.heap.size, 4, none⟩) (by show w.heap.size < _; omega)).trans t4
  replace HB := Lib.hid (bel_then HB.out c)
  have szw114 := c.size
  clear c
  go_wp2_with fail
  refine (toLadder_c b0 l0 o0 s0 m0 _).mono ?_; rintro e w115 ⟨rfl, c⟩
  have Ow0 := Lib.hid (own_below Ow0.out c)
  have Og0 := Lib.hid (own_below Og0.out c)
  replace t0 := (c.cell (p := ⟨w.heap.size, 0, none⟩) (by show w.heap.size < _; omega)).trans t0
  replace t1 := (c.cell (p := ⟨w.heap.size, 1, none⟩) (by show w.heap.size < _; omega)).trans t1
  replace t2 := (c.cell (p := ⟨w.heap.size, 2, none⟩) (by show w.heap.size < _; omega)).trans t2
  replace t3 := (c.cell (p := ⟨w.heap.size, 3, none⟩) (by show w.heap.size < _; omega)).trans t3
  replace t4 := (c.cell (p := ⟨w.heap.size, 4, none⟩) (by show w.heap.size < _; omega)).trans t4
  replace HB := Lib.hid (bel_then HB.out c)
  have szw115 := c.size
  clear c
  go_wp2_with fail
  refine (toWindowS_c _ q2 _ (by omega) (rd_below HQ2.out HB.out)).mono ?_; rintro e w116 ⟨xd2, rfl, ho, c⟩
  have Id2 := Lib.hid ho.lt
  have Ow0 := Lib.hid (own_below Ow0.out c)
  have Og0 := Lib.hid (own_below Og0.out c)
  replace t0 := (c.cell (p := ⟨w.heap.size, 0, none⟩) (by show w.heap.size < _; omega)).trans t0
  replace t1 := (c.cell (p := ⟨w.heap.size, 1, none⟩) (by show w.heap.size < _; omega)).trans t1
  replace t2 := (c.cell (p := ⟨w.heap.size, 2, none⟩) (by show w.heap.size < _; omega)).trans t2
  replace t3 := (c.cell (p := ⟨w.heap.size, 3, none⟩) (by show w.heap.size < _; omega)).trans t3
  replace t4 := (c.cell (p := ⟨w.heap.size, 4, none⟩) (by show w.heap.size < _; omega)).trans t4
  replace HB := Lib.hid (bel_then HB.out c)
  have szw116 := c.size
  clear c
  have Od2 := Lib.hid ho
  clear ho
  go_wp2_with fail
  refine (fewestPlacesI_c b0 l0 o0 s0 m0 a1 _ q2 _ (own_rd Od2.out) (sinTab_below HT.out HB.out)).mono ?_; intro e w117 hh; obtain ⟨xh0, rfl, ho, c⟩ := E1.out _ _ _ hh; clear hh
  have Ih0 := Lib.hid ho.lt
  have Ow0 := Lib.hid (own_below Ow0.out c)
  have Og0 := Lib.hid (own_below Og0.out c)
  have Od2 := Lib.hid (own_below Od2.out c)
  replace t0 := (c.cell (p := ⟨w.heap.size, 0, none⟩) (by show w.heap.size < _; omega)).trans t0
  replace t1 := (c.cell (p := ⟨w.heap.size, 1, none⟩) (by show w.heap.size < _; omega)).trans t1
  replace t2 := (c.cell (p := ⟨w.heap.size, 2, none⟩) (by show w.heap.size < _; omega)).trans t2
  replace t3 := (c.cell (p := ⟨w.heap.size, 3, none⟩) (by show w.heap.size < _; omega)).trans t3
  replace t4 := (c.cell (p := ⟨w.heap.size, 4, none⟩) (by show w.heap.size < _; omega)).trans t4
  replace HB := Lib.hid (bel_then HB.out c)
  have szw117 := c.size
  clear c
  have Oh0 := Lib.hid ho
  clear ho
  go_wp2_with fail
  refine (eqIntS_c _ _ r1 r1 _ (rdi_own Oh0.out) (rdi_own Ow0.out)).mono ?_; rintro e w118 ⟨rfl, c⟩
  have Ow0 := Lib.hid (own_below Ow0.out c)
  have Og0 := Lib.hid (own_below Og0.out c)
  have Od2 := Lib.hid (own_below Od2.out c)
  have Oh0 := Lib.hid (own_below Oh0.out c)
  replace t0 := (c.cell (p := ⟨w.heap.size, 0, none⟩) (by show w.heap.size < _; omega)).trans t0
  replace t1 := (c.cell (p := ⟨w.heap.size, 1, none⟩) (by show w.heap.size < _; omega)).trans t1
  replace t2 := (c.cell (p := ⟨w.heap.size, 2, none⟩) (by show w.heap.size < _; omega)).trans t2
  replace t3 := (c.cell (p := ⟨w.heap.size, 3, none⟩) (by show w.heap.size < _; omega)).trans t3
  replace t4 := (c.cell (p := ⟨w.heap.size, 4, none⟩) (by show w.heap.size < _; omega)).trans t4
  replace HB := Lib.hid (bel_then HB.out c)
  have szw118 := c.size
  clear c
  go_wp2_with fail
  refine (heldIntS_c _ _ r1.length _ (rdi_own Og0.out) (by omega) (by omega) (by omega)).mono ?_; rintro e w119 ⟨rfl, c⟩
  have Ow0 := Lib.hid (own_below Ow0.out c)
  have Og0 := Lib.hid (own_below Og0.out c)
  have Od2 := Lib.hid (own_below Od2.out c)
  have Oh0 := Lib.hid (own_below Oh0.out c)
  replace t0 := (c.cell (p := ⟨w.heap.size, 0, none⟩) (by show w.heap.size < _; omega)).trans t0
  replace t1 := (c.cell (p := ⟨w.heap.size, 1, none⟩) (by show w.heap.size < _; omega)).trans t1
  replace t2 := (c.cell (p := ⟨w.heap.size, 2, none⟩) (by show w.heap.size < _; omega)).trans t2
  replace t3 := (c.cell (p := ⟨w.heap.size, 3, none⟩) (by show w.heap.size < _; omega)).trans t3
  replace t4 := (c.cell (p := ⟨w.heap.size, 4, none⟩) (by show w.heap.size < _; omega)).trans t4
  replace HB := Lib.hid (bel_then HB.out c)
  have szw119 := c.size
  clear c
  go_wp2
  go_ret
  exact ⟨rfl, HB.out⟩
end Go.Proofs.YtibkadkodblefaaDoor
