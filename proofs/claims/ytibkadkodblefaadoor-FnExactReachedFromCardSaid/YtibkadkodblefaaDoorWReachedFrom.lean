/-
  The walk of the law of ReachedFrom.
-/
import Derived.Test.YtibkadkodblefaaDoorLadY
import Derived.Test.YtibkadkodblefaaDoorLaw
import Derived.Test.YtibkadkodblefaaDoorTownV
import Derived.Test.YtibkadkodblefaaDoorIntsC
import Derived.Test.YtibkadkodblefaaDoorWnS
import Derived.Test.YtibkadkodblefaaDoorMarkWn
namespace Go.Proofs.YtibkadkodblefaaDoor
open Go.RowKit

set_option maxRecDepth 100000 in
set_option maxHeartbeats 4000000 in
theorem walk_FnExactReachedFrom (w : World) (b0 l0 o0 s0 m0 : Int) (a1 : Int) (a2 : Int) (v3 : Value) (q3 : List Wn) (hq3 : Rd w v3 q3.length (q3.flatMap Wn.cells)) (ht : SinTab w) :
    Calls Tryd.prog 9 #[ldV b0 l0 o0 s0 m0, .int .i64 a1, .int .i64 a2, v3] w fun en w' => en = .returned (.bool true) ∧ Below w.heap.size w w' := by
  have HT := Lib.hid ht
  clear ht
  have HQ3 := Lib.hid hq3
  obtain ⟨A3, c3, rfl, _⟩ := hq3
  by_cases hbt3 : (1048576 : Int) < q3.length
  · go_enter Tryd.func9, Tryd.ntmps9
    go_wp2_with (go_at_call 30; refine (szWindowS_big _ q3.length _ _ _ (by omega) (by omega) (rd_below HQ3.out (bel_al (Below.refl _ _) _)) (by omega)).mono ?_; rintro e w' ⟨rfl, rfl⟩)
    go_ret
    exact ⟨rfl, (by repeat (first | exact Below.refl _ _ | assumption | refine bel_al ?_ _ | refine bel_dr ?_ | refine below_drewN ?_ _ | refine bel_then ?_ (by assumption)))⟩
  have hgl := reachedFromV_len b0 l0 o0 s0 m0 a1 a2 q3
  obtain ⟨r1, hr1⟩ : ∃ r1, (reachedFromV b0 l0 o0 s0 m0 a1 a2 q3).1 = r1 := ⟨_, rfl⟩
  obtain ⟨r2, hr2⟩ : ∃ r2, (reachedFromV b0 l0 o0 s0 m0 a1 a2 q3).2 = r2 := ⟨_, rfl⟩
  rw [hr1] at hgl
  have e1 : ∀ (W : World) (e : Ending) (W' : World), OwnIB (reachedFromV b0 l0 o0 s0 m0 a1 a2 q3) W e W' → ∃ x, e = .returned (.tuple #[x, .bool r2]) ∧ W'.ownsRow W.heap.size 3 1 x r1.length (ints r1) ∧ Below W.heap.size W W' := by
    rintro W e W' ⟨x, h1, h2, h3⟩
    rw [hr1] at h2
    rw [hr2] at h1
    exact ⟨x, h1, h2, h3⟩
  have E1 := Lib.hid e1
  clear e1 hr1 hr2
  go_enter Tryd.func9, Tryd.ntmps9
  go_wp2_with fail
  generalize hw1 : World.alloc w _ = w100
  have t0 : w100.cell? ⟨w.heap.size, 0, none⟩ = some (.int .i64 b0) := by subst hw1; simp [go_sem]
  have t1 : w100.cell? ⟨w.heap.size, 1, none⟩ = some (.int .i64 l0) := by subst hw1; simp [go_sem]
  have t2 : w100.cell? ⟨w.heap.size, 2, none⟩ = some (.int .i64 o0) := by subst hw1; simp [go_sem]
  have t3 : w100.cell? ⟨w.heap.size, 3, none⟩ = some (.int .i64 s0) := by subst hw1; simp [go_sem]
  have t4 : w100.cell? ⟨w.heap.size, 4, none⟩ = some (.int .i64 m0) := by subst hw1; simp [go_sem]
  have HB : Hid (Below w.heap.size w w100) := Lib.hid (by subst hw1; exact bel_al (Below.refl _ _) _)
  have szw100 : w.heap.size < w100.heap.size := by subst hw1; simp
  clear hw1
  go_wp2_with fail
  refine (szWindowS_fits _ q3.length _ _ _ (by omega) (rd_below HQ3.out HB.out) (by omega)).mono ?_; rintro e w101 ⟨rfl, rfl⟩
  go_wp2_with fail
  refine (toLadder_c b0 l0 o0 s0 m0 _).mono ?_; rintro e w102 ⟨rfl, c⟩
  replace t0 := (c.cell (p := ⟨w.heap.size, 0, none⟩) (by show w.heap.size < _; omega)).trans t0
  replace t1 := (c.cell (p := ⟨w.heap.size, 1, none⟩) (by show w.heap.size < _; omega)).trans t1
  replace t2 := (c.cell (p := ⟨w.heap.size, 2, none⟩) (by show w.heap.size < _; omega)).trans t2
  replace t3 := (c.cell (p := ⟨w.heap.size, 3, none⟩) (by show w.heap.size < _; omega)).trans t3
  replace t4 := (c.cell (p := ⟨w.heap.size, 4, none⟩) (by show w.heap.size < _; omega)).trans t4
  replace HB := Lib.hid (bel_then HB.out c)
  have szw102 := c.size
  clear c
  go_wp2_with fail
  refine (toWindowS_c _ q3 _ (by omega) (rd_below HQ3.out HB.out)).mono ?_; rintro e w103 ⟨xa3, rfl, ho, c⟩
  have Ia3 := Lib.hid ho.lt
  replace t0 := (c.cell (p := ⟨w.heap.size, 0, none⟩) (by show w.heap.size < _; omega)).trans t0
  replace t1 := (c.cell (p := ⟨w.heap.size, 1, none⟩) (by show w.heap.size < _; omega)).trans t1
  replace t2 := (c.cell (p := ⟨w.heap.size, 2, none⟩) (by show w.heap.size < _; omega)).trans t2
  replace t3 := (c.cell (p := ⟨w.heap.size, 3, none⟩) (by show w.heap.size < _; omega)).trans t3
  replace t4 := (c.cell (p := ⟨w.heap.size, 4, none⟩) (by show w.heap.size < _; omega)).trans t4
  replace HB := Lib.hid (bel_then HB.out c)
  have szw103 := c.size
  clear c
  have Oa3 := Lib.hid ho
  clear ho
  go_wp2_with fail
  refine (reachedFromS_c b0 l0 o0 s0 m0 a1 a2 _ q3 _ (own_rd Oa3.out)).mono ?_; intro e w104 hh; obtain ⟨xw0, rfl, ho, c⟩ := E1.out _ _ _ hh; clear hh
  have Iw0 := Lib.hid ho.lt
  have Oa3 := Lib.hid (own_below Oa3.out c)
  replace t0 := (c.cell (p := ⟨w.heap.size, 0, none⟩) (by show w.heap.size < _; omega)).trans t0
  replace t1 := (c.cell (p := ⟨w.heap.size, 1, none⟩) (by show w.heap.size < _; omega)).trans t1
  replace t2 := (c.cell (p := ⟨w.heap.size, 2, none⟩) (by show w.heap.size < _; omega)).trans t2
  replace t3 := (c.cell (p := ⟨w.heap.size, 3, none⟩) (by show w.heap.size < _; omega)).trans t3
  replace t4 := (c.cell (p := ⟨w.heap.size, 4, none⟩) (by show w.heap.size < _; omega)).trans t4
  replace HB := Lib.hid (bel_then HB.out c)
  have szw104 := c.size
  clear c
  have Ow0 := Lib.hid ho
  clear ho
  go_wp2_with fail
  clear Oa3
  refine (toWindowS_c _ q3 _ (by omega) (rd_below HQ3.out HB.out)).mono ?_; rintro e w105 ⟨xb3, rfl, ho, c⟩
  have Ib3 := Lib.hid ho.lt
  have Ow0 := Lib.hid (own_below Ow0.out c)
  replace t0 := (c.cell (p := ⟨w.heap.size, 0, none⟩) (by show w.heap.size < _; omega)).trans t0
  replace t1 := (c.cell (p := ⟨w.heap.size, 1, none⟩) (by show w.heap.size < _; omega)).trans t1
  replace t2 := (c.cell (p := ⟨w.heap.size, 2, none⟩) (by show w.heap.size < _; omega)).trans t2
  replace t3 := (c.cell (p := ⟨w.heap.size, 3, none⟩) (by show w.heap.size < _; omega)).trans t3
  replace t4 := (c.cell (p := ⟨w.heap.size, 4, none⟩) (by show w.heap.size < _; omega)).trans t4
  replace HB := Lib.hid (bel_then HB.out c)
  have szw105 := c.size
  clear c
  have Ob3 := Lib.hid ho
  clear ho
  obtain ⟨Ab3, cb3, hxb3, _⟩ := own_rd Ob3.out
  subst hxb3
  go_wp2_with fail
  refine (toLadder_c b0 l0 o0 s0 m0 _).mono ?_; rintro e w106 ⟨rfl, c⟩
  have Ow0 := Lib.hid (own_below Ow0.out c)
  have Ob3 := Lib.hid (own_below Ob3.out c)
  replace t0 := (c.cell (p := ⟨w.heap.size, 0, none⟩) (by show w.heap.size < _; omega)).trans t0
  replace t1 := (c.cell (p := ⟨w.heap.size, 1, none⟩) (by show w.heap.size < _; omega)).trans t1
  replace t2 := (c.cell (p := ⟨w.heap.size, 2, none⟩) (by show w.heap.size < _; omega)).trans t2
  replace t3 := (c.cell (p := ⟨w.heap.size, 3, none⟩) (by show w.heap.size < _; omega)).trans t3
  replace t4 := (c.cell (p := ⟨w.heap.size, 4, none⟩) (by show w.heap.size < _; omega)).trans t4
  replace HB := Lib.hid (bel_then HB.out c)
  have szw106 := c.size
  clear c
  go_wp2_with fail
  refine (reachedFromI_c b0 l0 o0 s0 m0 a1 a2 _ q3 _ (own_rd Ob3.out) (sinTab_below HT.out HB.out)).mono ?_; intro e w107 hh; obtain ⟨xg0, rfl, ho, c⟩ := E1.out _ _ _ hh; clear hh
  have Ig0 := Lib.hid ho.lt
  have Ow0 := Lib.hid (own_below Ow0.out c)
  have Ob3 := Lib.hid (own_below Ob3.out c)
  replace t0 := (c.cell (p := ⟨w.heap.size, 0, none⟩) (by show w.heap.size < _; omega)).trans t0
  replace t1 := (c.cell (p := ⟨w.heap.size, 1, none⟩) (by show w.heap.size < _; omega)).trans t1
  replace t2 := (c.cell (p := ⟨w.heap.size, 2, none⟩) (by show w.heap.size < _; omega)).trans t2
  replace t3 := (c.cell (p := ⟨w.heap.size, 3, none⟩) (by show w.heap.size < _; omega)).trans t3
  replace t4 := (c.cell (p := ⟨w.heap.size, 4, none⟩) (by show w.heap.size < _; omega)).trans t4
  replace HB := Lib.hid (bel_then HB.out c)
  have szw107 := c.size
  clear c
  have Og0 := Lib.hid ho
  clear ho
  go_wp2_with fail
  refine (eqIntS_c _ _ r1 r1 _ (rdi_own Og0.out) (rdi_own Ow0.out)).mono ?_; rintro e w108 ⟨rfl, c⟩
  have Ow0 := Lib.hid (own_below Ow0.out c)
  have Ob3 := Lib.hid (own_below Ob3.out c)
  have Og0 := Lib.hid (own_below Og0.out c)
  replace t0 := (c.cell (p := ⟨w.heap.size, 0, none⟩) (by show w.heap.size < _; omega)).trans t0
  replace t1 := (c.cell (p := ⟨w.heap.size, 1, none⟩) (by show w.heap.size < _; omega)).trans t1
  replace t2 := (c.cell (p := ⟨w.heap.size, 2, none⟩) (by show w.heap.size < _; omega)).trans t2
  replace t3 := (c.cell (p := ⟨w.heap.size, 3, none⟩) (by show w.heap.size < _; omega)).trans t3
  replace t4 := (c.cell (p := ⟨w.heap.size, 4, none⟩) (by show w.heap.size < _; omega)).trans t4
  replace HB := Lib.hid (bel_then HB.out c)
  have szw108 := c.size
  clear c
  go_wp2_with fail
  refine (toWindowS_c _ q3 _ (by omega) (rd_below HQ3.out HB.out)).mono ?_; rintro e w109 ⟨xc3, rfl, ho, c⟩
  have Ic3 := Lib.hid ho.lt
  have Ow0 := Lib.hid (own_below Ow0.out c)
  have Ob3 := Lib.hid (own_below Ob3.out c)
  have Og0 := Lib.hid (own_below Og0.out c)
  replace t0 := (c.cell (p := ⟨w.heap.size, 0, none⟩) (by show w.heap.size < _; omega)).trans t0
  replace t1 := (c.cell (p := ⟨w.heap.size, 1, none⟩) (by show w.heap.size < _; omega)).trans t1
  replace t2 := (c.cell (p := ⟨w.heap.size, 2, none⟩) (by show w.heap.size < _; omega)).trans t2
  replace t3 := (c.cell (p := ⟨w.heap.size, 3, none⟩) (by show w.heap.size < _; omega)).trans t3
  replace t4 := (c.cell (p := ⟨w.heap.size, 4, none⟩) (by show w.heap.size < _; omega)).trans t4
  replace HB := Lib.hid (bel_then HB.out c)
  have szw109 := c.size
  clear c
  have Oc3 := Lib.hid ho
  clear ho
  go_wp2_with fail
  refine (eqWindowS_c _ _ q3 q3 _ (own_rd Ob3.out) (own_rd Oc3.out)).mono ?_; rintro e w110 ⟨rfl, c⟩
  have Ow0 := Lib.hid (own_below Ow0.out c)
  have Ob3 := Lib.hid (own_below Ob3.out c)
  have Og0 := Lib.hid (own_below Og0.out c)
  have Oc3 := Lib.hid (own_below Oc3.out c)
  replace t0 := (c.cell (p := ⟨w.heap.size, 0, none⟩) (by show w.heap.size < _; omega)).trans t0
  replace t1 := (c.cell (p := ⟨w.heap.size, 1, none⟩) (by show w.heap.size < _; omega)).trans t1
  replace t2 := (c.cell (p := ⟨w.heap.size, 2, none⟩) (by show w.heap.size < _; omega)).trans t2
  replace t3 := (c.cell (p := ⟨w.heap.size, 3, none⟩) (by show w.heap.size < _; omega)).trans t3
  replace t4 := (c.cell (p := ⟨w.heap.size, 4, none⟩) (by show w.heap.size < _; omega)).trans t4
  replace HB := Lib.hid (bel_then HB.out c)
  have szw110 := c.size
  clear c
  rw [decide_eq_true (rfl : q3 = q3)]
  go_wp2_with fail
  clear Oc3
  refine (markWindowS_c _ _ _ _ q3.length _ Ob3.out (by omega) (by omega) (by omega)).mono ?_; rintro e w111 ⟨rfl, gr⟩
  have Ow0 := Lib.hid (kept2 Ow0.out gr (fun q q' e e' => by have := Iw0.out q e; have := Ib3.out q' e'; omega))
  have Og0 := Lib.hid (kept2 Og0.out gr (fun q q' e e' => by have := Ig0.out q e; have := Ib3.out q' e'; omega))
  replace t0 := (cell_mark gr (o := 0) (x := w.heap.size) (by omega) (fun q' e' => by have := Ib3.out q' e'; omega)).trans t0
  replace t1 := (cell_mark gr (o := 1) (x := w.heap.size) (by omega) (fun q' e' => by have := Ib3.out q' e'; omega)).trans t1
  replace t2 := (cell_mark gr (o := 2) (x := w.heap.size) (by omega) (fun q' e' => by have := Ib3.out q' e'; omega)).trans t2
  replace t3 := (cell_mark gr (o := 3) (x := w.heap.size) (by omega) (fun q' e' => by have := Ib3.out q' e'; omega)).trans t3
  replace t4 := (cell_mark gr (o := 4) (x := w.heap.size) (by omega) (fun q' e' => by have := Ib3.out q' e'; omega)).trans t4
  replace HB := Lib.hid (bel_mark HB.out HB.out.size gr (fun q' e' => by have := Ib3.out q' e'; omega))
  have szw111 := gr.size
  clear gr
  clear Ob3
  go_wp2_with fail
  refine (eqIntS_c _ _ r1 r1 _ (rdi_own Og0.out) (rdi_own Ow0.out)).mono ?_; rintro e w112 ⟨rfl, c⟩
  have Ow0 := Lib.hid (own_below Ow0.out c)
  have Og0 := Lib.hid (own_below Og0.out c)
  replace t0 := (c.cell (p := ⟨w.heap.size, 0, none⟩) (by show w.heap.size < _; omega)).trans t0
  replace t1 := (c.cell (p := ⟨w.heap.size, 1, none⟩) (by show w.heap.size < _; omega)).trans t1
  replace t2 := (c.cell (p := ⟨w.heap.size, 2, none⟩) (by show w.heap.size < _; omega)).trans t2
  replace t3 := (c.cell (p := ⟨w.heap.size, 3, none⟩) (by show w.heap.size < _; omega)).trans t3
  replace t4 := (c.cell (p := ⟨w.heap.size, 4, none⟩) (by show w.heap.size < _; omega)).trans t4
  replace HB := Lib.hid (bel_then HB.out c)
  have szw112 := c.size
  clear c
  go_wp2_with fail
  refine (markIntS_c _ r1 _ _ r1.length _ Og0.out (by omega) (by omega) (by omega)).mono ?_; rintro e w113 ⟨rfl, hom, gr⟩
  have Ow0 := Lib.hid (kept2 Ow0.out gr (fun q q' e e' => by have := Iw0.out q e; have := Ig0.out q' e'; omega))
  replace t0 := (cell_mark gr (o := 0) (x := w.heap.size) (by omega) (fun q' e' => by have := Ig0.out q' e'; omega)).trans t0
  replace t1 := (cell_mark gr (o := 1) (x := w.heap.size) (by omega) (fun q' e' => by have := Ig0.out q' e'; omega)).trans t1
  replace t2 := (cell_mark gr (o := 2) (x := w.heap.size) (by omega) (fun q' e' => by have := Ig0.out q' e'; omega)).trans t2
  replace t3 := (cell_mark gr (o := 3) (x := w.heap.size) (by omega) (fun q' e' => by have := Ig0.out q' e'; omega)).trans t3
  replace t4 := (cell_mark gr (o := 4) (x := w.heap.size) (by omega) (fun q' e' => by have := Ig0.out q' e'; omega)).trans t4
  replace HB := Lib.hid (bel_mark HB.out HB.out.size gr (fun q' e' => by have := Ig0.out q' e'; omega))
  have szw113 := gr.size
  clear gr
  replace Og0 := Lib.hid hom
  clear hom
  go_wp2_with fail
  refine (heldIntS_c _ _ r1.length _ (rdi_own Og0.out) (by omega) (by omega) (by omega)).mono ?_; rintro e w114 ⟨rfl, c⟩
  have Ow0 := Lib.hid (own_below Ow0.out c)
  have Og0 := Lib.hid (own_below Og0.out c)
  replace t0 := (c.cell (p := ⟨w.heap.size, 0, none⟩) (by show w.heap.size < _; omega)).trans t0
  replace t1 := (c.cell (p := ⟨w.heap.size, 1, none⟩) (by show w.heap.size < _; omega)).trans t1
  replace t2 := (c.cell (p := ⟨w.heap.size, 2, none⟩) (by show w.heap.size < _; omega)).trans t2
  replace t3 := (c.cell (p := ⟨w.heap.size, 3, none⟩) (by show w.heap.size < _; omega)).trans t3
  replace t4 := (c.cell (p := ⟨w.heap.size, 4, none⟩) (by show w.heap.size < _; omega)).trans t4
  replace HB := Lib.hid (bel_then HB.out c)
  have szw114 := c.size
  clear c
  go_wp2_with fail
  refine (toLadder_c b0 l0 o0 s0 m0 _).mono ?_; rintro e w115 ⟨rfl, c⟩
  have Ow0 := Lib.hid (own_below Ow0.out c)
  have Og0 := Lib.hid (own_below Og0.out c)
  replace t0 := (c.cell (p := ⟨w.heap.size, 0, none⟩) (by show w.heap.size < _; omega)).trans t0
  replace t1 := (c.cell (p := ⟨w.heap.size, 1, none⟩) (by show w.heap.size < _; omega)).trans t1
  replace t2 := (c.cell (p := ⟨w.heap.size, 2, none⟩) (by show w.heap.size < _; omega)).trans t2
  replace t3 := (c.cell (p := ⟨w.heap.size, 3, none⟩) (by show w.heap.size < _; omega)).trans t3
  replace t4 := (c.cell (p := ⟨w.heap.size, 4, none⟩) (by show w.heap.size < _; omega)).trans t4
  replace HB := Lib.hid (bel_then HB.out c)
  have szw115 := c.size
  clear c
  go_wp2_with fail
  refine (toWindowS_c _ q3 _ (by omega) (rd_below HQ3.out HB.out)).mono ?_; rintro e w116 ⟨xd3, rfl, ho, c⟩
  have Id3 := Lib.hid ho.lt
  have Ow0 := Lib.hid (own_below Ow0.out c)
  have Og0 := Lib.hid (own_below Og0.out c)
  replace t0 := (c.cell (p := ⟨w.heap.size, 0, none⟩) (by show w.heap.size < _; omega)).trans t0
  replace t1 := (c.cell (p := ⟨w.heap.size, 1, none⟩) (by show w.heap.size < _; omega)).trans t1
  replace t2 := (c.cell (p := ⟨w.heap.size, 2, none⟩) (by show w.heap.size < _; omega)).trans t2
  replace t3 := (c.cell (p := ⟨w.heap.size, 3, none⟩) (by show w.heap.size < _; omega)).trans t3
  replace t4 := (c.cell (p := ⟨w.heap.size, 4, none⟩) (by show w.heap.size < _; omega)).trans t4
  replace HB := Lib.hid (bel_then HB.out c)
  have szw116 := c.size
  clear c
  have Od3 := Lib.hid ho
  clear ho
  go_wp2_with fail
  refine (reachedFromI_c b0 l0 o0 s0 m0 a1 a2 _ q3 _ (own_rd Od3.out) (sinTab_below HT.out HB.out)).mono ?_; intro e w117 hh; obtain ⟨xh0, rfl, ho, c⟩ := E1.out _ _ _ hh; clear hh
  have Ih0 := Lib.hid ho.lt
  have Ow0 := Lib.hid (own_below Ow0.out c)
  have Og0 := Lib.hid (own_below Og0.out c)
  have Od3 := Lib.hid (own_below Od3.out c)
  replace t0 := (c.cell (p := ⟨w.heap.size, 0, none⟩) (by show w.heap.size < _; omega)).trans t0
  replace t1 := (c.cell (p := ⟨w.heap.size, 1, none⟩) (by show w.heap.size < _; omega)).trans t1
  replace t2 := (c.cell (p := ⟨w.heap.size, 2, none⟩) (by show w.heap.size < _; omega)).trans t2
  replace t3 := (c.cell (p := ⟨w.heap.size, 3, none⟩) (by show w.heap.size < _; omega)).trans t3
  replace t4 := (c.cell (p := ⟨w.heap.size, 4, none⟩) (by show w.heap.size < _; omega)).trans t4
  replace HB := Lib.hid (bel_then HB.out c)
  have szw117 := c.size
  clear c
  have Oh0 := Lib.hid ho
  clear ho
  go_wp2_with fail
  refine (eqIntS_c _ _ r1 r1 _ (rdi_own Oh0.out) (rdi_own Ow0.out)).mono ?_; rintro e w118 ⟨rfl, c⟩
  have Ow0 := Lib.hid (own_below Ow0.out c)
  have Og0 := Lib.hid (own_below Og0.out c)
  have Od3 := Lib.hid (own_below Od3.out c)
  have Oh0 := Lib.hid (own_below Oh0.out c)
  replace t0 := (c.cell (p := ⟨w.heap.size, 0, none⟩) (by show w.heap.size < _; omega)).trans t0
  replace t1 := (c.cell (p := ⟨w.heap.size, 1, none⟩) (by show w.heap.size < _; omega)).trans t1
  replace t2 := (c.cell (p := ⟨w.heap.size, 2, none⟩) (by show w.heap.size < _; omega)).trans t2
  replace t3 := (c.cell (p := ⟨w.heap.size, 3, none⟩) (by show w.heap.size < _; omega)).trans t3
  replace t4 := (c.cell (p := ⟨w.heap.size, 4, none⟩) (by show w.heap.size < _; omega)).trans t4
  replace HB := Lib.hid (bel_then HB.out c)
  have szw118 := c.size
  clear c
  go_wp2_with fail
  refine (heldIntS_c _ _ r1.length _ (rdi_own Og0.out) (by omega) (by omega) (by omega)).mono ?_; rintro e w119 ⟨rfl, c⟩
  have Ow0 := Lib.hid (own_below Ow0.out c)
  have Og0 := Lib.hid (own_below Og0.out c)
  have Od3 := Lib.hid (own_below Od3.out c)
  have Oh0 := Lib.hid (own_below Oh0.out c)
  replace t0 := (c.cell (p := ⟨w.heap.size, 0, none⟩) (by show w.heap.size < _; omega)).trans t0
  replace t1 := (c.cell (p := ⟨w.heap.size, 1, none⟩) (by show w.heap.size < _; omega)).trans t1
  replace t2 := (c.cell (p := ⟨w.heap.size, 2, none⟩) (by show w.heap.size < _; omega)).trans t2
  replace t3 := (c.cell (p := ⟨w.heap.size, 3, none⟩) (by show w.heap.size < _; omega)).trans t3
  replace t4 := (c.cell (p := ⟨w.heap.size, 4, none⟩) (by show w.heap.size < _; omega)).trans t4
  replace HB := Lib.hid (bel_then HB.out c)
  have szw119 := c.size
  clear c
  go_wp2
  go_ret
  exact ⟨rfl, HB.out⟩
end Go.Proofs.YtibkadkodblefaaDoor
