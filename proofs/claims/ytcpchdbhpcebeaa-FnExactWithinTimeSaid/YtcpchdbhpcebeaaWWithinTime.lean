/-
  The walk of the law of WithinTime.
-/
import Derived.Test.YtcpchdbhpcebeaaWithin
import Derived.Test.YtcpchdbhpcebeaaLaw
import Derived.Test.YtcpchdbhpcebeaaTownV
import Derived.Test.YtcpchdbhpcebeaaIntsC
import Derived.Test.YtcpchdbhpcebeaaApS
import Derived.Test.YtcpchdbhpcebeaaMarkAp
import Derived.Test.YtcpchdbhpcebeaaStrs
import Derived.Test.YtcpchdbhpcebeaaMarkStr
namespace Go.Proofs.Ytcpchdbhpcebeaa
open Go.RowKit

set_option maxRecDepth 100000 in
set_option maxHeartbeats 4000000 in
theorem walk_FnExactWithinTime (w : World) (n0 : Int) (s0 : Value) (l0 : List St) (hr0 : Rd w s0 l0.length (l0.flatMap St.cells)) (v1 : Value) (f1 : List Ap) (hz1 : ∀ x ∈ f1, x.nm.size ≤ 9223372036854775807) (hf1 : Rd w v1 f1.length (f1.flatMap Ap.cells)) (a2 : Int) (a3 : Int) :
    Calls Try.prog 5 #[.agg #[.int .i64 n0, s0], v1, .int .i64 a2, .int .i64 a3] w fun en w' => en = .returned (.bool true) ∧ Below w.heap.size w w' := by
  have HR0 := Lib.hid hr0
  obtain ⟨A0, c0, rfl, _⟩ := hr0
  have HZ1 := Lib.hid hz1
  have HF1 := Lib.hid hf1
  obtain ⟨AA1, cc1, rfl, _⟩ := hf1
  clear hz1
  by_cases hbt0 : (1048576 : Int) < l0.length
  · go_enter Try.func5, Try.ntmps5
    go_wp2_with (go_at_call 11; refine (szTown_big _ _ l0 _ _ (by omega) (by omega) (rd_below HR0.out (bel_al (Below.refl _ _) _)) (by omega)).mono ?_; rintro e w' ⟨rfl, hb1⟩)
    go_ret
    exact ⟨rfl, bel_then (bel_al (Below.refl _ _) _) hb1⟩
  have hgl := withinTimeV_len n0 l0 f1 a2 a3
  obtain ⟨r1, hr1⟩ : ∃ r1, (withinTimeV n0 l0 f1 a2 a3).1 = r1 := ⟨_, rfl⟩
  obtain ⟨r2, hr2⟩ : ∃ r2, (withinTimeV n0 l0 f1 a2 a3).2 = r2 := ⟨_, rfl⟩
  rw [hr1] at hgl
  have e1 : ∀ (W : World) (e : Ending) (W' : World), OwnStB (withinTimeV n0 l0 f1 a2 a3) W e W' → ∃ x, e = .returned (.tuple #[x, .bool r2]) ∧ W'.ownsRow W.heap.size 9 1 x r1.length (strs r1) ∧ Below W.heap.size W W' := by
    rintro W e W' ⟨x, h1, h2, h3⟩
    rw [hr1] at h2
    rw [hr2] at h1
    exact ⟨x, h1, h2, h3⟩
  have E1 := Lib.hid e1
  clear e1 hr1 hr2
  go_enter Try.func5, Try.ntmps5
  go_wp2_with fail
  generalize hw1 : World.alloc w _ = w100
  have t0 : w100.cell? ⟨w.heap.size, 0, none⟩ = some (.int .i64 n0) := by subst hw1; simp [go_sem]
  have t1 : w100.cell? ⟨w.heap.size, 1, none⟩ = some (.slice A0 l0.length c0) := by subst hw1; simp [go_sem]
  have HB : Hid (Below w.heap.size w w100) := Lib.hid (by subst hw1; exact bel_al (Below.refl _ _) _)
  have szw100 : w.heap.size < w100.heap.size := by subst hw1; simp
  clear hw1
  refine (szTown_fits _ _ l0 _ _ (by omega) (rd_below HR0.out HB.out) (by omega)).mono ?_; rintro e w101 ⟨rfl, c⟩
  replace t0 := (c.cell (p := ⟨w.heap.size, 0, none⟩) (by show w.heap.size < _; omega)).trans t0
  replace t1 := (c.cell (p := ⟨w.heap.size, 1, none⟩) (by show w.heap.size < _; omega)).trans t1
  replace HB := Lib.hid (bel_then HB.out c)
  have szw101 := c.size
  clear c
  go_wp2_with fail
  refine (szApplianceS_c _ f1 _ _ (by omega) (by omega) HZ1.out (rd_below HF1.out HB.out)).mono ?_; rintro e w102 ⟨rz1, rfl, c, hrz1⟩
  replace t0 := (c.cell (p := ⟨w.heap.size, 0, none⟩) (by show w.heap.size < _; omega)).trans t0
  replace t1 := (c.cell (p := ⟨w.heap.size, 1, none⟩) (by show w.heap.size < _; omega)).trans t1
  replace HB := Lib.hid (bel_then HB.out c)
  have szw102 := c.size
  clear c
  rcases hrz1 with rfl | ⟨hrz01, hrz11, hrzl1⟩
  · go_wp2
    go_ret
    exact ⟨rfl, HB.out⟩
  go_wp2_with fail
  refine (toTown_c n0 _ l0 _ (by omega) (rd_below HR0.out HB.out)).mono ?_; rintro e w103 ⟨xa0, rfl, ho, c⟩
  have Ia0 := Lib.hid ho.lt
  replace t0 := (c.cell (p := ⟨w.heap.size, 0, none⟩) (by show w.heap.size < _; omega)).trans t0
  replace t1 := (c.cell (p := ⟨w.heap.size, 1, none⟩) (by show w.heap.size < _; omega)).trans t1
  replace HB := Lib.hid (bel_then HB.out c)
  have szw103 := c.size
  clear c
  have Oa0 := Lib.hid ho
  clear ho
  go_wp2_with fail
  refine (toApplianceS_c _ f1 _ (by omega) (rd_below HF1.out HB.out)).mono ?_; rintro e w104 ⟨xa1, rfl, ho, c⟩
  have Ia1 := Lib.hid ho.lt
  have Oa0 := Lib.hid (own_below Oa0.out c)
  replace t0 := (c.cell (p := ⟨w.heap.size, 0, none⟩) (by show w.heap.size < _; omega)).trans t0
  replace t1 := (c.cell (p := ⟨w.heap.size, 1, none⟩) (by show w.heap.size < _; omega)).trans t1
  replace HB := Lib.hid (bel_then HB.out c)
  have szw104 := c.size
  clear c
  have Oa1 := Lib.hid ho
  clear ho
  go_wp2_with fail
  refine (withinTimeS_c n0 _ l0 _ f1 a2 a3 _ (own_rd Oa0.out) HZ1.out (own_rd Oa1.out)).mono ?_; intro e w105 hh; obtain ⟨xw0, rfl, ho, c⟩ := E1.out _ _ _ hh; clear hh
  have Iw0 := Lib.hid ho.lt
  have Oa0 := Lib.hid (own_below Oa0.out c)
  have Oa1 := Lib.hid (own_below Oa1.out c)
  replace t0 := (c.cell (p := ⟨w.heap.size, 0, none⟩) (by show w.heap.size < _; omega)).trans t0
  replace t1 := (c.cell (p := ⟨w.heap.size, 1, none⟩) (by show w.heap.size < _; omega)).trans t1
  replace HB := Lib.hid (bel_then HB.out c)
  have szw105 := c.size
  clear c
  have Ow0 := Lib.hid ho
  clear ho
  go_wp2_with fail
  clear Oa0
  clear Oa1
  refine (toTown_c n0 _ l0 _ (by omega) (rd_below HR0.out HB.out)).mono ?_; rintro e w106 ⟨xb0, rfl, ho, c⟩
  have Ib0 := Lib.hid ho.lt
  have Ow0 := Lib.hid (own_below Ow0.out c)
  replace t0 := (c.cell (p := ⟨w.heap.size, 0, none⟩) (by show w.heap.size < _; omega)).trans t0
  replace t1 := (c.cell (p := ⟨w.heap.size, 1, none⟩) (by show w.heap.size < _; omega)).trans t1
  replace HB := Lib.hid (bel_then HB.out c)
  have szw106 := c.size
  clear c
  have Ob0 := Lib.hid ho
  clear ho
  obtain ⟨Ab0, cb0, hxb0, _⟩ := own_rd Ob0.out
  subst hxb0
  go_wp2_with fail
  generalize hW7 : World.alloc w106 _ = w107
  have p0 : w107.cell? ⟨w106.heap.size, 0, none⟩ = some (.int .i64 n0) := by subst hW7; simp [go_sem]
  have p1 : w107.cell? ⟨w106.heap.size, 1, none⟩ = some (.slice Ab0 l0.length cb0) := by subst hW7; simp [go_sem]
  have c : Below w106.heap.size w106 w107 := by subst hW7; exact bel_al (Below.refl _ _) _
  have szx : w106.heap.size < w107.heap.size := by subst hW7; simp
  clear hW7
  have Ow0 := Lib.hid (own_below Ow0.out c)
  have Ob0 := Lib.hid (own_below Ob0.out c)
  replace t0 := (c.cell (p := ⟨w.heap.size, 0, none⟩) (by show w.heap.size < _; omega)).trans t0
  replace t1 := (c.cell (p := ⟨w.heap.size, 1, none⟩) (by show w.heap.size < _; omega)).trans t1
  replace HB := Lib.hid (bel_then HB.out c)
  have szw107 := c.size
  clear c
  refine (toApplianceS_c _ f1 _ (by omega) (rd_below HF1.out HB.out)).mono ?_; rintro e w108 ⟨xb1, rfl, ho, c⟩
  have Ib1 := Lib.hid ho.lt
  have Ow0 := Lib.hid (own_below Ow0.out c)
  have Ob0 := Lib.hid (own_below Ob0.out c)
  replace t0 := (c.cell (p := ⟨w.heap.size, 0, none⟩) (by show w.heap.size < _; omega)).trans t0
  replace t1 := (c.cell (p := ⟨w.heap.size, 1, none⟩) (by show w.heap.size < _; omega)).trans t1
  replace p0 := (c.cell (p := ⟨w106.heap.size, 0, none⟩) (by show w106.heap.size < _; omega)).trans p0
  replace p1 := (c.cell (p := ⟨w106.heap.size, 1, none⟩) (by show w106.heap.size < _; omega)).trans p1
  replace HB := Lib.hid (bel_then HB.out c)
  have szw108 := c.size
  clear c
  have Ob1 := Lib.hid ho
  clear ho
  obtain ⟨Ab1, cb1, hxb1, _⟩ := own_rd Ob1.out
  subst hxb1
  go_wp2_with fail
  refine (withinTimeI_c n0 _ l0 _ f1 a2 a3 _ (own_rd Ob0.out) HZ1.out (own_rd Ob1.out)).mono ?_; intro e w109 hh; obtain ⟨xg0, rfl, ho, c⟩ := E1.out _ _ _ hh; clear hh
  have Ig0 := Lib.hid ho.lt
  have Ow0 := Lib.hid (own_below Ow0.out c)
  have Ob0 := Lib.hid (own_below Ob0.out c)
  have Ob1 := Lib.hid (own_below Ob1.out c)
  replace t0 := (c.cell (p := ⟨w.heap.size, 0, none⟩) (by show w.heap.size < _; omega)).trans t0
  replace t1 := (c.cell (p := ⟨w.heap.size, 1, none⟩) (by show w.heap.size < _; omega)).trans t1
  replace p0 := (c.cell (p := ⟨w106.heap.size, 0, none⟩) (by show w106.heap.size < _; omega)).trans p0
  replace p1 := (c.cell (p := ⟨w106.heap.size, 1, none⟩) (by show w106.heap.size < _; omega)).trans p1
  replace HB := Lib.hid (bel_then HB.out c)
  have szw109 := c.size
  clear c
  have Og0 := Lib.hid ho
  clear ho
  go_wp2_with fail
  refine (eqStringS_c _ _ r1 r1 _ (own_rd Og0.out) (own_rd Ow0.out)).mono ?_; rintro e w110 ⟨rfl, c⟩
  have Ow0 := Lib.hid (own_below Ow0.out c)
  have Ob0 := Lib.hid (own_below Ob0.out c)
  have Ob1 := Lib.hid (own_below Ob1.out c)
  have Og0 := Lib.hid (own_below Og0.out c)
  replace t0 := (c.cell (p := ⟨w.heap.size, 0, none⟩) (by show w.heap.size < _; omega)).trans t0
  replace t1 := (c.cell (p := ⟨w.heap.size, 1, none⟩) (by show w.heap.size < _; omega)).trans t1
  replace p0 := (c.cell (p := ⟨w106.heap.size, 0, none⟩) (by show w106.heap.size < _; omega)).trans p0
  replace p1 := (c.cell (p := ⟨w106.heap.size, 1, none⟩) (by show w106.heap.size < _; omega)).trans p1
  replace HB := Lib.hid (bel_then HB.out c)
  have szw110 := c.size
  clear c
  rw [decide_eq_true (rfl : r1 = r1)]
  go_wp2_with fail
  go_region_held3 (fun w' => w'.cell? ⟨w.heap.size, 0, none⟩ = some (.int .i64 n0) ∧ w'.cell? ⟨w.heap.size, 1, none⟩ = some (.slice A0 l0.length c0) ∧ w'.cell? ⟨w106.heap.size, 0, none⟩ = some (.int .i64 n0) ∧ w'.cell? ⟨w106.heap.size, 1, none⟩ = some (.slice Ab0 l0.length cb0)) (first | go_keep | (go_split_ands; refine ⟨?_, ?_, ?_, ?_⟩ <;> (rw [hb1.cell (by simp; omega)]; assumption)))
    (first | (go_at_call 15; refine (toTown_c n0 _ l0 _ (by omega) (rd_below HR0.out (bel_dr HB.out))).mono ?_; rintro e w' ⟨x9, rfl, ho9, hb1⟩; have hbT := hb1; have sT : w110.heap.size ≤ w'.heap.size := hb1.size) | (go_at_call 19; refine (eqTown_c n0 _ _ l0 _ (rd_below (rd_below (own_rd Ob0.out) (bel_dr (Below.refl _ _))) hbT) (own_rd ho9)).mono ?_; rintro e w112 ⟨rfl, hb1⟩; have sE := hb1.size))
  have c : Below w110.heap.size w110 w112 := bel_then (bel_then (bel_dr (Below.refl _ _)) hbT) hb1
  clear hb1 hbT ho9
  have Ow0 := Lib.hid (own_below Ow0.out c)
  have Ob0 := Lib.hid (own_below Ob0.out c)
  have Ob1 := Lib.hid (own_below Ob1.out c)
  have Og0 := Lib.hid (own_below Og0.out c)
  replace t0 := (c.cell (p := ⟨w.heap.size, 0, none⟩) (by show w.heap.size < _; omega)).trans t0
  replace t1 := (c.cell (p := ⟨w.heap.size, 1, none⟩) (by show w.heap.size < _; omega)).trans t1
  replace p0 := (c.cell (p := ⟨w106.heap.size, 0, none⟩) (by show w106.heap.size < _; omega)).trans p0
  replace p1 := (c.cell (p := ⟨w106.heap.size, 1, none⟩) (by show w106.heap.size < _; omega)).trans p1
  replace HB := Lib.hid (bel_then HB.out c)
  have szw112 := c.size
  clear c
  go_wp2_with fail
  refine (toApplianceS_c _ f1 _ (by omega) (rd_below HF1.out HB.out)).mono ?_; rintro e w113 ⟨xc1, rfl, ho, c⟩
  have Ic1 := Lib.hid ho.lt
  have Ow0 := Lib.hid (own_below Ow0.out c)
  have Ob0 := Lib.hid (own_below Ob0.out c)
  have Ob1 := Lib.hid (own_below Ob1.out c)
  have Og0 := Lib.hid (own_below Og0.out c)
  replace t0 := (c.cell (p := ⟨w.heap.size, 0, none⟩) (by show w.heap.size < _; omega)).trans t0
  replace t1 := (c.cell (p := ⟨w.heap.size, 1, none⟩) (by show w.heap.size < _; omega)).trans t1
  replace p0 := (c.cell (p := ⟨w106.heap.size, 0, none⟩) (by show w106.heap.size < _; omega)).trans p0
  replace p1 := (c.cell (p := ⟨w106.heap.size, 1, none⟩) (by show w106.heap.size < _; omega)).trans p1
  replace HB := Lib.hid (bel_then HB.out c)
  have szw113 := c.size
  clear c
  have Oc1 := Lib.hid ho
  clear ho
  go_wp2_with fail
  refine (eqApplianceS_c _ _ f1 f1 _ (own_rd Ob1.out) (own_rd Oc1.out)).mono ?_; rintro e w114 ⟨rfl, c⟩
  have Ow0 := Lib.hid (own_below Ow0.out c)
  have Ob0 := Lib.hid (own_below Ob0.out c)
  have Ob1 := Lib.hid (own_below Ob1.out c)
  have Og0 := Lib.hid (own_below Og0.out c)
  have Oc1 := Lib.hid (own_below Oc1.out c)
  replace t0 := (c.cell (p := ⟨w.heap.size, 0, none⟩) (by show w.heap.size < _; omega)).trans t0
  replace t1 := (c.cell (p := ⟨w.heap.size, 1, none⟩) (by show w.heap.size < _; omega)).trans t1
  replace p0 := (c.cell (p := ⟨w106.heap.size, 0, none⟩) (by show w106.heap.size < _; omega)).trans p0
  replace p1 := (c.cell (p := ⟨w106.heap.size, 1, none⟩) (by show w106.heap.size < _; omega)).trans p1
  replace HB := Lib.hid (bel_then HB.out c)
  have szw114 := c.size
  clear c
  rw [decide_eq_true (rfl : f1 = f1)]
  go_wp2_with fail
  clear Oc1
  refine (markTown_c n0 _ _ l0.length _ _ _ Ob0.out (by omega) (by omega) (by omega)).mono ?_; rintro e w115 ⟨rfl, gr⟩
  have Ow0 := Lib.hid (kept2 Ow0.out gr (fun q q' e e' => by have := Iw0.out q e; have := Ib0.out q' e'; omega))
  have Ob1 := Lib.hid (kept2 Ob1.out gr (fun q q' e e' => by have := Ib1.out q e; have := Ib0.out q' e'; omega))
  have Og0 := Lib.hid (kept2 Og0.out gr (fun q q' e e' => by have := Ig0.out q e; have := Ib0.out q' e'; omega))
  replace t0 := (cell_mark gr (o := 0) (x := w.heap.size) (by omega) (fun q' e' => by have := Ib0.out q' e'; omega)).trans t0
  replace t1 := (cell_mark gr (o := 1) (x := w.heap.size) (by omega) (fun q' e' => by have := Ib0.out q' e'; omega)).trans t1
  replace p0 := (cell_mark gr (o := 0) (x := w106.heap.size) (by omega) (fun q' e' => by have := Ib0.out q' e'; omega)).trans p0
  replace p1 := (cell_mark gr (o := 1) (x := w106.heap.size) (by omega) (fun q' e' => by have := Ib0.out q' e'; omega)).trans p1
  replace HB := Lib.hid (bel_mark HB.out HB.out.size gr (fun q' e' => by have := Ib0.out q' e'; omega))
  have szw115 := gr.size
  clear gr
  clear Ob0
  go_wp2_with fail
  refine (markApplianceS_c _ f1 _ _ _ Ob1.out (by omega) (by omega) (by omega)).mono ?_; rintro e w116 ⟨rfl, _, gr⟩
  have Ow0 := Lib.hid (kept2 Ow0.out gr (fun q q' e e' => by have := Iw0.out q e; have := Ib1.out q' e'; omega))
  have Og0 := Lib.hid (kept2 Og0.out gr (fun q q' e e' => by have := Ig0.out q e; have := Ib1.out q' e'; omega))
  replace t0 := (cell_mark gr (o := 0) (x := w.heap.size) (by omega) (fun q' e' => by have := Ib1.out q' e'; omega)).trans t0
  replace t1 := (cell_mark gr (o := 1) (x := w.heap.size) (by omega) (fun q' e' => by have := Ib1.out q' e'; omega)).trans t1
  replace HB := Lib.hid (bel_mark HB.out HB.out.size gr (fun q' e' => by have := Ib1.out q' e'; omega))
  have szw116 := gr.size
  clear gr
  clear Ob1
  go_wp2_with fail
  refine (eqStringS_c _ _ r1 r1 _ (own_rd Og0.out) (own_rd Ow0.out)).mono ?_; rintro e w117 ⟨rfl, c⟩
  have Ow0 := Lib.hid (own_below Ow0.out c)
  have Og0 := Lib.hid (own_below Og0.out c)
  replace t0 := (c.cell (p := ⟨w.heap.size, 0, none⟩) (by show w.heap.size < _; omega)).trans t0
  replace t1 := (c.cell (p := ⟨w.heap.size, 1, none⟩) (by show w.heap.size < _; omega)).trans t1
  replace HB := Lib.hid (bel_then HB.out c)
  have szw117 := c.size
  clear c
  rw [decide_eq_true (rfl : r1 = r1)]
  go_wp2_with fail
  refine (markStringS_c _ r1 _ _ _ Og0.out (by omega) (by omega) (by omega)).mono ?_; rintro e w118 ⟨rfl, hom, gr⟩
  have Ow0 := Lib.hid (kept2 Ow0.out gr (fun q q' e e' => by have := Iw0.out q e; have := Ig0.out q' e'; omega))
  replace t0 := (cell_mark gr (o := 0) (x := w.heap.size) (by omega) (fun q' e' => by have := Ig0.out q' e'; omega)).trans t0
  replace t1 := (cell_mark gr (o := 1) (x := w.heap.size) (by omega) (fun q' e' => by have := Ig0.out q' e'; omega)).trans t1
  replace HB := Lib.hid (bel_mark HB.out HB.out.size gr (fun q' e' => by have := Ig0.out q' e'; omega))
  have szw118 := gr.size
  clear gr
  replace Og0 := Lib.hid hom
  clear hom
  go_wp2_with fail
  refine (heldStringS_c _ _ r1.length _ (own_rd Og0.out) (by omega) (by omega) (by omega)).mono ?_; rintro e w119 ⟨rfl, c⟩
  have Ow0 := Lib.hid (own_below Ow0.out c)
  have Og0 := Lib.hid (own_below Og0.out c)
  replace t0 := (c.cell (p := ⟨w.heap.size, 0, none⟩) (by show w.heap.size < _; omega)).trans t0
  replace t1 := (c.cell (p := ⟨w.heap.size, 1, none⟩) (by show w.heap.size < _; omega)).trans t1
  replace HB := Lib.hid (bel_then HB.out c)
  have szw119 := c.size
  clear c
  go_wp2_with fail
  refine (toTown_c n0 _ l0 _ (by omega) (rd_below HR0.out HB.out)).mono ?_; rintro e w120 ⟨xd0, rfl, ho, c⟩
  have Id0 := Lib.hid ho.lt
  have Ow0 := Lib.hid (own_below Ow0.out c)
  have Og0 := Lib.hid (own_below Og0.out c)
  replace t0 := (c.cell (p := ⟨w.heap.size, 0, none⟩) (by show w.heap.size < _; omega)).trans t0
  replace t1 := (c.cell (p := ⟨w.heap.size, 1, none⟩) (by show w.heap.size < _; omega)).trans t1
  replace HB := Lib.hid (bel_then HB.out c)
  have szw120 := c.size
  clear c
  have Od0 := Lib.hid ho
  clear ho
  go_wp2_with fail
  refine (toApplianceS_c _ f1 _ (by omega) (rd_below HF1.out HB.out)).mono ?_; rintro e w121 ⟨xd1, rfl, ho, c⟩
  have Id1 := Lib.hid ho.lt
  have Ow0 := Lib.hid (own_below Ow0.out c)
  have Og0 := Lib.hid (own_below Og0.out c)
  have Od0 := Lib.hid (own_below Od0.out c)
  replace t0 := (c.cell (p := ⟨w.heap.size, 0, none⟩) (by show w.heap.size < _; omega)).trans t0
  replace t1 := (c.cell (p := ⟨w.heap.size, 1, none⟩) (by show w.heap.size < _; omega)).trans t1
  replace HB := Lib.hid (bel_then HB.out c)
  have szw121 := c.size
  clear c
  have Od1 := Lib.hid ho
  clear ho
  go_wp2_with fail
  refine (withinTimeI_c n0 _ l0 _ f1 a2 a3 _ (own_rd Od0.out) HZ1.out (own_rd Od1.out)).mono ?_; intro e w122 hh; obtain ⟨xh0, rfl, ho, c⟩ := E1.out _ _ _ hh; clear hh
  have Ih0 := Lib.hid ho.lt
  have Ow0 := Lib.hid (own_below Ow0.out c)
  have Og0 := Lib.hid (own_below Og0.out c)
  have Od0 := Lib.hid (own_below Od0.out c)
  have Od1 := Lib.hid (own_below Od1.out c)
  replace t0 := (c.cell (p := ⟨w.heap.size, 0, none⟩) (by show w.heap.size < _; omega)).trans t0
  replace t1 := (c.cell (p := ⟨w.heap.size, 1, none⟩) (by show w.heap.size < _; omega)).trans t1
  replace HB := Lib.hid (bel_then HB.out c)
  have szw122 := c.size
  clear c
  have Oh0 := Lib.hid ho
  clear ho
  go_wp2_with fail
  refine (eqStringS_c _ _ r1 r1 _ (own_rd Oh0.out) (own_rd Ow0.out)).mono ?_; rintro e w123 ⟨rfl, c⟩
  have Ow0 := Lib.hid (own_below Ow0.out c)
  have Og0 := Lib.hid (own_below Og0.out c)
  have Od0 := Lib.hid (own_below Od0.out c)
  have Od1 := Lib.hid (own_below Od1.out c)
  have Oh0 := Lib.hid (own_below Oh0.out c)
  replace t0 := (c.cell (p := ⟨w.heap.size, 0, none⟩) (by show w.heap.size < _; omega)).trans t0
  replace t1 := (c.cell (p := ⟨w.heap.size, 1, none⟩) (by show w.heap.size < _; omega)).trans t1
  replace HB := Lib.hid (bel_then HB.out c)
  have szw123 := c.size
  clear c
  rw [decide_eq_true (rfl : r1 = r1)]
  go_wp2_with fail
  refine (heldStringS_c _ _ r1.length _ (own_rd Og0.out) (by omega) (by omega) (by omega)).mono ?_; rintro e w124 ⟨rfl, c⟩
  have Ow0 := Lib.hid (own_below Ow0.out c)
  have Og0 := Lib.hid (own_below Og0.out c)
  have Od0 := Lib.hid (own_below Od0.out c)
  have Od1 := Lib.hid (own_below Od1.out c)
  have Oh0 := Lib.hid (own_below Oh0.out c)
  replace t0 := (c.cell (p := ⟨w.heap.size, 0, none⟩) (by show w.heap.size < _; omega)).trans t0
  replace t1 := (c.cell (p := ⟨w.heap.size, 1, none⟩) (by show w.heap.size < _; omega)).trans t1
  replace HB := Lib.hid (bel_then HB.out c)
  have szw124 := c.size
  clear c
  go_wp2
  go_ret
  exact ⟨rfl, HB.out⟩
end Go.Proofs.Ytcpchdbhpcebeaa
