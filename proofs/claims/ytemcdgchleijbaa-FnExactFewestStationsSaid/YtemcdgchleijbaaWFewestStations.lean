/-
  The walk of the law of FewestStations.
-/
import Derived.Test.YtemcdgchleijbaaFewM
import Derived.Test.YtemcdgchleijbaaLaw
import Derived.Test.YtemcdgchleijbaaTownV
import Derived.Test.YtemcdgchleijbaaIntsC
namespace Go.Proofs.Ytemcdgchleijbaa
open Go.RowKit

set_option maxRecDepth 100000 in
set_option maxHeartbeats 4000000 in
theorem walk_FnExactFewestStations (w : World) (n0 : Int) (s0 : Value) (l0 : List St) (hr0 : Rd w s0 l0.length (l0.flatMap St.cells)) (a1 : Int) :
    Calls Try.prog 7 #[.agg #[.int .i64 n0, s0], .int .i64 a1] w fun en w' => en = .returned (.bool true) ∧ Below w.heap.size w w' := by
  have HR0 := Lib.hid hr0
  obtain ⟨A0, c0, rfl, _⟩ := hr0
  by_cases hbt0 : (1048576 : Int) < l0.length
  · go_enter Try.func7, Try.ntmps7
    go_wp2_with (go_at_call 15; refine (szTown_big _ _ l0 _ _ (by omega) (by omega) (rd_below HR0.out (bel_al (Below.refl _ _) _)) (by omega)).mono ?_; rintro e w' ⟨rfl, hb1⟩)
    go_ret
    exact ⟨rfl, bel_then (bel_al (Below.refl _ _) _) hb1⟩
  have hgl := fewestStationsV_len n0 l0 a1
  obtain ⟨r1, hr1⟩ : ∃ r1, (fewestStationsV n0 l0 a1).1 = r1 := ⟨_, rfl⟩
  obtain ⟨r2, hr2⟩ : ∃ r2, (fewestStationsV n0 l0 a1).2 = r2 := ⟨_, rfl⟩
  rw [hr1] at hgl
  have e1 : ∀ (W : World) (e : Ending) (W' : World), OwnIB (fewestStationsV n0 l0 a1) W e W' → ∃ x, e = .returned (.tuple #[x, .bool r2]) ∧ W'.ownsRow W.heap.size 3 1 x r1.length (ints r1) ∧ Below W.heap.size W W' := by
    rintro W e W' ⟨x, h1, h2, h3⟩
    rw [hr1] at h2
    rw [hr2] at h1
    exact ⟨x, h1, h2, h3⟩
  have E1 := Lib.hid e1
  clear e1 hr1 hr2
  go_enter Try.func7, Try.ntmps7
  go_wp2_with fail
  generalize hw1 : World.alloc w _ = w100
  have t0 : w100.cell? ⟨w.heap.size, 0, none⟩ = some (.int .i64 n0) := by subst hw1; simp [go_sem]
  have t1 : w100.cell? ⟨w.heap.size, 1, none⟩ = some (.slice A0 l0.length c0) := by subst hw1; simp [go_sem]
  have HB : Hid (Below w.heap.size w w100) := Lib.hid (by subst hw1; exact bel_al (Below.refl _ _) _)
  have szw100 : w.heap.size < w100.heap.size := by subst hw1; simp
  clear hw1
  refine (szTown_fits _ _ l0 _ _ (by omega) (rd_below HR0.out HB.out) (by omega)).mono ?_; rintro e w101 ⟨rfl, c⟩
  replace t0 := (c.cell (p := ⟨w.heap.size, 0, none⟩) (by show w.heap.size < _; omega)).trans t0
  replace t1 := (c.cell (p := ⟨w.heap.size, 1, none⟩) (by show w.heap.size < _; omega)).trans t1
  replace HB := Lib.hid (bel_then HB.out c)
  have szw101 := c.size
  clear c
  go_wp2_with fail
  refine (toTown_c n0 _ l0 _ (by omega) (rd_below HR0.out HB.out)).mono ?_; rintro e w102 ⟨xa0, rfl, ho, c⟩
  have Ia0 := Lib.hid ho.lt
  replace t0 := (c.cell (p := ⟨w.heap.size, 0, none⟩) (by show w.heap.size < _; omega)).trans t0
  replace t1 := (c.cell (p := ⟨w.heap.size, 1, none⟩) (by show w.heap.size < _; omega)).trans t1
  replace HB := Lib.hid (bel_then HB.out c)
  have szw102 := c.size
  clear c
  have Oa0 := Lib.hid ho
  clear ho
  go_wp2_with fail
  refine (fewestStationsS_c n0 _ l0 a1 _ (own_rd Oa0.out)).mono ?_; intro e w103 hh; obtain ⟨xw0, rfl, ho, c⟩ := E1.out _ _ _ hh; clear hh
  have Iw0 := Lib.hid ho.lt
  have Oa0 := Lib.hid (own_below Oa0.out c)
  replace t0 := (c.cell (p := ⟨w.heap.size, 0, none⟩) (by show w.heap.size < _; omega)).trans t0
  replace t1 := (c.cell (p := ⟨w.heap.size, 1, none⟩) (by show w.heap.size < _; omega)).trans t1
  replace HB := Lib.hid (bel_then HB.out c)
  have szw103 := c.size
  clear c
  have Ow0 := Lib.hid ho
  clear ho
  go_wp2_with fail
  clear Oa0
  refine (toTown_c n0 _ l0 _ (by omega) (rd_below HR0.out HB.out)).mono ?_; rintro e w104 ⟨xb0, rfl, ho, c⟩
  have Ib0 := Lib.hid ho.lt
  have Ow0 := Lib.hid (own_below Ow0.out c)
  replace t0 := (c.cell (p := ⟨w.heap.size, 0, none⟩) (by show w.heap.size < _; omega)).trans t0
  replace t1 := (c.cell (p := ⟨w.heap.size, 1, none⟩) (by show w.heap.size < _; omega)).trans t1
  replace HB := Lib.hid (bel_then HB.out c)
  have szw104 := c.size
  clear c
  have Ob0 := Lib.hid ho
  clear ho
  obtain ⟨Ab0, cb0, hxb0, _⟩ := own_rd Ob0.out
  subst hxb0
  go_wp2_with fail
  generalize hW7 : World.alloc w104 _ = w105
  have p0 : w105.cell? ⟨w104.heap.size, 0, none⟩ = some (.int .i64 n0) := by subst hW7; simp [go_sem]
  have p1 : w105.cell? ⟨w104.heap.size, 1, none⟩ = some (.slice Ab0 l0.length cb0) := by subst hW7; simp [go_sem]
  have c : Below w104.heap.size w104 w105 := by subst hW7; exact bel_al (Below.refl _ _) _
  have szx : w104.heap.size < w105.heap.size := by subst hW7; simp
  clear hW7
  have Ow0 := Lib.hid (own_below Ow0.out c)
  have Ob0 := Lib.hid (own_below Ob0.out c)
  replace t0 := (c.cell (p := ⟨w.heap.size, 0, none⟩) (by show w.heap.size < _; omega)).trans t0
  replace t1 := (c.cell (p := ⟨w.heap.size, 1, none⟩) (by show w.heap.size < _; omega)).trans t1
  replace HB := Lib.hid (bel_then HB.out c)
  have szw105 := c.size
  clear c
  refine (fewestStationsI_c n0 _ l0 a1 _ (own_rd Ob0.out)).mono ?_; intro e w106 hh; obtain ⟨xg0, rfl, ho, c⟩ := E1.out _ _ _ hh; clear hh
  have Ig0 := Lib.hid ho.lt
  have Ow0 := Lib.hid (own_below Ow0.out c)
  have Ob0 := Lib.hid (own_below Ob0.out c)
  replace t0 := (c.cell (p := ⟨w.heap.size, 0, none⟩) (by show w.heap.size < _; omega)).trans t0
  replace t1 := (c.cell (p := ⟨w.heap.size, 1, none⟩) (by show w.heap.size < _; omega)).trans t1
  replace p0 := (c.cell (p := ⟨w104.heap.size, 0, none⟩) (by show w104.heap.size < _; omega)).trans p0
  replace p1 := (c.cell (p := ⟨w104.heap.size, 1, none⟩) (by show w104.heap.size < _; omega)).trans p1
  replace HB := Lib.hid (bel_then HB.out c)
  have szw106 := c.size
  clear c
  have Og0 := Lib.hid ho
  clear ho
  go_wp2_with fail
  refine (eqIntS_c _ _ r1 r1 _ (rdi_own Og0.out) (rdi_own Ow0.out)).mono ?_; rintro e w107 ⟨rfl, c⟩
  have Ow0 := Lib.hid (own_below Ow0.out c)
  have Ob0 := Lib.hid (own_below Ob0.out c)
  have Og0 := Lib.hid (own_below Og0.out c)
  replace t0 := (c.cell (p := ⟨w.heap.size, 0, none⟩) (by show w.heap.size < _; omega)).trans t0
  replace t1 := (c.cell (p := ⟨w.heap.size, 1, none⟩) (by show w.heap.size < _; omega)).trans t1
  replace p0 := (c.cell (p := ⟨w104.heap.size, 0, none⟩) (by show w104.heap.size < _; omega)).trans p0
  replace p1 := (c.cell (p := ⟨w104.heap.size, 1, none⟩) (by show w104.heap.size < _; omega)).trans p1
  replace HB := Lib.hid (bel_then HB.out c)
  have szw107 := c.size
  clear c
  go_wp2_with fail
  go_region_held3 (fun w' => w'.cell? ⟨w.heap.size, 0, none⟩ = some (.int .i64 n0) ∧ w'.cell? ⟨w.heap.size, 1, none⟩ = some (.slice A0 l0.length c0) ∧ w'.cell? ⟨w104.heap.size, 0, none⟩ = some (.int .i64 n0) ∧ w'.cell? ⟨w104.heap.size, 1, none⟩ = some (.slice Ab0 l0.length cb0)) (first | go_keep | (go_split_ands; refine ⟨?_, ?_, ?_, ?_⟩ <;> (rw [hb1.cell (by simp; omega)]; assumption)))
    (first | (go_at_call 17; refine (toTown_c n0 _ l0 _ (by omega) (rd_below HR0.out (bel_dr HB.out))).mono ?_; rintro e w' ⟨x9, rfl, ho9, hb1⟩; have hbT := hb1; have sT : w107.heap.size ≤ w'.heap.size := hb1.size) | (go_at_call 20; refine (eqTown_c n0 _ _ l0 _ (rd_below (rd_below (own_rd Ob0.out) (bel_dr (Below.refl _ _))) hbT) (own_rd ho9)).mono ?_; rintro e w109 ⟨rfl, hb1⟩; have sE := hb1.size))
  have c : Below w107.heap.size w107 w109 := bel_then (bel_then (bel_dr (Below.refl _ _)) hbT) hb1
  clear hb1 hbT ho9
  have Ow0 := Lib.hid (own_below Ow0.out c)
  have Ob0 := Lib.hid (own_below Ob0.out c)
  have Og0 := Lib.hid (own_below Og0.out c)
  replace t0 := (c.cell (p := ⟨w.heap.size, 0, none⟩) (by show w.heap.size < _; omega)).trans t0
  replace t1 := (c.cell (p := ⟨w.heap.size, 1, none⟩) (by show w.heap.size < _; omega)).trans t1
  replace p0 := (c.cell (p := ⟨w104.heap.size, 0, none⟩) (by show w104.heap.size < _; omega)).trans p0
  replace p1 := (c.cell (p := ⟨w104.heap.size, 1, none⟩) (by show w104.heap.size < _; omega)).trans p1
  replace HB := Lib.hid (bel_then HB.out c)
  have szw109 := c.size
  clear c
  go_wp2_with fail
  refine (markTown_c n0 _ _ l0.length _ _ _ Ob0.out (by omega) (by omega) (by omega)).mono ?_; rintro e w110 ⟨rfl, gr⟩
  have Ow0 := Lib.hid (kept2 Ow0.out gr (fun q q' e e' => by have := Iw0.out q e; have := Ib0.out q' e'; omega))
  have Og0 := Lib.hid (kept2 Og0.out gr (fun q q' e e' => by have := Ig0.out q e; have := Ib0.out q' e'; omega))
  replace t0 := (cell_mark gr (o := 0) (x := w.heap.size) (by omega) (fun q' e' => by have := Ib0.out q' e'; omega)).trans t0
  replace t1 := (cell_mark gr (o := 1) (x := w.heap.size) (by omega) (fun q' e' => by have := Ib0.out q' e'; omega)).trans t1
  replace p0 := (cell_mark gr (o := 0) (x := w104.heap.size) (by omega) (fun q' e' => by have := Ib0.out q' e'; omega)).trans p0
  replace p1 := (cell_mark gr (o := 1) (x := w104.heap.size) (by omega) (fun q' e' => by have := Ib0.out q' e'; omega)).trans p1
  replace HB := Lib.hid (bel_mark HB.out HB.out.size gr (fun q' e' => by have := Ib0.out q' e'; omega))
  have szw110 := gr.size
  clear gr
  clear Ob0
  go_wp2_with fail
  refine (eqIntS_c _ _ r1 r1 _ (rdi_own Og0.out) (rdi_own Ow0.out)).mono ?_; rintro e w111 ⟨rfl, c⟩
  have Ow0 := Lib.hid (own_below Ow0.out c)
  have Og0 := Lib.hid (own_below Og0.out c)
  replace t0 := (c.cell (p := ⟨w.heap.size, 0, none⟩) (by show w.heap.size < _; omega)).trans t0
  replace t1 := (c.cell (p := ⟨w.heap.size, 1, none⟩) (by show w.heap.size < _; omega)).trans t1
  replace HB := Lib.hid (bel_then HB.out c)
  have szw111 := c.size
  clear c
  go_wp2_with fail
  refine (markIntS_c _ r1 _ _ r1.length _ Og0.out (by omega) (by omega) (by omega)).mono ?_; rintro e w112 ⟨rfl, hom, gr⟩
  have Ow0 := Lib.hid (kept2 Ow0.out gr (fun q q' e e' => by have := Iw0.out q e; have := Ig0.out q' e'; omega))
  replace t0 := (cell_mark gr (o := 0) (x := w.heap.size) (by omega) (fun q' e' => by have := Ig0.out q' e'; omega)).trans t0
  replace t1 := (cell_mark gr (o := 1) (x := w.heap.size) (by omega) (fun q' e' => by have := Ig0.out q' e'; omega)).trans t1
  replace HB := Lib.hid (bel_mark HB.out HB.out.size gr (fun q' e' => by have := Ig0.out q' e'; omega))
  have szw112 := gr.size
  clear gr
  replace Og0 := Lib.hid hom
  clear hom
  go_wp2_with fail
  refine (heldIntS_c _ _ r1.length _ (rdi_own Og0.out) (by omega) (by omega) (by omega)).mono ?_; rintro e w113 ⟨rfl, c⟩
  have Ow0 := Lib.hid (own_below Ow0.out c)
  have Og0 := Lib.hid (own_below Og0.out c)
  replace t0 := (c.cell (p := ⟨w.heap.size, 0, none⟩) (by show w.heap.size < _; omega)).trans t0
  replace t1 := (c.cell (p := ⟨w.heap.size, 1, none⟩) (by show w.heap.size < _; omega)).trans t1
  replace HB := Lib.hid (bel_then HB.out c)
  have szw113 := c.size
  clear c
  go_wp2_with fail
  refine (toTown_c n0 _ l0 _ (by omega) (rd_below HR0.out HB.out)).mono ?_; rintro e w114 ⟨xd0, rfl, ho, c⟩
  have Id0 := Lib.hid ho.lt
  have Ow0 := Lib.hid (own_below Ow0.out c)
  have Og0 := Lib.hid (own_below Og0.out c)
  replace t0 := (c.cell (p := ⟨w.heap.size, 0, none⟩) (by show w.heap.size < _; omega)).trans t0
  replace t1 := (c.cell (p := ⟨w.heap.size, 1, none⟩) (by show w.heap.size < _; omega)).trans t1
  replace HB := Lib.hid (bel_then HB.out c)
  have szw114 := c.size
  clear c
  have Od0 := Lib.hid ho
  clear ho
  go_wp2_with fail
  refine (fewestStationsI_c n0 _ l0 a1 _ (own_rd Od0.out)).mono ?_; intro e w115 hh; obtain ⟨xh0, rfl, ho, c⟩ := E1.out _ _ _ hh; clear hh
  have Ih0 := Lib.hid ho.lt
  have Ow0 := Lib.hid (own_below Ow0.out c)
  have Og0 := Lib.hid (own_below Og0.out c)
  have Od0 := Lib.hid (own_below Od0.out c)
  replace t0 := (c.cell (p := ⟨w.heap.size, 0, none⟩) (by show w.heap.size < _; omega)).trans t0
  replace t1 := (c.cell (p := ⟨w.heap.size, 1, none⟩) (by show w.heap.size < _; omega)).trans t1
  replace HB := Lib.hid (bel_then HB.out c)
  have szw115 := c.size
  clear c
  have Oh0 := Lib.hid ho
  clear ho
  go_wp2_with fail
  refine (eqIntS_c _ _ r1 r1 _ (rdi_own Oh0.out) (rdi_own Ow0.out)).mono ?_; rintro e w116 ⟨rfl, c⟩
  have Ow0 := Lib.hid (own_below Ow0.out c)
  have Og0 := Lib.hid (own_below Og0.out c)
  have Od0 := Lib.hid (own_below Od0.out c)
  have Oh0 := Lib.hid (own_below Oh0.out c)
  replace t0 := (c.cell (p := ⟨w.heap.size, 0, none⟩) (by show w.heap.size < _; omega)).trans t0
  replace t1 := (c.cell (p := ⟨w.heap.size, 1, none⟩) (by show w.heap.size < _; omega)).trans t1
  replace HB := Lib.hid (bel_then HB.out c)
  have szw116 := c.size
  clear c
  go_wp2_with fail
  refine (heldIntS_c _ _ r1.length _ (rdi_own Og0.out) (by omega) (by omega) (by omega)).mono ?_; rintro e w117 ⟨rfl, c⟩
  have Ow0 := Lib.hid (own_below Ow0.out c)
  have Og0 := Lib.hid (own_below Og0.out c)
  have Od0 := Lib.hid (own_below Od0.out c)
  have Oh0 := Lib.hid (own_below Oh0.out c)
  replace t0 := (c.cell (p := ⟨w.heap.size, 0, none⟩) (by show w.heap.size < _; omega)).trans t0
  replace t1 := (c.cell (p := ⟨w.heap.size, 1, none⟩) (by show w.heap.size < _; omega)).trans t1
  replace HB := Lib.hid (bel_then HB.out c)
  have szw117 := c.size
  clear c
  go_wp2
  go_ret
  exact ⟨rfl, HB.out⟩
end Go.Proofs.Ytemcdgchleijbaa
