/-
  The walk of the law of SendChoice. (joined by pack.py: WSendChoice)
-/
import Derived.Test.YtddccjdppbcnbaaGreatK24
import Derived.Test.YtddccjdppbcnbaaGreatK8
import Derived.Test.YtddccjdppbcnbaaGreatK25
import Derived.Test.YtddccjdppbcnbaaGreatK6
import Derived.Test.YtddccjdppbcnbaaGreatK27
import Derived.Test.YtddccjdppbcnbaaGreatK9
import Derived.Test.YtddccjdppbcnbaaGreatK28
namespace Go.Proofs.YtddccjdppbcnbaaGreat
set_option linter.unusedVariables false
set_option linter.unusedSimpArgs false
open Go.RowKit

set_option maxRecDepth 100000 in
set_option maxHeartbeats 4000000 in
theorem walk_FnExactSendChoice (w : World) (n0 : Int) (s0 : Value) (l0 : List St) (hr0 : Rd w s0 l0.length (l0.flatMap St.cells)) (v1 : Value) (f1 : List Ap) (hz1 : ∀ x ∈ f1, x.nm.size ≤ 9223372036854775807) (hf1 : Rd w v1 f1.length (f1.flatMap Ap.cells)) (a2 : Int) (v3 : Value) (q3 : List Int) (hq3 : RdI w v3 q3) :
    Calls Tryz.prog 3 #[.agg #[.int .i64 n0, s0], v1, .int .i64 a2, v3] w fun en w' => en = .returned (.bool true) ∧ Below w.heap.size w w' := by
  have HR0 := Lib.hid hr0
  obtain ⟨A0, c0, rfl, _⟩ := hr0
  have HQ3 := Lib.hid hq3
  obtain ⟨A3, c3, rfl, _⟩ := hq3
  have HZ1 := Lib.hid hz1
  have HF1 := Lib.hid hf1
  obtain ⟨AA1, cc1, rfl, _⟩ := hf1
  clear hz1
  by_cases hbq3 : (1048576 : Int) < q3.length
  · go_enter Tryz.func3, Tryz.ntmps3
    go_wp2
    go_ret
    exact ⟨rfl, (by repeat (first | exact Below.refl _ _ | assumption | refine bel_al ?_ _ | refine bel_dr ?_ | refine below_drewN ?_ _ | refine bel_then ?_ (by assumption)))⟩
  by_cases hbt0 : (1048576 : Int) < l0.length
  · go_enter Tryz.func3, Tryz.ntmps3
    go_wp2_with (go_at_call 4; refine (szTown_big _ _ l0 _ _ (by omega) (by omega) (rd_below HR0.out (bel_al (Below.refl _ _) _)) (by omega)).mono ?_; rintro e w' ⟨rfl, hb1⟩)
    go_ret
    exact ⟨rfl, bel_then (bel_al (Below.refl _ _) _) hb1⟩
  have hgl := sendChoiceV_len n0 l0 f1 a2 q3
  obtain ⟨r1, hr1⟩ : ∃ r1, (sendChoiceV n0 l0 f1 a2 q3).1 = r1 := ⟨_, rfl⟩
  obtain ⟨r3, hr3⟩ : ∃ r3, (sendChoiceV n0 l0 f1 a2 q3).2.1 = r3 := ⟨_, rfl⟩
  obtain ⟨r2, hr2⟩ : ∃ r2, (sendChoiceV n0 l0 f1 a2 q3).2.2 = r2 := ⟨_, rfl⟩
  rw [hr1, hr3] at hgl
  obtain ⟨hgl, hgl3⟩ := hgl
  have e1 : ∀ (W : World) (e : Ending) (W' : World), Own2V (sendChoiceV n0 l0 f1 a2 q3) W e W' → ∃ x y, e = .returned (.tuple #[x, y, .bool r2]) ∧ W'.ownsRow W.heap.size 60 5 x r1.length (r1.flatMap Ap.cells) ∧ W'.ownsRow W.heap.size 9 1 y r3.length (strs r3) ∧ Sep x y ∧ Below W.heap.size W W' := by
    rintro W e W' ⟨x, y, h1, h2, h3, h4, h5⟩
    rw [hr1] at h2
    rw [hr3] at h3
    rw [hr2] at h1
    exact ⟨x, y, h1, h2, h3, h4, h5⟩
  have E1 := Lib.hid e1
  clear e1 hr1 hr2 hr3
  go_enter Tryz.func3, Tryz.ntmps3
  go_wp2_with fail
  generalize hw1 : World.alloc w _ = w100
  have t0 : w100.cell? ⟨w.heap.size, 0, none⟩ = some (.int .i64 n0) := by subst hw1; simp [go_sem]
  have t1 : w100.cell? ⟨w.heap.size, 1, none⟩ = some (.slice A0 l0.length c0) := by subst hw1; simp [go_sem]
  have HB : Hid (Below w.heap.size w w100) := Lib.hid (by subst hw1; exact bel_al (Below.refl _ _) _)
  have szw100 : w.heap.size < w100.heap.size := by subst hw1; simp
  clear hw1
  refine (szTown_fits _ _ l0 _ _ (by omega) (rd_below HR0.out HB.out) (by omega)).mono ?_; rintro e w101 ⟨rfl, c⟩
  replace t0 := (c.cell (p := ⟨w.heap.size, 0, none⟩) (by show w.heap.size < _; omega)).trans t0
  replace t1 := (c.cell (p := ⟨w.heap.size, 1, none⟩) (by show w.heap.size < _; omega)).trans t1
  replace HB := Lib.hid (bel_then HB.out c)
  have szw101 := c.size
  clear c
  go_wp2_with fail
  refine (szApplianceS_c _ f1 _ _ (by omega) (by omega) HZ1.out (rd_below HF1.out HB.out)).mono ?_; rintro e w102 ⟨rz1, rfl, c, hrz1⟩
  replace t0 := (c.cell (p := ⟨w.heap.size, 0, none⟩) (by show w.heap.size < _; omega)).trans t0
  replace t1 := (c.cell (p := ⟨w.heap.size, 1, none⟩) (by show w.heap.size < _; omega)).trans t1
  replace HB := Lib.hid (bel_then HB.out c)
  have szw102 := c.size
  clear c
  rcases hrz1 with rfl | ⟨hrz01, hrz11, hrzl1⟩
  · go_wp2
    go_ret
    exact ⟨rfl, HB.out⟩
  go_wp2_with fail
  refine (toTown_c n0 _ l0 _ (by omega) (rd_below HR0.out HB.out)).mono ?_; rintro e w103 ⟨xa0, rfl, ho, c⟩
  have Ia0 := Lib.hid ho.lt
  replace t0 := (c.cell (p := ⟨w.heap.size, 0, none⟩) (by show w.heap.size < _; omega)).trans t0
  replace t1 := (c.cell (p := ⟨w.heap.size, 1, none⟩) (by show w.heap.size < _; omega)).trans t1
  replace HB := Lib.hid (bel_then HB.out c)
  have szw103 := c.size
  clear c
  have Oa0 := Lib.hid ho
  clear ho
  go_wp2_with fail
  refine (toApplianceS_c _ f1 _ (by omega) (rd_below HF1.out HB.out)).mono ?_; rintro e w104 ⟨xa1, rfl, ho, c⟩
  have Ia1 := Lib.hid ho.lt
  have Oa0 := Lib.hid (own_below Oa0.out c)
  replace t0 := (c.cell (p := ⟨w.heap.size, 0, none⟩) (by show w.heap.size < _; omega)).trans t0
  replace t1 := (c.cell (p := ⟨w.heap.size, 1, none⟩) (by show w.heap.size < _; omega)).trans t1
  replace HB := Lib.hid (bel_then HB.out c)
  have szw104 := c.size
  clear c
  have Oa1 := Lib.hid ho
  clear ho
  go_wp2_with fail
  refine (toIntS_c _ q3 _ (by omega) (rdi_below HQ3.out HB.out)).mono ?_; rintro e w105 ⟨xa3, rfl, ho, c⟩
  have Ia3 := Lib.hid ho.lt
  have Oa0 := Lib.hid (own_below Oa0.out c)
  have Oa1 := Lib.hid (own_below Oa1.out c)
  replace t0 := (c.cell (p := ⟨w.heap.size, 0, none⟩) (by show w.heap.size < _; omega)).trans t0
  replace t1 := (c.cell (p := ⟨w.heap.size, 1, none⟩) (by show w.heap.size < _; omega)).trans t1
  replace HB := Lib.hid (bel_then HB.out c)
  have szw105 := c.size
  clear c
  have Oa3 := Lib.hid ho
  clear ho
  go_wp2_with fail
  refine (sendChoiceS_c n0 _ l0 _ f1 a2 _ q3 _ (own_rd Oa0.out) HZ1.out (own_rd Oa1.out) (rdi_own Oa3.out)).mono ?_; intro e w106 hh; obtain ⟨xw0, xw0y, rfl, ho, ho2, hsp, c⟩ := E1.out _ _ _ hh; clear hh
  have Iw0 := Lib.hid ho.lt
  have Iw0y := Lib.hid ho2.lt
  have SPw0 := Lib.hid hsp
  clear hsp
  have Oa0 := Lib.hid (own_below Oa0.out c)
  have Oa1 := Lib.hid (own_below Oa1.out c)
  have Oa3 := Lib.hid (own_below Oa3.out c)
  replace t0 := (c.cell (p := ⟨w.heap.size, 0, none⟩) (by show w.heap.size < _; omega)).trans t0
  replace t1 := (c.cell (p := ⟨w.heap.size, 1, none⟩) (by show w.heap.size < _; omega)).trans t1
  replace HB := Lib.hid (bel_then HB.out c)
  have szw106 := c.size
  clear c
  have Ow0 := Lib.hid ho
  have Ow0y := Lib.hid ho2
  clear ho ho2
  go_wp2_with fail
  clear Oa0
  clear Oa1
  clear Oa3
  refine (toTown_c n0 _ l0 _ (by omega) (rd_below HR0.out HB.out)).mono ?_; rintro e w107 ⟨xb0, rfl, ho, c⟩
  have Ib0 := Lib.hid ho.lt
  have Ow0 := Lib.hid (own_below Ow0.out c)
  have Ow0y := Lib.hid (own_below Ow0y.out c)
  replace t0 := (c.cell (p := ⟨w.heap.size, 0, none⟩) (by show w.heap.size < _; omega)).trans t0
  replace t1 := (c.cell (p := ⟨w.heap.size, 1, none⟩) (by show w.heap.size < _; omega)).trans t1
  replace HB := Lib.hid (bel_then HB.out c)
  have szw107 := c.size
  clear c
  have Ob0 := Lib.hid ho
  clear ho
  obtain ⟨Ab0, cb0, hxb0, _⟩ := own_rd Ob0.out
  subst hxb0
  go_wp2_with fail
  generalize hW7 : World.alloc w107 _ = w108
  have p0 : w108.cell? ⟨w107.heap.size, 0, none⟩ = some (.int .i64 n0) := by subst hW7; simp [go_sem]
  have p1 : w108.cell? ⟨w107.heap.size, 1, none⟩ = some (.slice Ab0 l0.length cb0) := by subst hW7; simp [go_sem]
  have c : Below w107.heap.size w107 w108 := by subst hW7; exact bel_al (Below.refl _ _) _
  have szx : w107.heap.size < w108.heap.size := by subst hW7; simp
  clear hW7
  have Ow0 := Lib.hid (own_below Ow0.out c)
  have Ow0y := Lib.hid (own_below Ow0y.out c)
  have Ob0 := Lib.hid (own_below Ob0.out c)
  replace t0 := (c.cell (p := ⟨w.heap.size, 0, none⟩) (by show w.heap.size < _; omega)).trans t0
  replace t1 := (c.cell (p := ⟨w.heap.size, 1, none⟩) (by show w.heap.size < _; omega)).trans t1
  replace HB := Lib.hid (bel_then HB.out c)
  have szw108 := c.size
  clear c
  refine (toApplianceS_c _ f1 _ (by omega) (rd_below HF1.out HB.out)).mono ?_; rintro e w109 ⟨xb1, rfl, ho, c⟩
  have Ib1 := Lib.hid ho.lt
  have Ow0 := Lib.hid (own_below Ow0.out c)
  have Ow0y := Lib.hid (own_below Ow0y.out c)
  have Ob0 := Lib.hid (own_below Ob0.out c)
  replace t0 := (c.cell (p := ⟨w.heap.size, 0, none⟩) (by show w.heap.size < _; omega)).trans t0
  replace t1 := (c.cell (p := ⟨w.heap.size, 1, none⟩) (by show w.heap.size < _; omega)).trans t1
  replace p0 := (c.cell (p := ⟨w107.heap.size, 0, none⟩) (by show w107.heap.size < _; omega)).trans p0
  replace p1 := (c.cell (p := ⟨w107.heap.size, 1, none⟩) (by show w107.heap.size < _; omega)).trans p1
  replace HB := Lib.hid (bel_then HB.out c)
  have szw109 := c.size
  clear c
  have Ob1 := Lib.hid ho
  clear ho
  obtain ⟨Ab1, cb1, hxb1, _⟩ := own_rd Ob1.out
  subst hxb1
  go_wp2_with fail
  refine (toIntS_c _ q3 _ (by omega) (rdi_below HQ3.out HB.out)).mono ?_; rintro e w110 ⟨xb3, rfl, ho, c⟩
  have Ib3 := Lib.hid ho.lt
  have Ow0 := Lib.hid (own_below Ow0.out c)
  have Ow0y := Lib.hid (own_below Ow0y.out c)
  have Ob0 := Lib.hid (own_below Ob0.out c)
  have Ob1 := Lib.hid (own_below Ob1.out c)
  replace t0 := (c.cell (p := ⟨w.heap.size, 0, none⟩) (by show w.heap.size < _; omega)).trans t0
  replace t1 := (c.cell (p := ⟨w.heap.size, 1, none⟩) (by show w.heap.size < _; omega)).trans t1
  replace p0 := (c.cell (p := ⟨w107.heap.size, 0, none⟩) (by show w107.heap.size < _; omega)).trans p0
  replace p1 := (c.cell (p := ⟨w107.heap.size, 1, none⟩) (by show w107.heap.size < _; omega)).trans p1
  replace HB := Lib.hid (bel_then HB.out c)
  have szw110 := c.size
  clear c
  have Ob3 := Lib.hid ho
  clear ho
  obtain ⟨Ab3, cb3, hxb3, _⟩ := own_rd Ob3.out
  subst hxb3
  go_wp2_with fail
  refine (sendChoiceI_c n0 _ l0 _ f1 a2 _ q3 _ (own_rd Ob0.out) HZ1.out (own_rd Ob1.out) (rdi_own Ob3.out)).mono ?_; intro e w111 hh; obtain ⟨xg0, xg0y, rfl, ho, ho2, hsp, c⟩ := E1.out _ _ _ hh; clear hh
  have Ig0 := Lib.hid ho.lt
  have Ig0y := Lib.hid ho2.lt
  have SPg0 := Lib.hid hsp
  clear hsp
  have Ow0 := Lib.hid (own_below Ow0.out c)
  have Ow0y := Lib.hid (own_below Ow0y.out c)
  have Ob0 := Lib.hid (own_below Ob0.out c)
  have Ob1 := Lib.hid (own_below Ob1.out c)
  have Ob3 := Lib.hid (own_below Ob3.out c)
  replace t0 := (c.cell (p := ⟨w.heap.size, 0, none⟩) (by show w.heap.size < _; omega)).trans t0
  replace t1 := (c.cell (p := ⟨w.heap.size, 1, none⟩) (by show w.heap.size < _; omega)).trans t1
  replace p0 := (c.cell (p := ⟨w107.heap.size, 0, none⟩) (by show w107.heap.size < _; omega)).trans p0
  replace p1 := (c.cell (p := ⟨w107.heap.size, 1, none⟩) (by show w107.heap.size < _; omega)).trans p1
  replace HB := Lib.hid (bel_then HB.out c)
  have szw111 := c.size
  clear c
  have Og0 := Lib.hid ho
  have Og0y := Lib.hid ho2
  clear ho ho2
  go_wp2_with fail
  refine (eqApplianceS_c _ _ r1 r1 _ (own_rd Og0.out) (own_rd Ow0.out)).mono ?_; rintro e w112 ⟨rfl, c⟩
  have Ow0 := Lib.hid (own_below Ow0.out c)
  have Ow0y := Lib.hid (own_below Ow0y.out c)
  have Ob0 := Lib.hid (own_below Ob0.out c)
  have Ob1 := Lib.hid (own_below Ob1.out c)
  have Ob3 := Lib.hid (own_below Ob3.out c)
  have Og0 := Lib.hid (own_below Og0.out c)
  have Og0y := Lib.hid (own_below Og0y.out c)
  replace t0 := (c.cell (p := ⟨w.heap.size, 0, none⟩) (by show w.heap.size < _; omega)).trans t0
  replace t1 := (c.cell (p := ⟨w.heap.size, 1, none⟩) (by show w.heap.size < _; omega)).trans t1
  replace p0 := (c.cell (p := ⟨w107.heap.size, 0, none⟩) (by show w107.heap.size < _; omega)).trans p0
  replace p1 := (c.cell (p := ⟨w107.heap.size, 1, none⟩) (by show w107.heap.size < _; omega)).trans p1
  replace HB := Lib.hid (bel_then HB.out c)
  have szw112 := c.size
  clear c
  rw [decide_eq_true (rfl : r1 = r1)]
  go_wp2_with fail
  refine (eqStringS_c _ _ r3 r3 _ (own_rd Og0y.out) (own_rd Ow0y.out)).mono ?_; rintro e w113 ⟨rfl, c⟩
  have Ow0 := Lib.hid (own_below Ow0.out c)
  have Ow0y := Lib.hid (own_below Ow0y.out c)
  have Ob0 := Lib.hid (own_below Ob0.out c)
  have Ob1 := Lib.hid (own_below Ob1.out c)
  have Ob3 := Lib.hid (own_below Ob3.out c)
  have Og0 := Lib.hid (own_below Og0.out c)
  have Og0y := Lib.hid (own_below Og0y.out c)
  replace t0 := (c.cell (p := ⟨w.heap.size, 0, none⟩) (by show w.heap.size < _; omega)).trans t0
  replace t1 := (c.cell (p := ⟨w.heap.size, 1, none⟩) (by show w.heap.size < _; omega)).trans t1
  replace p0 := (c.cell (p := ⟨w107.heap.size, 0, none⟩) (by show w107.heap.size < _; omega)).trans p0
  replace p1 := (c.cell (p := ⟨w107.heap.size, 1, none⟩) (by show w107.heap.size < _; omega)).trans p1
  replace HB := Lib.hid (bel_then HB.out c)
  have szw113 := c.size
  clear c
  rw [decide_eq_true (rfl : r3 = r3)]
  go_wp2_with fail
  go_region_held3 (fun w' => w'.cell? ⟨w.heap.size, 0, none⟩ = some (.int .i64 n0) ∧ w'.cell? ⟨w.heap.size, 1, none⟩ = some (.slice A0 l0.length c0) ∧ w'.cell? ⟨w107.heap.size, 0, none⟩ = some (.int .i64 n0) ∧ w'.cell? ⟨w107.heap.size, 1, none⟩ = some (.slice Ab0 l0.length cb0)) (first | go_keep | (go_split_ands; refine ⟨?_, ?_, ?_, ?_⟩ <;> (rw [hb1.cell (by simp; omega)]; assumption)))
    (first | (go_at_call 7; refine (toTown_c n0 _ l0 _ (by omega) (rd_below HR0.out (bel_dr HB.out))).mono ?_; rintro e w' ⟨x9, rfl, ho9, hb1⟩; have hbT := hb1; have sT : w113.heap.size ≤ w'.heap.size := hb1.size) | (go_at_call 13; refine (eqTown_c n0 _ _ l0 _ (rd_below (rd_below (own_rd Ob0.out) (bel_dr (Below.refl _ _))) hbT) (own_rd ho9)).mono ?_; rintro e w115 ⟨rfl, hb1⟩; have sE := hb1.size))
  have c : Below w113.heap.size w113 w115 := bel_then (bel_then (bel_dr (Below.refl _ _)) hbT) hb1
  clear hb1 hbT ho9
  have Ow0 := Lib.hid (own_below Ow0.out c)
  have Ow0y := Lib.hid (own_below Ow0y.out c)
  have Ob0 := Lib.hid (own_below Ob0.out c)
  have Ob1 := Lib.hid (own_below Ob1.out c)
  have Ob3 := Lib.hid (own_below Ob3.out c)
  have Og0 := Lib.hid (own_below Og0.out c)
  have Og0y := Lib.hid (own_below Og0y.out c)
  replace t0 := (c.cell (p := ⟨w.heap.size, 0, none⟩) (by show w.heap.size < _; omega)).trans t0
  replace t1 := (c.cell (p := ⟨w.heap.size, 1, none⟩) (by show w.heap.size < _; omega)).trans t1
  replace p0 := (c.cell (p := ⟨w107.heap.size, 0, none⟩) (by show w107.heap.size < _; omega)).trans p0
  replace p1 := (c.cell (p := ⟨w107.heap.size, 1, none⟩) (by show w107.heap.size < _; omega)).trans p1
  replace HB := Lib.hid (bel_then HB.out c)
  have szw115 := c.size
  clear c
  go_wp2_with fail
  refine (toApplianceS_c _ f1 _ (by omega) (rd_below HF1.out HB.out)).mono ?_; rintro e w116 ⟨xc1, rfl, ho, c⟩
  have Ic1 := Lib.hid ho.lt
  have Ow0 := Lib.hid (own_below Ow0.out c)
  have Ow0y := Lib.hid (own_below Ow0y.out c)
  have Ob0 := Lib.hid (own_below Ob0.out c)
  have Ob1 := Lib.hid (own_below Ob1.out c)
  have Ob3 := Lib.hid (own_below Ob3.out c)
  have Og0 := Lib.hid (own_below Og0.out c)
  have Og0y := Lib.hid (own_below Og0y.out c)
  replace t0 := (c.cell (p := ⟨w.heap.size, 0, none⟩) (by show w.heap.size < _; omega)).trans t0
  replace t1 := (c.cell (p := ⟨w.heap.size, 1, none⟩) (by show w.heap.size < _; omega)).trans t1
  replace p0 := (c.cell (p := ⟨w107.heap.size, 0, none⟩) (by show w107.heap.size < _; omega)).trans p0
  replace p1 := (c.cell (p := ⟨w107.heap.size, 1, none⟩) (by show w107.heap.size < _; omega)).trans p1
  replace HB := Lib.hid (bel_then HB.out c)
  have szw116 := c.size
  clear c
  have Oc1 := Lib.hid ho
  clear ho
  go_wp2_with fail
  refine (eqApplianceS_c _ _ f1 f1 _ (own_rd Ob1.out) (own_rd Oc1.out)).mono ?_; rintro e w117 ⟨rfl, c⟩
  have Ow0 := Lib.hid (own_below Ow0.out c)
  have Ow0y := Lib.hid (own_below Ow0y.out c)
  have Ob0 := Lib.hid (own_below Ob0.out c)
  have Ob1 := Lib.hid (own_below Ob1.out c)
  have Ob3 := Lib.hid (own_below Ob3.out c)
  have Og0 := Lib.hid (own_below Og0.out c)
  have Og0y := Lib.hid (own_below Og0y.out c)
  have Oc1 := Lib.hid (own_below Oc1.out c)
  replace t0 := (c.cell (p := ⟨w.heap.size, 0, none⟩) (by show w.heap.size < _; omega)).trans t0
  replace t1 := (c.cell (p := ⟨w.heap.size, 1, none⟩) (by show w.heap.size < _; omega)).trans t1
  replace p0 := (c.cell (p := ⟨w107.heap.size, 0, none⟩) (by show w107.heap.size < _; omega)).trans p0
  replace p1 := (c.cell (p := ⟨w107.heap.size, 1, none⟩) (by show w107.heap.size < _; omega)).trans p1
  replace HB := Lib.hid (bel_then HB.out c)
  have szw117 := c.size
  clear c
  rw [decide_eq_true (rfl : f1 = f1)]
  go_wp2_with fail
  clear Oc1
  refine (toIntS_c _ q3 _ (by omega) (rdi_below HQ3.out HB.out)).mono ?_; rintro e w118 ⟨xc3, rfl, ho, c⟩
  have Ic3 := Lib.hid ho.lt
  have Ow0 := Lib.hid (own_below Ow0.out c)
  have Ow0y := Lib.hid (own_below Ow0y.out c)
  have Ob0 := Lib.hid (own_below Ob0.out c)
  have Ob1 := Lib.hid (own_below Ob1.out c)
  have Ob3 := Lib.hid (own_below Ob3.out c)
  have Og0 := Lib.hid (own_below Og0.out c)
  have Og0y := Lib.hid (own_below Og0y.out c)
  replace t0 := (c.cell (p := ⟨w.heap.size, 0, none⟩) (by show w.heap.size < _; omega)).trans t0
  replace t1 := (c.cell (p := ⟨w.heap.size, 1, none⟩) (by show w.heap.size < _; omega)).trans t1
  replace p0 := (c.cell (p := ⟨w107.heap.size, 0, none⟩) (by show w107.heap.size < _; omega)).trans p0
  replace p1 := (c.cell (p := ⟨w107.heap.size, 1, none⟩) (by show w107.heap.size < _; omega)).trans p1
  replace HB := Lib.hid (bel_then HB.out c)
  have szw118 := c.size
  clear c
  have Oc3 := Lib.hid ho
  clear ho
  go_wp2_with fail
  refine (eqIntS_c _ _ q3 q3 _ (rdi_own Ob3.out) (rdi_own Oc3.out)).mono ?_; rintro e w119 ⟨rfl, c⟩
  have Ow0 := Lib.hid (own_below Ow0.out c)
  have Ow0y := Lib.hid (own_below Ow0y.out c)
  have Ob0 := Lib.hid (own_below Ob0.out c)
  have Ob1 := Lib.hid (own_below Ob1.out c)
  have Ob3 := Lib.hid (own_below Ob3.out c)
  have Og0 := Lib.hid (own_below Og0.out c)
  have Og0y := Lib.hid (own_below Og0y.out c)
  have Oc3 := Lib.hid (own_below Oc3.out c)
  replace t0 := (c.cell (p := ⟨w.heap.size, 0, none⟩) (by show w.heap.size < _; omega)).trans t0
  replace t1 := (c.cell (p := ⟨w.heap.size, 1, none⟩) (by show w.heap.size < _; omega)).trans t1
  replace p0 := (c.cell (p := ⟨w107.heap.size, 0, none⟩) (by show w107.heap.size < _; omega)).trans p0
  replace p1 := (c.cell (p := ⟨w107.heap.size, 1, none⟩) (by show w107.heap.size < _; omega)).trans p1
  replace HB := Lib.hid (bel_then HB.out c)
  have szw119 := c.size
  clear c
  go_wp2_with fail
  clear Oc3
  refine (markTown_c n0 _ _ l0.length _ _ _ Ob0.out (by omega) (by omega) (by omega)).mono ?_; rintro e w120 ⟨rfl, gr⟩
  have Ow0 := Lib.hid (kept2 Ow0.out gr (fun q q' e e' => by have := Iw0.out q e; have := Ib0.out q' e'; omega))
  have Ow0y := Lib.hid (kept2 Ow0y.out gr (fun q q' e e' => by have := Iw0y.out q e; have := Ib0.out q' e'; omega))
  have Ob1 := Lib.hid (kept2 Ob1.out gr (fun q q' e e' => by have := Ib1.out q e; have := Ib0.out q' e'; omega))
  have Ob3 := Lib.hid (kept2 Ob3.out gr (fun q q' e e' => by have := Ib3.out q e; have := Ib0.out q' e'; omega))
  have Og0 := Lib.hid (kept2 Og0.out gr (fun q q' e e' => by have := Ig0.out q e; have := Ib0.out q' e'; omega))
  have Og0y := Lib.hid (kept2 Og0y.out gr (fun q q' e e' => by have := Ig0y.out q e; have := Ib0.out q' e'; omega))
  replace t0 := (cell_mark gr (o := 0) (x := w.heap.size) (by omega) (fun q' e' => by have := Ib0.out q' e'; omega)).trans t0
  replace t1 := (cell_mark gr (o := 1) (x := w.heap.size) (by omega) (fun q' e' => by have := Ib0.out q' e'; omega)).trans t1
  replace p0 := (cell_mark gr (o := 0) (x := w107.heap.size) (by omega) (fun q' e' => by have := Ib0.out q' e'; omega)).trans p0
  replace p1 := (cell_mark gr (o := 1) (x := w107.heap.size) (by omega) (fun q' e' => by have := Ib0.out q' e'; omega)).trans p1
  replace HB := Lib.hid (bel_mark HB.out HB.out.size gr (fun q' e' => by have := Ib0.out q' e'; omega))
  have szw120 := gr.size
  clear gr
  clear Ob0
  go_wp2_with fail
  refine (markApplianceS_c _ f1 _ _ _ Ob1.out (by omega) (by omega) (by omega)).mono ?_; rintro e w121 ⟨rfl, _, gr⟩
  have Ow0 := Lib.hid (kept2 Ow0.out gr (fun q q' e e' => by have := Iw0.out q e; have := Ib1.out q' e'; omega))
  have Ow0y := Lib.hid (kept2 Ow0y.out gr (fun q q' e e' => by have := Iw0y.out q e; have := Ib1.out q' e'; omega))
  have Ob3 := Lib.hid (kept2 Ob3.out gr (fun q q' e e' => by have := Ib3.out q e; have := Ib1.out q' e'; omega))
  have Og0 := Lib.hid (kept2 Og0.out gr (fun q q' e e' => by have := Ig0.out q e; have := Ib1.out q' e'; omega))
  have Og0y := Lib.hid (kept2 Og0y.out gr (fun q q' e e' => by have := Ig0y.out q e; have := Ib1.out q' e'; omega))
  replace t0 := (cell_mark gr (o := 0) (x := w.heap.size) (by omega) (fun q' e' => by have := Ib1.out q' e'; omega)).trans t0
  replace t1 := (cell_mark gr (o := 1) (x := w.heap.size) (by omega) (fun q' e' => by have := Ib1.out q' e'; omega)).trans t1
  replace HB := Lib.hid (bel_mark HB.out HB.out.size gr (fun q' e' => by have := Ib1.out q' e'; omega))
  have szw121 := gr.size
  clear gr
  clear Ob1
  go_wp2_with fail
  refine (markIntS_c _ q3 _ _ q3.length _ Ob3.out (by omega) (by omega) (by omega)).mono ?_; rintro e w122 ⟨rfl, _, gr⟩
  have Ow0 := Lib.hid (kept2 Ow0.out gr (fun q q' e e' => by have := Iw0.out q e; have := Ib3.out q' e'; omega))
  have Ow0y := Lib.hid (kept2 Ow0y.out gr (fun q q' e e' => by have := Iw0y.out q e; have := Ib3.out q' e'; omega))
  have Og0 := Lib.hid (kept2 Og0.out gr (fun q q' e e' => by have := Ig0.out q e; have := Ib3.out q' e'; omega))
  have Og0y := Lib.hid (kept2 Og0y.out gr (fun q q' e e' => by have := Ig0y.out q e; have := Ib3.out q' e'; omega))
  replace t0 := (cell_mark gr (o := 0) (x := w.heap.size) (by omega) (fun q' e' => by have := Ib3.out q' e'; omega)).trans t0
  replace t1 := (cell_mark gr (o := 1) (x := w.heap.size) (by omega) (fun q' e' => by have := Ib3.out q' e'; omega)).trans t1
  replace HB := Lib.hid (bel_mark HB.out HB.out.size gr (fun q' e' => by have := Ib3.out q' e'; omega))
  have szw122 := gr.size
  clear gr
  clear Ob3
  go_wp2_with fail
  refine (eqApplianceS_c _ _ r1 r1 _ (own_rd Og0.out) (own_rd Ow0.out)).mono ?_; rintro e w123 ⟨rfl, c⟩
  have Ow0 := Lib.hid (own_below Ow0.out c)
  have Ow0y := Lib.hid (own_below Ow0y.out c)
  have Og0 := Lib.hid (own_below Og0.out c)
  have Og0y := Lib.hid (own_below Og0y.out c)
  replace t0 := (c.cell (p := ⟨w.heap.size, 0, none⟩) (by show w.heap.size < _; omega)).trans t0
  replace t1 := (c.cell (p := ⟨w.heap.size, 1, none⟩) (by show w.heap.size < _; omega)).trans t1
  replace HB := Lib.hid (bel_then HB.out c)
  have szw123 := c.size
  clear c
  rw [decide_eq_true (rfl : r1 = r1)]
  go_wp2_with fail
  refine (eqStringS_c _ _ r3 r3 _ (own_rd Og0y.out) (own_rd Ow0y.out)).mono ?_; rintro e w124 ⟨rfl, c⟩
  have Ow0 := Lib.hid (own_below Ow0.out c)
  have Ow0y := Lib.hid (own_below Ow0y.out c)
  have Og0 := Lib.hid (own_below Og0.out c)
  have Og0y := Lib.hid (own_below Og0y.out c)
  replace t0 := (c.cell (p := ⟨w.heap.size, 0, none⟩) (by show w.heap.size < _; omega)).trans t0
  replace t1 := (c.cell (p := ⟨w.heap.size, 1, none⟩) (by show w.heap.size < _; omega)).trans t1
  replace HB := Lib.hid (bel_then HB.out c)
  have szw124 := c.size
  clear c
  rw [decide_eq_true (rfl : r3 = r3)]
  go_wp2_with fail
  refine (markApplianceS_c _ r1 _ _ _ Og0.out (by omega) (by omega) (by omega)).mono ?_; rintro e w125 ⟨rfl, hom, gr⟩
  have Ow0 := Lib.hid (kept2 Ow0.out gr (fun q q' e e' => by have := Iw0.out q e; have := Ig0.out q' e'; omega))
  have Ow0y := Lib.hid (kept2 Ow0y.out gr (fun q q' e e' => by have := Iw0y.out q e; have := Ig0.out q' e'; omega))
  have Og0y := Lib.hid (kept2 Og0y.out gr (fun q q' e e' h => SPg0.out q' q e' e h.symm))
  replace t0 := (cell_mark gr (o := 0) (x := w.heap.size) (by omega) (fun q' e' => by have := Ig0.out q' e'; omega)).trans t0
  replace t1 := (cell_mark gr (o := 1) (x := w.heap.size) (by omega) (fun q' e' => by have := Ig0.out q' e'; omega)).trans t1
  replace HB := Lib.hid (bel_mark HB.out HB.out.size gr (fun q' e' => by have := Ig0.out q' e'; omega))
  have szw125 := gr.size
  clear gr
  replace Og0 := Lib.hid hom
  clear hom
  go_wp2_with fail
  refine (markStringS_c _ r3 _ _ _ Og0y.out (by omega) (by omega) (by omega)).mono ?_; rintro e w126 ⟨rfl, hom, gr⟩
  have Ow0 := Lib.hid (kept2 Ow0.out gr (fun q q' e e' => by have := Iw0.out q e; have := Ig0y.out q' e'; omega))
  have Ow0y := Lib.hid (kept2 Ow0y.out gr (fun q q' e e' => by have := Iw0y.out q e; have := Ig0y.out q' e'; omega))
  have Og0 := Lib.hid (kept2 Og0.out gr SPg0.out)
  replace t0 := (cell_mark gr (o := 0) (x := w.heap.size) (by omega) (fun q' e' => by have := Ig0y.out q' e'; omega)).trans t0
  replace t1 := (cell_mark gr (o := 1) (x := w.heap.size) (by omega) (fun q' e' => by have := Ig0y.out q' e'; omega)).trans t1
  replace HB := Lib.hid (bel_mark HB.out HB.out.size gr (fun q' e' => by have := Ig0y.out q' e'; omega))
  have szw126 := gr.size
  clear gr
  replace Og0y := Lib.hid hom
  clear hom
  go_wp2_with fail
  refine (heldApplianceS_c _ _ r1.length _ (own_rd Og0.out) (by omega) (by omega) (by omega)).mono ?_; rintro e w127 ⟨rfl, c⟩
  have Ow0 := Lib.hid (own_below Ow0.out c)
  have Ow0y := Lib.hid (own_below Ow0y.out c)
  have Og0 := Lib.hid (own_below Og0.out c)
  have Og0y := Lib.hid (own_below Og0y.out c)
  replace t0 := (c.cell (p := ⟨w.heap.size, 0, none⟩) (by show w.heap.size < _; omega)).trans t0
  replace t1 := (c.cell (p := ⟨w.heap.size, 1, none⟩) (by show w.heap.size < _; omega)).trans t1
  replace HB := Lib.hid (bel_then HB.out c)
  have szw127 := c.size
  clear c
  go_wp2_with fail
  refine (heldStringS_c _ _ r3.length _ (own_rd Og0y.out) (by omega) (by omega) (by omega)).mono ?_; rintro e w128 ⟨rfl, c⟩
  have Ow0 := Lib.hid (own_below Ow0.out c)
  have Ow0y := Lib.hid (own_below Ow0y.out c)
  have Og0 := Lib.hid (own_below Og0.out c)
  have Og0y := Lib.hid (own_below Og0y.out c)
  replace t0 := (c.cell (p := ⟨w.heap.size, 0, none⟩) (by show w.heap.size < _; omega)).trans t0
  replace t1 := (c.cell (p := ⟨w.heap.size, 1, none⟩) (by show w.heap.size < _; omega)).trans t1
  replace HB := Lib.hid (bel_then HB.out c)
  have szw128 := c.size
  clear c
  go_wp2_with fail
  refine (toTown_c n0 _ l0 _ (by omega) (rd_below HR0.out HB.out)).mono ?_; rintro e w129 ⟨xd0, rfl, ho, c⟩
  have Id0 := Lib.hid ho.lt
  have Ow0 := Lib.hid (own_below Ow0.out c)
  have Ow0y := Lib.hid (own_below Ow0y.out c)
  have Og0 := Lib.hid (own_below Og0.out c)
  have Og0y := Lib.hid (own_below Og0y.out c)
  replace t0 := (c.cell (p := ⟨w.heap.size, 0, none⟩) (by show w.heap.size < _; omega)).trans t0
  replace t1 := (c.cell (p := ⟨w.heap.size, 1, none⟩) (by show w.heap.size < _; omega)).trans t1
  replace HB := Lib.hid (bel_then HB.out c)
  have szw129 := c.size
  clear c
  have Od0 := Lib.hid ho
  clear ho
  go_wp2_with fail
  refine (toApplianceS_c _ f1 _ (by omega) (rd_below HF1.out HB.out)).mono ?_; rintro e w130 ⟨xd1, rfl, ho, c⟩
  have Id1 := Lib.hid ho.lt
  have Ow0 := Lib.hid (own_below Ow0.out c)
  have Ow0y := Lib.hid (own_below Ow0y.out c)
  have Og0 := Lib.hid (own_below Og0.out c)
  have Og0y := Lib.hid (own_below Og0y.out c)
  have Od0 := Lib.hid (own_below Od0.out c)
  replace t0 := (c.cell (p := ⟨w.heap.size, 0, none⟩) (by show w.heap.size < _; omega)).trans t0
  replace t1 := (c.cell (p := ⟨w.heap.size, 1, none⟩) (by show w.heap.size < _; omega)).trans t1
  replace HB := Lib.hid (bel_then HB.out c)
  have szw130 := c.size
  clear c
  have Od1 := Lib.hid ho
  clear ho
  go_wp2_with fail
  refine (toIntS_c _ q3 _ (by omega) (rdi_below HQ3.out HB.out)).mono ?_; rintro e w131 ⟨xd3, rfl, ho, c⟩
  have Id3 := Lib.hid ho.lt
  have Ow0 := Lib.hid (own_below Ow0.out c)
  have Ow0y := Lib.hid (own_below Ow0y.out c)
  have Og0 := Lib.hid (own_below Og0.out c)
  have Og0y := Lib.hid (own_below Og0y.out c)
  have Od0 := Lib.hid (own_below Od0.out c)
  have Od1 := Lib.hid (own_below Od1.out c)
  replace t0 := (c.cell (p := ⟨w.heap.size, 0, none⟩) (by show w.heap.size < _; omega)).trans t0
  replace t1 := (c.cell (p := ⟨w.heap.size, 1, none⟩) (by show w.heap.size < _; omega)).trans t1
  replace HB := Lib.hid (bel_then HB.out c)
  have szw131 := c.size
  clear c
  have Od3 := Lib.hid ho
  clear ho
  go_wp2_with fail
  refine (sendChoiceI_c n0 _ l0 _ f1 a2 _ q3 _ (own_rd Od0.out) HZ1.out (own_rd Od1.out) (rdi_own Od3.out)).mono ?_; intro e w132 hh; obtain ⟨xh0, xh0y, rfl, ho, ho2, hsp, c⟩ := E1.out _ _ _ hh; clear hh
  have Ih0 := Lib.hid ho.lt
  have Ih0y := Lib.hid ho2.lt
  have SPh0 := Lib.hid hsp
  clear hsp
  have Ow0 := Lib.hid (own_below Ow0.out c)
  have Ow0y := Lib.hid (own_below Ow0y.out c)
  have Og0 := Lib.hid (own_below Og0.out c)
  have Og0y := Lib.hid (own_below Og0y.out c)
  have Od0 := Lib.hid (own_below Od0.out c)
  have Od1 := Lib.hid (own_below Od1.out c)
  have Od3 := Lib.hid (own_below Od3.out c)
  replace t0 := (c.cell (p := ⟨w.heap.size, 0, none⟩) (by show w.heap.size < _; omega)).trans t0
  replace t1 := (c.cell (p := ⟨w.heap.size, 1, none⟩) (by show w.heap.size < _; omega)).trans t1
  replace HB := Lib.hid (bel_then HB.out c)
  have szw132 := c.size
  clear c
  have Oh0 := Lib.hid ho
  have Oh0y := Lib.hid ho2
  clear ho ho2
  go_wp2_with fail
  refine (eqApplianceS_c _ _ r1 r1 _ (own_rd Oh0.out) (own_rd Ow0.out)).mono ?_; rintro e w133 ⟨rfl, c⟩
  have Ow0 := Lib.hid (own_below Ow0.out c)
  have Ow0y := Lib.hid (own_below Ow0y.out c)
  have Og0 := Lib.hid (own_below Og0.out c)
  have Og0y := Lib.hid (own_below Og0y.out c)
  have Od0 := Lib.hid (own_below Od0.out c)
  have Od1 := Lib.hid (own_below Od1.out c)
  have Od3 := Lib.hid (own_below Od3.out c)
  have Oh0 := Lib.hid (own_below Oh0.out c)
  have Oh0y := Lib.hid (own_below Oh0y.out c)
  replace t0 := (c.cell (p := ⟨w.heap.size, 0, none⟩) (by show w.heap.size < _; omega)).trans t0
  replace t1 := (c.cell (p := ⟨w.heap.size, 1, none⟩) (by show w.heap.size < _; omega)).trans t1
  replace HB := Lib.hid (bel_then HB.out c)
  have szw133 := c.size
  clear c
  rw [decide_eq_true (rfl : r1 = r1)]
  go_wp2_with fail
  refine (eqStringS_c _ _ r3 r3 _ (own_rd Oh0y.out) (own_rd Ow0y.out)).mono ?_; rintro e w134 ⟨rfl, c⟩
  have Ow0 := Lib.hid (own_below Ow0.out c)
  have Ow0y := Lib.hid (own_below Ow0y.out c)
  have Og0 := Lib.hid (own_below Og0.out c)
  have Og0y := Lib.hid (own_below Og0y.out c)
  have Od0 := Lib.hid (own_below Od0.out c)
  have Od1 := Lib.hid (own_below Od1.out c)
  have Od3 := Lib.hid (own_below Od3.out c)
  have Oh0 := Lib.hid (own_below Oh0.out c)
  have Oh0y := Lib.hid (own_below Oh0y.out c)
  replace t0 := (c.cell (p := ⟨w.heap.size, 0, none⟩) (by show w.heap.size < _; omega)).trans t0
  replace t1 := (c.cell (p := ⟨w.heap.size, 1, none⟩) (by show w.heap.size < _; omega)).trans t1
  replace HB := Lib.hid (bel_then HB.out c)
  have szw134 := c.size
  clear c
  rw [decide_eq_true (rfl : r3 = r3)]
  go_wp2_with fail
  refine (heldApplianceS_c _ _ r1.length _ (own_rd Og0.out) (by omega) (by omega) (by omega)).mono ?_; rintro e w135 ⟨rfl, c⟩
  have Ow0 := Lib.hid (own_below Ow0.out c)
  have Ow0y := Lib.hid (own_below Ow0y.out c)
  have Og0 := Lib.hid (own_below Og0.out c)
  have Og0y := Lib.hid (own_below Og0y.out c)
  have Od0 := Lib.hid (own_below Od0.out c)
  have Od1 := Lib.hid (own_below Od1.out c)
  have Od3 := Lib.hid (own_below Od3.out c)
  have Oh0 := Lib.hid (own_below Oh0.out c)
  have Oh0y := Lib.hid (own_below Oh0y.out c)
  replace t0 := (c.cell (p := ⟨w.heap.size, 0, none⟩) (by show w.heap.size < _; omega)).trans t0
  replace t1 := (c.cell (p := ⟨w.heap.size, 1, none⟩) (by show w.heap.size < _; omega)).trans t1
  replace HB := Lib.hid (bel_then HB.out c)
  have szw135 := c.size
  clear c
  go_wp2_with fail
  refine (heldStringS_c _ _ r3.length _ (own_rd Og0y.out) (by omega) (by omega) (by omega)).mono ?_; rintro e w136 ⟨rfl, c⟩
  have Ow0 := Lib.hid (own_below Ow0.out c)
  have Ow0y := Lib.hid (own_below Ow0y.out c)
  have Og0 := Lib.hid (own_below Og0.out c)
  have Og0y := Lib.hid (own_below Og0y.out c)
  have Od0 := Lib.hid (own_below Od0.out c)
  have Od1 := Lib.hid (own_below Od1.out c)
  have Od3 := Lib.hid (own_below Od3.out c)
  have Oh0 := Lib.hid (own_below Oh0.out c)
  have Oh0y := Lib.hid (own_below Oh0y.out c)
  replace t0 := (c.cell (p := ⟨w.heap.size, 0, none⟩) (by show w.heap.size < _; omega)).trans t0
  replace t1 := (c.cell (p := ⟨w.heap.size, 1, none⟩) (by show w.heap.size < _; omega)).trans t1
  replace HB := Lib.hid (bel_then HB.out c)
  have szw136 := c.size
  clear c
  go_wp2
  go_ret
  exact ⟨rfl, HB.out⟩
end Go.Proofs.YtddccjdppbcnbaaGreat
