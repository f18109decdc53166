/-
  The walk of the law of IsBestChoice.
-/
import Derived.Test.YtcpchdbhpcebeaaBestM
import Derived.Test.YtcpchdbhpcebeaaLaw
import Derived.Test.YtcpchdbhpcebeaaTownV
import Derived.Test.YtcpchdbhpcebeaaIntsC
import Derived.Test.YtcpchdbhpcebeaaApS
import Derived.Test.YtcpchdbhpcebeaaMarkAp
import Derived.Test.YtcpchdbhpcebeaaStrs
namespace Go.Proofs.Ytcpchdbhpcebeaa
open Go.RowKit

set_option maxRecDepth 100000 in
set_option maxHeartbeats 4000000 in
theorem walk_FnExactIsBestChoice (w : World) (n0 : Int) (s0 : Value) (l0 : List St) (hr0 : Rd w s0 l0.length (l0.flatMap St.cells)) (v1 : Value) (f1 : List Ap) (hz1 : ∀ x ∈ f1, x.nm.size ≤ 9223372036854775807) (hf1 : Rd w v1 f1.length (f1.flatMap Ap.cells)) (a2 : Int) (v3 : Value) (q3 : List Int) (hq3 : RdI w v3 q3) (v4 : Value) (f4 : List ByteArray) (hz4 : ∀ x ∈ f4, x.size ≤ 9223372036854775807) (hf4 : RdS w v4 f4) :
    Calls Try.prog 10 #[.agg #[.int .i64 n0, s0], v1, .int .i64 a2, v3, v4] w fun en w' => en = .returned (.bool true) ∧ Below w.heap.size w w' := by
  have HR0 := Lib.hid hr0
  obtain ⟨A0, c0, rfl, _⟩ := hr0
  have HQ3 := Lib.hid hq3
  obtain ⟨A3, c3, rfl, _⟩ := hq3
  have HZ1 := Lib.hid hz1
  have HF1 := Lib.hid hf1
  obtain ⟨AA1, cc1, rfl, _⟩ := hf1
  clear hz1
  have HZ4 := Lib.hid hz4
  have HF4 := Lib.hid hf4
  obtain ⟨AA4, cc4, rfl, _⟩ := hf4
  clear hz4
  by_cases hbq3 : (1048576 : Int) < q3.length
  · go_enter Try.func10, Try.ntmps10
    go_wp2
    go_ret
    exact ⟨rfl, (by repeat (first | exact Below.refl _ _ | assumption | refine bel_al ?_ _ | refine bel_dr ?_ | refine below_drewN ?_ _ | refine bel_then ?_ (by assumption)))⟩
  by_cases hbt0 : (1048576 : Int) < l0.length
  · go_enter Try.func10, Try.ntmps10
    go_wp2_with (go_at_call 11; refine (szTown_big _ _ l0 _ _ (by omega) (by omega) (rd_below HR0.out (bel_al (Below.refl _ _) _)) (by omega)).mono ?_; rintro e w' ⟨rfl, hb1⟩)
    go_ret
    exact ⟨rfl, bel_then (bel_al (Below.refl _ _) _) hb1⟩
  obtain ⟨r0, hr0'⟩ : ∃ r0, (isBestChoiceV n0 l0 f1 a2 q3 f4).1 = r0 := ⟨_, rfl⟩
  obtain ⟨r1, hr1'⟩ : ∃ r1, (isBestChoiceV n0 l0 f1 a2 q3 f4).2 = r1 := ⟨_, rfl⟩
  have e1 : ∀ (W : World) (e : Ending) (W' : World), (e = .returned (.tuple #[.bool ((isBestChoiceV n0 l0 f1 a2 q3 f4).1), .bool ((isBestChoiceV n0 l0 f1 a2 q3 f4).2)]) ∧ Below W.heap.size W W') → e = .returned (.tuple #[.bool r0, .bool r1]) ∧ Below W.heap.size W W' := by
    intro W e W' h
    rw [hr0', hr1'] at h
    exact h
  have E1 := Lib.hid e1
  clear e1 hr0' hr1'
  have hne0 : (r0 != r0) = false := by simp
  have hne1 : (r1 != r1) = false := by simp
  go_enter Try.func10, Try.ntmps10
  go_wp2_with fail
  generalize hw1 : World.alloc w _ = w100
  have t0 : w100.cell? ⟨w.heap.size, 0, none⟩ = some (.int .i64 n0) := by subst hw1; simp [go_sem]
  have t1 : w100.cell? ⟨w.heap.size, 1, none⟩ = some (.slice A0 l0.length c0) := by subst hw1; simp [go_sem]
  have HB : Hid (Below w.heap.size w w100) := Lib.hid (by subst hw1; exact bel_al (Below.refl _ _) _)
  have szw100 : w.heap.size < w100.heap.size := by subst hw1; simp
  clear hw1
  refine (szTown_fits _ _ l0 _ _ (by omega) (rd_below HR0.out HB.out) (by omega)).mono ?_; rintro e w101 ⟨rfl, c⟩
  replace t0 := (c.cell (p := ⟨w.heap.size, 0, none⟩) (by show w.heap.size < _; omega)).trans t0
  replace t1 := (c.cell (p := ⟨w.heap.size, 1, none⟩) (by show w.heap.size < _; omega)).trans t1
  replace HB := Lib.hid (bel_then HB.out c)
  have szw101 := c.size
  clear c
  go_wp2_with fail
  refine (szApplianceS_c _ f1 _ _ (by omega) (by omega) HZ1.out (rd_below HF1.out HB.out)).mono ?_; rintro e w102 ⟨rz1, rfl, c, hrz1⟩
  replace t0 := (c.cell (p := ⟨w.heap.size, 0, none⟩) (by show w.heap.size < _; omega)).trans t0
  replace t1 := (c.cell (p := ⟨w.heap.size, 1, none⟩) (by show w.heap.size < _; omega)).trans t1
  replace HB := Lib.hid (bel_then HB.out c)
  have szw102 := c.size
  clear c
  rcases hrz1 with rfl | ⟨hrz01, hrz11, hrzl1⟩
  · go_wp2
    go_ret
    exact ⟨rfl, HB.out⟩
  go_wp2_with fail
  refine (szStringS_c _ f4 _ _ (by omega) (by omega) HZ4.out (rd_below HF4.out HB.out)).mono ?_; rintro e w103 ⟨rz4, rfl, c, hrz4⟩
  replace t0 := (c.cell (p := ⟨w.heap.size, 0, none⟩) (by show w.heap.size < _; omega)).trans t0
  replace t1 := (c.cell (p := ⟨w.heap.size, 1, none⟩) (by show w.heap.size < _; omega)).trans t1
  replace HB := Lib.hid (bel_then HB.out c)
  have szw103 := c.size
  clear c
  rcases hrz4 with rfl | ⟨hrz04, hrz14, hrzl4⟩
  · go_wp2
    go_ret
    exact ⟨rfl, HB.out⟩
  go_wp2_with fail
  refine (toTown_c n0 _ l0 _ (by omega) (rd_below HR0.out HB.out)).mono ?_; rintro e w104 ⟨xa0, rfl, ho, c⟩
  have Ia0 := Lib.hid ho.lt
  replace t0 := (c.cell (p := ⟨w.heap.size, 0, none⟩) (by show w.heap.size < _; omega)).trans t0
  replace t1 := (c.cell (p := ⟨w.heap.size, 1, none⟩) (by show w.heap.size < _; omega)).trans t1
  replace HB := Lib.hid (bel_then HB.out c)
  have szw104 := c.size
  clear c
  have Oa0 := Lib.hid ho
  clear ho
  go_wp2_with fail
  refine (toApplianceS_c _ f1 _ (by omega) (rd_below HF1.out HB.out)).mono ?_; rintro e w105 ⟨xa1, rfl, ho, c⟩
  have Ia1 := Lib.hid ho.lt
  have Oa0 := Lib.hid (own_below Oa0.out c)
  replace t0 := (c.cell (p := ⟨w.heap.size, 0, none⟩) (by show w.heap.size < _; omega)).trans t0
  replace t1 := (c.cell (p := ⟨w.heap.size, 1, none⟩) (by show w.heap.size < _; omega)).trans t1
  replace HB := Lib.hid (bel_then HB.out c)
  have szw105 := c.size
  clear c
  have Oa1 := Lib.hid ho
  clear ho
  go_wp2_with fail
  refine (toIntS_c _ q3 _ (by omega) (rdi_below HQ3.out HB.out)).mono ?_; rintro e w106 ⟨xa3, rfl, ho, c⟩
  have Ia3 := Lib.hid ho.lt
  have Oa0 := Lib.hid (own_below Oa0.out c)
  have Oa1 := Lib.hid (own_below Oa1.out c)
  replace t0 := (c.cell (p := ⟨w.heap.size, 0, none⟩) (by show w.heap.size < _; omega)).trans t0
  replace t1 := (c.cell (p := ⟨w.heap.size, 1, none⟩) (by show w.heap.size < _; omega)).trans t1
  replace HB := Lib.hid (bel_then HB.out c)
  have szw106 := c.size
  clear c
  have Oa3 := Lib.hid ho
  clear ho
  go_wp2_with fail
  refine (toStringS_c _ f4 _ (by omega) (rd_below HF4.out HB.out)).mono ?_; rintro e w107 ⟨xa4, rfl, ho, c⟩
  have Ia4 := Lib.hid ho.lt
  have Oa0 := Lib.hid (own_below Oa0.out c)
  have Oa1 := Lib.hid (own_below Oa1.out c)
  have Oa3 := Lib.hid (own_below Oa3.out c)
  replace t0 := (c.cell (p := ⟨w.heap.size, 0, none⟩) (by show w.heap.size < _; omega)).trans t0
  replace t1 := (c.cell (p := ⟨w.heap.size, 1, none⟩) (by show w.heap.size < _; omega)).trans t1
  replace HB := Lib.hid (bel_then HB.out c)
  have szw107 := c.size
  clear c
  have Oa4 := Lib.hid ho
  clear ho
  go_wp2_with fail
  refine (isBestChoiceS_c n0 _ l0 _ f1 a2 _ q3 _ f4 _ (own_rd Oa0.out) HZ1.out (own_rd Oa1.out) (rdi_own Oa3.out) (own_rd Oa4.out)).mono ?_; intro e w108 hh; obtain ⟨rfl, c⟩ := E1.out _ _ _ hh; clear hh
  have Oa0 := Lib.hid (own_below Oa0.out c)
  have Oa1 := Lib.hid (own_below Oa1.out c)
  have Oa3 := Lib.hid (own_below Oa3.out c)
  have Oa4 := Lib.hid (own_below Oa4.out c)
  replace t0 := (c.cell (p := ⟨w.heap.size, 0, none⟩) (by show w.heap.size < _; omega)).trans t0
  replace t1 := (c.cell (p := ⟨w.heap.size, 1, none⟩) (by show w.heap.size < _; omega)).trans t1
  replace HB := Lib.hid (bel_then HB.out c)
  have szw108 := c.size
  clear c
  go_wp2_with fail
  clear Oa0
  clear Oa1
  clear Oa3
  clear Oa4
  refine (toTown_c n0 _ l0 _ (by omega) (rd_below HR0.out HB.out)).mono ?_; rintro e w109 ⟨xb0, rfl, ho, c⟩
  have Ib0 := Lib.hid ho.lt
  replace t0 := (c.cell (p := ⟨w.heap.size, 0, none⟩) (by show w.heap.size < _; omega)).trans t0
  replace t1 := (c.cell (p := ⟨w.heap.size, 1, none⟩) (by show w.heap.size < _; omega)).trans t1
  replace HB := Lib.hid (bel_then HB.out c)
  have szw109 := c.size
  clear c
  have Ob0 := Lib.hid ho
  clear ho
  obtain ⟨Ab0, cb0, hxb0, _⟩ := own_rd Ob0.out
  subst hxb0
  go_wp2_with fail
  generalize hW7 : World.alloc w109 _ = w110
  have p0 : w110.cell? ⟨w109.heap.size, 0, none⟩ = some (.int .i64 n0) := by subst hW7; simp [go_sem]
  have p1 : w110.cell? ⟨w109.heap.size, 1, none⟩ = some (.slice Ab0 l0.length cb0) := by subst hW7; simp [go_sem]
  have c : Below w109.heap.size w109 w110 := by subst hW7; exact bel_al (Below.refl _ _) _
  have szx : w109.heap.size < w110.heap.size := by subst hW7; simp
  clear hW7
  have Ob0 := Lib.hid (own_below Ob0.out c)
  replace t0 := (c.cell (p := ⟨w.heap.size, 0, none⟩) (by show w.heap.size < _; omega)).trans t0
  replace t1 := (c.cell (p := ⟨w.heap.size, 1, none⟩) (by show w.heap.size < _; omega)).trans t1
  replace HB := Lib.hid (bel_then HB.out c)
  have szw110 := c.size
  clear c
  refine (toApplianceS_c _ f1 _ (by omega) (rd_below HF1.out HB.out)).mono ?_; rintro e w111 ⟨xb1, rfl, ho, c⟩
  have Ib1 := Lib.hid ho.lt
  have Ob0 := Lib.hid (own_below Ob0.out c)
  replace t0 := (c.cell (p := ⟨w.heap.size, 0, none⟩) (by show w.heap.size < _; omega)).trans t0
  replace t1 := (c.cell (p := ⟨w.heap.size, 1, none⟩) (by show w.heap.size < _; omega)).trans t1
  replace p0 := (c.cell (p := ⟨w109.heap.size, 0, none⟩) (by show w109.heap.size < _; omega)).trans p0
  replace p1 := (c.cell (p := ⟨w109.heap.size, 1, none⟩) (by show w109.heap.size < _; omega)).trans p1
  replace HB := Lib.hid (bel_then HB.out c)
  have szw111 := c.size
  clear c
  have Ob1 := Lib.hid ho
  clear ho
  obtain ⟨Ab1, cb1, hxb1, _⟩ := own_rd Ob1.out
  subst hxb1
  go_wp2_with fail
  refine (toIntS_c _ q3 _ (by omega) (rdi_below HQ3.out HB.out)).mono ?_; rintro e w112 ⟨xb3, rfl, ho, c⟩
  have Ib3 := Lib.hid ho.lt
  have Ob0 := Lib.hid (own_below Ob0.out c)
  have Ob1 := Lib.hid (own_below Ob1.out c)
  replace t0 := (c.cell (p := ⟨w.heap.size, 0, none⟩) (by show w.heap.size < _; omega)).trans t0
  replace t1 := (c.cell (p := ⟨w.heap.size, 1, none⟩) (by show w.heap.size < _; omega)).trans t1
  replace p0 := (c.cell (p := ⟨w109.heap.size, 0, none⟩) (by show w109.heap.size < _; omega)).trans p0
  replace p1 := (c.cell (p := ⟨w109.heap.size, 1, none⟩) (by show w109.heap.size < _; omega)).trans p1
  replace HB := Lib.hid (bel_then HB.out c)
  have szw112 := c.size
  clear c
  have Ob3 := Lib.hid ho
  clear ho
  obtain ⟨Ab3, cb3, hxb3, _⟩ := own_rd Ob3.out
  subst hxb3
  go_wp2_with fail
  refine (toStringS_c _ f4 _ (by omega) (rd_below HF4.out HB.out)).mono ?_; rintro e w113 ⟨xb4, rfl, ho, c⟩
  have Ib4 := Lib.hid ho.lt
  have Ob0 := Lib.hid (own_below Ob0.out c)
  have Ob1 := Lib.hid (own_below Ob1.out c)
  have Ob3 := Lib.hid (own_below Ob3.out c)
  replace t0 := (c.cell (p := ⟨w.heap.size, 0, none⟩) (by show w.heap.size < _; omega)).trans t0
  replace t1 := (c.cell (p := ⟨w.heap.size, 1, none⟩) (by show w.heap.size < _; omega)).trans t1
  replace p0 := (c.cell (p := ⟨w109.heap.size, 0, none⟩) (by show w109.heap.size < _; omega)).trans p0
  replace p1 := (c.cell (p := ⟨w109.heap.size, 1, none⟩) (by show w109.heap.size < _; omega)).trans p1
  replace HB := Lib.hid (bel_then HB.out c)
  have szw113 := c.size
  clear c
  have Ob4 := Lib.hid ho
  clear ho
  obtain ⟨Ab4, cb4, hxb4, _⟩ := own_rd Ob4.out
  subst hxb4
  go_wp2_with fail
  refine (isBestChoiceI_c n0 _ l0 _ f1 a2 _ q3 _ f4 _ (own_rd Ob0.out) HZ1.out (own_rd Ob1.out) (rdi_own Ob3.out) (own_rd Ob4.out)).mono ?_; intro e w114 hh; obtain ⟨rfl, c⟩ := E1.out _ _ _ hh; clear hh
  have Ob0 := Lib.hid (own_below Ob0.out c)
  have Ob1 := Lib.hid (own_below Ob1.out c)
  have Ob3 := Lib.hid (own_below Ob3.out c)
  have Ob4 := Lib.hid (own_below Ob4.out c)
  replace t0 := (c.cell (p := ⟨w.heap.size, 0, none⟩) (by show w.heap.size < _; omega)).trans t0
  replace t1 := (c.cell (p := ⟨w.heap.size, 1, none⟩) (by show w.heap.size < _; omega)).trans t1
  replace p0 := (c.cell (p := ⟨w109.heap.size, 0, none⟩) (by show w109.heap.size < _; omega)).trans p0
  replace p1 := (c.cell (p := ⟨w109.heap.size, 1, none⟩) (by show w109.heap.size < _; omega)).trans p1
  replace HB := Lib.hid (bel_then HB.out c)
  have szw114 := c.size
  clear c
  go_wp2_with fail
  go_region_held3 (fun w' => w'.cell? ⟨w.heap.size, 0, none⟩ = some (.int .i64 n0) ∧ w'.cell? ⟨w.heap.size, 1, none⟩ = some (.slice A0 l0.length c0) ∧ w'.cell? ⟨w109.heap.size, 0, none⟩ = some (.int .i64 n0) ∧ w'.cell? ⟨w109.heap.size, 1, none⟩ = some (.slice Ab0 l0.length cb0)) (first | go_keep | (go_split_ands; refine ⟨?_, ?_, ?_, ?_⟩ <;> (rw [hb1.cell (by simp; omega)]; assumption)))
    (first | (go_at_call 15; refine (toTown_c n0 _ l0 _ (by omega) (rd_below HR0.out (bel_dr HB.out))).mono ?_; rintro e w' ⟨x9, rfl, ho9, hb1⟩; have hbT := hb1; have sT : w114.heap.size ≤ w'.heap.size := hb1.size) | (go_at_call 19; refine (eqTown_c n0 _ _ l0 _ (rd_below (rd_below (own_rd Ob0.out) (bel_dr (Below.refl _ _))) hbT) (own_rd ho9)).mono ?_; rintro e w116 ⟨rfl, hb1⟩; have sE := hb1.size))
  have c : Below w114.heap.size w114 w116 := bel_then (bel_then (bel_dr (Below.refl _ _)) hbT) hb1
  clear hb1 hbT ho9
  have Ob0 := Lib.hid (own_below Ob0.out c)
  have Ob1 := Lib.hid (own_below Ob1.out c)
  have Ob3 := Lib.hid (own_below Ob3.out c)
  have Ob4 := Lib.hid (own_below Ob4.out c)
  replace t0 := (c.cell (p := ⟨w.heap.size, 0, none⟩) (by show w.heap.size < _; omega)).trans t0
  replace t1 := (c.cell (p := ⟨w.heap.size, 1, none⟩) (by show w.heap.size < _; omega)).trans t1
  replace p0 := (c.cell (p := ⟨w109.heap.size, 0, none⟩) (by show w109.heap.size < _; omega)).trans p0
  replace p1 := (c.cell (p := ⟨w109.heap.size, 1, none⟩) (by show w109.heap.size < _; omega)).trans p1
  replace HB := Lib.hid (bel_then HB.out c)
  have szw116 := c.size
  clear c
  go_wp2_with fail
  refine (toApplianceS_c _ f1 _ (by omega) (rd_below HF1.out HB.out)).mono ?_; rintro e w117 ⟨xc1, rfl, ho, c⟩
  have Ic1 := Lib.hid ho.lt
  have Ob0 := Lib.hid (own_below Ob0.out c)
  have Ob1 := Lib.hid (own_below Ob1.out c)
  have Ob3 := Lib.hid (own_below Ob3.out c)
  have Ob4 := Lib.hid (own_below Ob4.out c)
  replace t0 := (c.cell (p := ⟨w.heap.size, 0, none⟩) (by show w.heap.size < _; omega)).trans t0
  replace t1 := (c.cell (p := ⟨w.heap.size, 1, none⟩) (by show w.heap.size < _; omega)).trans t1
  replace p0 := (c.cell (p := ⟨w109.heap.size, 0, none⟩) (by show w109.heap.size < _; omega)).trans p0
  replace p1 := (c.cell (p := ⟨w109.heap.size, 1, none⟩) (by show w109.heap.size < _; omega)).trans p1
  replace HB := Lib.hid (bel_then HB.out c)
  have szw117 := c.size
  clear c
  have Oc1 := Lib.hid ho
  clear ho
  go_wp2_with fail
  refine (eqApplianceS_c _ _ f1 f1 _ (own_rd Ob1.out) (own_rd Oc1.out)).mono ?_; rintro e w118 ⟨rfl, c⟩
  have Ob0 := Lib.hid (own_below Ob0.out c)
  have Ob1 := Lib.hid (own_below Ob1.out c)
  have Ob3 := Lib.hid (own_below Ob3.out c)
  have Ob4 := Lib.hid (own_below Ob4.out c)
  have Oc1 := Lib.hid (own_below Oc1.out c)
  replace t0 := (c.cell (p := ⟨w.heap.size, 0, none⟩) (by show w.heap.size < _; omega)).trans t0
  replace t1 := (c.cell (p := ⟨w.heap.size, 1, none⟩) (by show w.heap.size < _; omega)).trans t1
  replace p0 := (c.cell (p := ⟨w109.heap.size, 0, none⟩) (by show w109.heap.size < _; omega)).trans p0
  replace p1 := (c.cell (p := ⟨w109.heap.size, 1, none⟩) (by show w109.heap.size < _; omega)).trans p1
  replace HB := Lib.hid (bel_then HB.out c)
  have szw118 := c.size
  clear c
  rw [decide_eq_true (rfl : f1 = f1)]
  go_wp2_with fail
  clear Oc1
  refine (toIntS_c _ q3 _ (by omega) (rdi_below HQ3.out HB.out)).mono ?_; rintro e w119 ⟨xc3, rfl, ho, c⟩
  have Ic3 := Lib.hid ho.lt
  have Ob0 := Lib.hid (own_below Ob0.out c)
  have Ob1 := Lib.hid (own_below Ob1.out c)
  have Ob3 := Lib.hid (own_below Ob3.out c)
  have Ob4 := Lib.hid (own_below Ob4.out c)
  replace t0 := (c.cell (p := ⟨w.heap.size, 0, none⟩) (by show w.heap.size < _; omega)).trans t0
  replace t1 := (c.cell (p := ⟨w.heap.size, 1, none⟩) (by show w.heap.size < _; omega)).trans t1
  replace p0 := (c.cell (p := ⟨w109.heap.size, 0, none⟩) (by show w109.heap.size < _; omega)).trans p0
  replace p1 := (c.cell (p := ⟨w109.heap.size, 1, none⟩) (by show w109.heap.size < _; omega)).trans p1
  replace HB := Lib.hid (bel_then HB.out c)
  have szw119 := c.size
  clear c
  have Oc3 := Lib.hid ho
  clear ho
  go_wp2_with fail
  refine (eqIntS_c _ _ q3 q3 _ (rdi_own Ob3.out) (rdi_own Oc3.out)).mono ?_; rintro e w120 ⟨rfl, c⟩
  have Ob0 := Lib.hid (own_below Ob0.out c)
  have Ob1 := Lib.hid (own_below Ob1.out c)
  have Ob3 := Lib.hid (own_below Ob3.out c)
  have Ob4 := Lib.hid (own_below Ob4.out c)
  have Oc3 := Lib.hid (own_below Oc3.out c)
  replace t0 := (c.cell (p := ⟨w.heap.size, 0, none⟩) (by show w.heap.size < _; omega)).trans t0
  replace t1 := (c.cell (p := ⟨w.heap.size, 1, none⟩) (by show w.heap.size < _; omega)).trans t1
  replace p0 := (c.cell (p := ⟨w109.heap.size, 0, none⟩) (by show w109.heap.size < _; omega)).trans p0
  replace p1 := (c.cell (p := ⟨w109.heap.size, 1, none⟩) (by show w109.heap.size < _; omega)).trans p1
  replace HB := Lib.hid (bel_then HB.out c)
  have szw120 := c.size
  clear c
  go_wp2_with fail
  clear Oc3
  refine (toStringS_c _ f4 _ (by omega) (rd_below HF4.out HB.out)).mono ?_; rintro e w121 ⟨xc4, rfl, ho, c⟩
  have Ic4 := Lib.hid ho.lt
  have Ob0 := Lib.hid (own_below Ob0.out c)
  have Ob1 := Lib.hid (own_below Ob1.out c)
  have Ob3 := Lib.hid (own_below Ob3.out c)
  have Ob4 := Lib.hid (own_below Ob4.out c)
  replace t0 := (c.cell (p := ⟨w.heap.size, 0, none⟩) (by show w.heap.size < _; omega)).trans t0
  replace t1 := (c.cell (p := ⟨w.heap.size, 1, none⟩) (by show w.heap.size < _; omega)).trans t1
  replace p0 := (c.cell (p := ⟨w109.heap.size, 0, none⟩) (by show w109.heap.size < _; omega)).trans p0
  replace p1 := (c.cell (p := ⟨w109.heap.size, 1, none⟩) (by show w109.heap.size < _; omega)).trans p1
  replace HB := Lib.hid (bel_then HB.out c)
  have szw121 := c.size
  clear c
  have Oc4 := Lib.hid ho
  clear ho
  go_wp2_with fail
  refine (eqStringS_c _ _ f4 f4 _ (own_rd Ob4.out) (own_rd Oc4.out)).mono ?_; rintro e w122 ⟨rfl, c⟩
  have Ob0 := Lib.hid (own_below Ob0.out c)
  have Ob1 := Lib.hid (own_below Ob1.out c)
  have Ob3 := Lib.hid (own_below Ob3.out c)
  have Ob4 := Lib.hid (own_below Ob4.out c)
  have Oc4 := Lib.hid (own_below Oc4.out c)
  replace t0 := (c.cell (p := ⟨w.heap.size, 0, none⟩) (by show w.heap.size < _; omega)).trans t0
  replace t1 := (c.cell (p := ⟨w.heap.size, 1, none⟩) (by show w.heap.size < _; omega)).trans t1
  replace p0 := (c.cell (p := ⟨w109.heap.size, 0, none⟩) (by show w109.heap.size < _; omega)).trans p0
  replace p1 := (c.cell (p := ⟨w109.heap.size, 1, none⟩) (by show w109.heap.size < _; omega)).trans p1
  replace HB := Lib.hid (bel_then HB.out c)
  have szw122 := c.size
  clear c
  rw [decide_eq_true (rfl : f4 = f4)]
  go_wp2_with fail
  clear Oc4
  go_wp2
  go_ret
  exact ⟨rfl, HB.out⟩
end Go.Proofs.Ytcpchdbhpcebeaa
