/-
  The walk of the law of MovesText.
-/
import Derived.Test.YtjogndeodgibfaaDoorMvText
import Derived.Test.YtjogndeodgibfaaDoorLaw
import Derived.Test.YtjogndeodgibfaaDoorTownV
import Derived.Test.YtjogndeodgibfaaDoorIntsC
namespace Go.Proofs.YtjogndeodgibfaaDoor
open Go.RowKit

set_option maxRecDepth 100000 in
set_option maxHeartbeats 4000000 in
theorem walk_FnExactMovesText (w : World) (v0 : Value) (q0 : List Int) (hq0 : RdI w v0 q0) (v1 : Value) (q1 : List Int) (hq1 : RdI w v1 q1) (v2 : Value) (q2 : List Int) (hq2 : RdI w v2 q2) :
    Calls Tryd.prog 3 #[v0, v1, v2] w fun en w' => en = .returned (.bool true) ∧ Below w.heap.size w w' := by
  have HQ0 := Lib.hid hq0
  obtain ⟨A0, c0, rfl, _⟩ := hq0
  have HQ1 := Lib.hid hq1
  obtain ⟨A1, c1, rfl, _⟩ := hq1
  have HQ2 := Lib.hid hq2
  obtain ⟨A2, c2, rfl, _⟩ := hq2
  by_cases hbq0 : (1048576 : Int) < q0.length
  · go_enter Tryd.func3, Tryd.ntmps3
    go_wp2
    go_ret
    exact ⟨rfl, (by repeat (first | exact Below.refl _ _ | assumption | refine bel_al ?_ _ | refine bel_dr ?_ | refine below_drewN ?_ _ | refine bel_then ?_ (by assumption)))⟩
  by_cases hbq1 : (1048576 : Int) < q1.length
  · go_enter Tryd.func3, Tryd.ntmps3
    go_wp2
    go_ret
    exact ⟨rfl, (by repeat (first | exact Below.refl _ _ | assumption | refine bel_al ?_ _ | refine bel_dr ?_ | refine below_drewN ?_ _ | refine bel_then ?_ (by assumption)))⟩
  by_cases hbq2 : (1048576 : Int) < q2.length
  · go_enter Tryd.func3, Tryd.ntmps3
    go_wp2
    go_ret
    exact ⟨rfl, (by repeat (first | exact Below.refl _ _ | assumption | refine bel_al ?_ _ | refine bel_dr ?_ | refine below_drewN ?_ _ | refine bel_then ?_ (by assumption)))⟩
  obtain ⟨r0, hr0'⟩ : ∃ r0, (movesTextV q0 q1 q2).1 = r0 := ⟨_, rfl⟩
  obtain ⟨r1, hr1'⟩ : ∃ r1, (movesTextV q0 q1 q2).2 = r1 := ⟨_, rfl⟩
  have e1 : ∀ (W : World) (e : Ending) (W' : World), (e = .returned (.tuple #[.string ((movesTextV q0 q1 q2).1), .bool ((movesTextV q0 q1 q2).2)]) ∧ Below W.heap.size W W') → e = .returned (.tuple #[.string r0, .bool r1]) ∧ Below W.heap.size W W' := by
    intro W e W' h
    rw [hr0', hr1'] at h
    exact h
  have E1 := Lib.hid e1
  clear e1 hr0' hr1'
  have hne1 : (r1 != r1) = false := by simp
  go_enter Tryd.func3, Tryd.ntmps3
  go_wp2_with fail
  have HB : Hid (Below w.heap.size w w) := Lib.hid (Below.refl _ _)
  refine (toIntS_c _ q0 _ (by omega) (rdi_below HQ0.out HB.out)).mono ?_; rintro e w101 ⟨xa0, rfl, ho, c⟩
  have Ia0 := Lib.hid ho.lt
  replace HB := Lib.hid (bel_then HB.out c)
  have szw101 := c.size
  clear c
  have Oa0 := Lib.hid ho
  clear ho
  go_wp2_with fail
  refine (toIntS_c _ q1 _ (by omega) (rdi_below HQ1.out HB.out)).mono ?_; rintro e w102 ⟨xa1, rfl, ho, c⟩
  have Ia1 := Lib.hid ho.lt
  have Oa0 := Lib.hid (own_below Oa0.out c)
  replace HB := Lib.hid (bel_then HB.out c)
  have szw102 := c.size
  clear c
  have Oa1 := Lib.hid ho
  clear ho
  go_wp2_with fail
  refine (toIntS_c _ q2 _ (by omega) (rdi_below HQ2.out HB.out)).mono ?_; rintro e w103 ⟨xa2, rfl, ho, c⟩
  have Ia2 := Lib.hid ho.lt
  have Oa0 := Lib.hid (own_below Oa0.out c)
  have Oa1 := Lib.hid (own_below Oa1.out c)
  replace HB := Lib.hid (bel_then HB.out c)
  have szw103 := c.size
  clear c
  have Oa2 := Lib.hid ho
  clear ho
  go_wp2_with fail
  refine (movesTextS_c _ q0 _ q1 _ q2 _ (rdi_own Oa0.out) (rdi_own Oa1.out) (rdi_own Oa2.out)).mono ?_; intro e w104 hh; obtain ⟨rfl, c⟩ := E1.out _ _ _ hh; clear hh
  have Oa0 := Lib.hid (own_below Oa0.out c)
  have Oa1 := Lib.hid (own_below Oa1.out c)
  have Oa2 := Lib.hid (own_below Oa2.out c)
  replace HB := Lib.hid (bel_then HB.out c)
  have szw104 := c.size
  clear c
  go_wp2_with fail
  clear Oa0
  clear Oa1
  clear Oa2
  refine (toIntS_c _ q0 _ (by omega) (rdi_below HQ0.out HB.out)).mono ?_; rintro e w105 ⟨xb0, rfl, ho, c⟩
  have Ib0 := Lib.hid ho.lt
  replace HB := Lib.hid (bel_then HB.out c)
  have szw105 := c.size
  clear c
  have Ob0 := Lib.hid ho
  clear ho
  obtain ⟨Ab0, cb0, hxb0, _⟩ := own_rd Ob0.out
  subst hxb0
  go_wp2_with fail
  refine (toIntS_c _ q1 _ (by omega) (rdi_below HQ1.out HB.out)).mono ?_; rintro e w106 ⟨xb1, rfl, ho, c⟩
  have Ib1 := Lib.hid ho.lt
  have Ob0 := Lib.hid (own_below Ob0.out c)
  replace HB := Lib.hid (bel_then HB.out c)
  have szw106 := c.size
  clear c
  have Ob1 := Lib.hid ho
  clear ho
  obtain ⟨Ab1, cb1, hxb1, _⟩ := own_rd Ob1.out
  subst hxb1
  go_wp2_with fail
  refine (toIntS_c _ q2 _ (by omega) (rdi_below HQ2.out HB.out)).mono ?_; rintro e w107 ⟨xb2, rfl, ho, c⟩
  have Ib2 := Lib.hid ho.lt
  have Ob0 := Lib.hid (own_below Ob0.out c)
  have Ob1 := Lib.hid (own_below Ob1.out c)
  replace HB := Lib.hid (bel_then HB.out c)
  have szw107 := c.size
  clear c
  have Ob2 := Lib.hid ho
  clear ho
  obtain ⟨Ab2, cb2, hxb2, _⟩ := own_rd Ob2.out
  subst hxb2
  go_wp2_with fail
  refine (movesTextI_c _ q0 _ q1 _ q2 _ (rdi_own Ob0.out) (rdi_own Ob1.out) (rdi_own Ob2.out)).mono ?_; intro e w108 hh; obtain ⟨rfl, c⟩ := E1.out _ _ _ hh; clear hh
  have Ob0 := Lib.hid (own_below Ob0.out c)
  have Ob1 := Lib.hid (own_below Ob1.out c)
  have Ob2 := Lib.hid (own_below Ob2.out c)
  replace HB := Lib.hid (bel_then HB.out c)
  have szw108 := c.size
  clear c
  go_wp2_with fail
  refine (toIntS_c _ q0 _ (by omega) (rdi_below HQ0.out HB.out)).mono ?_; rintro e w109 ⟨xc0, rfl, ho, c⟩
  have Ic0 := Lib.hid ho.lt
  have Ob0 := Lib.hid (own_below Ob0.out c)
  have Ob1 := Lib.hid (own_below Ob1.out c)
  have Ob2 := Lib.hid (own_below Ob2.out c)
  replace HB := Lib.hid (bel_then HB.out c)
  have szw109 := c.size
  clear c
  have Oc0 := Lib.hid ho
  clear ho
  go_wp2_with fail
  refine (eqIntS_c _ _ q0 q0 _ (rdi_own Ob0.out) (rdi_own Oc0.out)).mono ?_; rintro e w110 ⟨rfl, c⟩
  have Ob0 := Lib.hid (own_below Ob0.out c)
  have Ob1 := Lib.hid (own_below Ob1.out c)
  have Ob2 := Lib.hid (own_below Ob2.out c)
  have Oc0 := Lib.hid (own_below Oc0.out c)
  replace HB := Lib.hid (bel_then HB.out c)
  have szw110 := c.size
  clear c
  go_wp2_with fail
  clear Oc0
  refine (toIntS_c _ q1 _ (by omega) (rdi_below HQ1.out HB.out)).mono ?_; rintro e w111 ⟨xc1, rfl, ho, c⟩
  have Ic1 := Lib.hid ho.lt
  have Ob0 := Lib.hid (own_below Ob0.out c)
  have Ob1 := Lib.hid (own_below Ob1.out c)
  have Ob2 := Lib.hid (own_below Ob2.out c)
  replace HB := Lib.hid (bel_then HB.out c)
  have szw111 := c.size
  clear c
  have Oc1 := Lib.hid ho
  clear ho
  go_wp2_with fail
  refine (eqIntS_c _ _ q1 q1 _ (rdi_own Ob1.out) (rdi_own Oc1.out)).mono ?_; rintro e w112 ⟨rfl, c⟩
  have Ob0 := Lib.hid (own_below Ob0.out c)
  have Ob1 := Lib.hid (own_below Ob1.out c)
  have Ob2 := Lib.hid (own_below Ob2.out c)
  have Oc1 := Lib.hid (own_below Oc1.out c)
  replace HB := Lib.hid (bel_then HB.out c)
  have szw112 := c.size
  clear c
  go_wp2_with fail
  clear Oc1
  refine (toIntS_c _ q2 _ (by omega) (rdi_below HQ2.out HB.out)).mono ?_; rintro e w113 ⟨xc2, rfl, ho, c⟩
  have Ic2 := Lib.hid ho.lt
  have Ob0 := Lib.hid (own_below Ob0.out c)
  have Ob1 := Lib.hid (own_below Ob1.out c)
  have Ob2 := Lib.hid (own_below Ob2.out c)
  replace HB := Lib.hid (bel_then HB.out c)
  have szw113 := c.size
  clear c
  have Oc2 := Lib.hid ho
  clear ho
  go_wp2_with fail
  refine (eqIntS_c _ _ q2 q2 _ (rdi_own Ob2.out) (rdi_own Oc2.out)).mono ?_; rintro e w114 ⟨rfl, c⟩
  have Ob0 := Lib.hid (own_below Ob0.out c)
  have Ob1 := Lib.hid (own_below Ob1.out c)
  have Ob2 := Lib.hid (own_below Ob2.out c)
  have Oc2 := Lib.hid (own_below Oc2.out c)
  replace HB := Lib.hid (bel_then HB.out c)
  have szw114 := c.size
  clear c
  go_wp2_with fail
  clear Oc2
  go_wp2
  go_ret
  exact ⟨rfl, HB.out⟩
end Go.Proofs.YtjogndeodgibfaaDoor
