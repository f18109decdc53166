/-
  The walk of the law of Deliveries.
-/
import Derived.Test.YtbjiipicbcamnaaDelI
import Derived.Test.YtbjiipicbcamnaaDelS
import Derived.Test.YtbjiipicbcamnaaLaw
import Derived.Test.YtbjiipicbcamnaaTownV
import Derived.Test.YtbjiipicbcamnaaIntsC
import Derived.Test.YtbjiipicbcamnaaSSL
import Derived.Test.YtbjiipicbcamnaaTankS
import Derived.Test.YtbjiipicbcamnaaMarkTk
namespace Go.Proofs.Ytbjiipicbcamnaa
open Go.RowKit

set_option maxRecDepth 100000 in
set_option maxHeartbeats 4000000 in
theorem walk_FnExactDeliveries (w : World) (v0 : Value) (q0 : List Tk) (hq0 : Rd w v0 q0.length (q0.flatMap Tk.cells)) (a1 : Int) :
    Calls Try.prog 3 #[v0, .int .i64 a1] w fun en w' => en = .returned (.bool true) ∧ Below w.heap.size w w' := by
  have HQ0 := Lib.hid hq0
  obtain ⟨A0, c0, rfl, _⟩ := hq0
  by_cases hbt0 : (1048576 : Int) < q0.length
  · go_enter Try.func3, Try.ntmps3
    go_wp2_with (go_at_call 5; refine (szTankerS_big _ q0.length _ _ _ (by omega) (by omega) HQ0.out (by omega)).mono ?_; rintro e w' ⟨rfl, rfl⟩)
    go_ret
    exact ⟨rfl, (by repeat (first | exact Below.refl _ _ | assumption | refine bel_al ?_ _ | refine bel_dr ?_ | refine below_drewN ?_ _ | refine bel_then ?_ (by assumption)))⟩
  have hgl := deliveriesV_len q0 a1
  obtain ⟨r1, hr1⟩ : ∃ r1, (deliveriesV q0 a1).1 = r1 := ⟨_, rfl⟩
  obtain ⟨r2, hr2⟩ : ∃ r2, (deliveriesV q0 a1).2 = r2 := ⟨_, rfl⟩
  rw [hr1] at hgl
  have e1 : ∀ (W : World) (e : Ending) (W' : World), OwnSB (deliveriesV q0 a1) W e W' → ∃ x, e = .returned (.tuple #[x, .bool r2]) ∧ SS W' W.heap.size x r1 ∧ Below W.heap.size W W' := by
    rintro W e W' ⟨x, h1, h2, h3⟩
    rw [hr1] at h2
    rw [hr2] at h1
    exact ⟨x, h1, h2, h3⟩
  have E1 := Lib.hid e1
  clear e1 hr1 hr2
  go_enter Try.func3, Try.ntmps3
  go_wp2_with fail
  have HB : Hid (Below w.heap.size w w) := Lib.hid (Below.refl _ _)
  refine (szTankerS_fits _ q0.length _ _ _ (by omega) (rd_below HQ0.out HB.out) (by omega)).mono ?_; rintro e w101 ⟨rfl, rfl⟩
  go_wp2_with fail
  refine (toTankerS_c _ q0 _ (by omega) (rd_below HQ0.out HB.out)).mono ?_; rintro e w102 ⟨xa0, rfl, ho, c⟩
  have Ia0 := Lib.hid ho.lt
  replace HB := Lib.hid (bel_then HB.out c)
  have szw102 := c.size
  clear c
  have Oa0 := Lib.hid ho
  clear ho
  go_wp2_with fail
  refine (deliveriesS_c _ q0 a1 _ (own_rd Oa0.out)).mono ?_; intro e w103 hh; obtain ⟨xw0, rfl, ho, c⟩ := E1.out _ _ _ hh; clear hh
  have Oa0 := Lib.hid (own_below Oa0.out c)
  replace HB := Lib.hid (bel_then HB.out c)
  have szw103 := c.size
  clear c
  have Ow0 := Lib.hid ho.toB
  clear ho
  go_wp2_with fail
  clear Oa0
  refine (toTankerS_c _ q0 _ (by omega) (rd_below HQ0.out HB.out)).mono ?_; rintro e w104 ⟨xb0, rfl, ho, c⟩
  have Ib0 := Lib.hid ho.lt
  have Ow0 := Lib.hid (Ow0.out.below c)
  replace HB := Lib.hid (bel_then HB.out c)
  have szw104 := c.size
  clear c
  have Ob0 := Lib.hid ho
  clear ho
  obtain ⟨Ab0, cb0, hxb0, _⟩ := own_rd Ob0.out
  subst hxb0
  go_wp2_with fail
  refine (deliveriesI_c _ q0 a1 _ (own_rd Ob0.out)).mono ?_; intro e w105 hh; obtain ⟨xg0, rfl, ho, c⟩ := E1.out _ _ _ hh; clear hh
  have Ow0 := Lib.hid (Ow0.out.below c)
  have Ob0 := Lib.hid (own_below Ob0.out c)
  replace HB := Lib.hid (bel_then HB.out c)
  have szw105 := c.size
  clear c
  have Og0 := Lib.hid ho.toB
  clear ho
  go_wp2_with fail
  refine (eqIntSS_c _ _ r1 r1 _ Og0.out.ss.rd Ow0.out.ss.rd).mono ?_; rintro e w106 ⟨rfl, c⟩
  have Ow0 := Lib.hid (Ow0.out.below c)
  have Ob0 := Lib.hid (own_below Ob0.out c)
  have Og0 := Lib.hid (Og0.out.below c)
  replace HB := Lib.hid (bel_then HB.out c)
  have szw106 := c.size
  clear c
  rw [decide_eq_true (rfl : r1 = r1)]
  go_wp2_with fail
  refine (toTankerS_c _ q0 _ (by omega) (rd_below HQ0.out HB.out)).mono ?_; rintro e w107 ⟨xc0, rfl, ho, c⟩
  have Ic0 := Lib.hid ho.lt
  have Ow0 := Lib.hid (Ow0.out.below c)
  have Ob0 := Lib.hid (own_below Ob0.out c)
  have Og0 := Lib.hid (Og0.out.below c)
  replace HB := Lib.hid (bel_then HB.out c)
  have szw107 := c.size
  clear c
  have Oc0 := Lib.hid ho
  clear ho
  go_wp2_with fail
  refine (eqTankerS_c _ _ q0 q0 _ (own_rd Ob0.out) (own_rd Oc0.out)).mono ?_; rintro e w108 ⟨rfl, c⟩
  have Ow0 := Lib.hid (Ow0.out.below c)
  have Ob0 := Lib.hid (own_below Ob0.out c)
  have Og0 := Lib.hid (Og0.out.below c)
  have Oc0 := Lib.hid (own_below Oc0.out c)
  replace HB := Lib.hid (bel_then HB.out c)
  have szw108 := c.size
  clear c
  rw [decide_eq_true (rfl : q0 = q0)]
  go_wp2_with fail
  clear Oc0
  refine (markTankerS_c _ _ _ _ q0.length _ Ob0.out (by omega) (by omega) (by omega)).mono ?_; rintro e w109 ⟨rfl, gr⟩
  have Ow0 := Lib.hid (Ow0.out.kept gr (fun q' e' => by have := Ib0.out q' e'; omega))
  have Og0 := Lib.hid (Og0.out.kept gr (fun q' e' => by have := Ib0.out q' e'; omega))
  replace HB := Lib.hid (bel_mark HB.out HB.out.size gr (fun q' e' => by have := Ib0.out q' e'; omega))
  have szw109 := gr.size
  clear gr
  clear Ob0
  go_wp2_with fail
  refine (eqIntSS_c _ _ r1 r1 _ Og0.out.ss.rd Ow0.out.ss.rd).mono ?_; rintro e w110 ⟨rfl, c⟩
  have Ow0 := Lib.hid (Ow0.out.below c)
  have Og0 := Lib.hid (Og0.out.below c)
  replace HB := Lib.hid (bel_then HB.out c)
  have szw110 := c.size
  clear c
  rw [decide_eq_true (rfl : r1 = r1)]
  go_wp2_with fail
  obtain ⟨xs0, hx0⟩ : ∃ Z, Z = w104.heap.size := ⟨_, rfl⟩
  refine (markIntSS_c _ r1 _ _ _ Og0.out.ss (by omega) (by omega) (by omega) (by omega)).mono ?_; rintro e w111 ⟨rfl, hom, gr⟩
  have Ow0 := Lib.hid (Ow0.out.low gr (by omega))
  replace HB := Lib.hid (HB.out.trans (gr.mono (by omega)))
  have szw111 := gr.size
  clear gr
  replace Og0 := Lib.hid hom.toB
  clear hom hx0
  go_wp2_with fail
  refine (heldIntSS_c _ r1 _ _ Og0.out.ss.rd (by omega) (by omega) (by omega)).mono ?_; rintro e w112 ⟨rfl, c⟩
  have Ow0 := Lib.hid (Ow0.out.below c)
  have Og0 := Lib.hid (Og0.out.below c)
  replace HB := Lib.hid (bel_then HB.out c)
  have szw112 := c.size
  clear c
  go_wp2_with fail
  refine (toTankerS_c _ q0 _ (by omega) (rd_below HQ0.out HB.out)).mono ?_; rintro e w113 ⟨xd0, rfl, ho, c⟩
  have Id0 := Lib.hid ho.lt
  have Ow0 := Lib.hid (Ow0.out.below c)
  have Og0 := Lib.hid (Og0.out.below c)
  replace HB := Lib.hid (bel_then HB.out c)
  have szw113 := c.size
  clear c
  have Od0 := Lib.hid ho
  clear ho
  go_wp2_with fail
  refine (deliveriesI_c _ q0 a1 _ (own_rd Od0.out)).mono ?_; intro e w114 hh; obtain ⟨xh0, rfl, ho, c⟩ := E1.out _ _ _ hh; clear hh
  have Ow0 := Lib.hid (Ow0.out.below c)
  have Og0 := Lib.hid (Og0.out.below c)
  have Od0 := Lib.hid (own_below Od0.out c)
  replace HB := Lib.hid (bel_then HB.out c)
  have szw114 := c.size
  clear c
  have Oh0 := Lib.hid ho.toB
  clear ho
  go_wp2_with fail
  refine (eqIntSS_c _ _ r1 r1 _ Oh0.out.ss.rd Ow0.out.ss.rd).mono ?_; rintro e w115 ⟨rfl, c⟩
  have Ow0 := Lib.hid (Ow0.out.below c)
  have Og0 := Lib.hid (Og0.out.below c)
  have Od0 := Lib.hid (own_below Od0.out c)
  have Oh0 := Lib.hid (Oh0.out.below c)
  replace HB := Lib.hid (bel_then HB.out c)
  have szw115 := c.size
  clear c
  rw [decide_eq_true (rfl : r1 = r1)]
  go_wp2_with fail
  refine (heldIntSS_c _ r1 _ _ Og0.out.ss.rd (by omega) (by omega) (by omega)).mono ?_; rintro e w116 ⟨rfl, c⟩
  have Ow0 := Lib.hid (Ow0.out.below c)
  have Og0 := Lib.hid (Og0.out.below c)
  have Od0 := Lib.hid (own_below Od0.out c)
  have Oh0 := Lib.hid (Oh0.out.below c)
  replace HB := Lib.hid (bel_then HB.out c)
  have szw116 := c.size
  clear c
  go_wp2
  go_ret
  exact ⟨rfl, HB.out⟩
end Go.Proofs.Ytbjiipicbcamnaa
