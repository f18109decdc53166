/-
  The walk of the law of ChoiceText.
-/
import Derived.Test.YtddccjdppbcnbaaDoorChText
import Derived.Test.YtddccjdppbcnbaaDoorLaw
import Derived.Test.YtddccjdppbcnbaaDoorTownV
import Derived.Test.YtddccjdppbcnbaaDoorIntsC
import Derived.Test.YtddccjdppbcnbaaDoorApS
import Derived.Test.YtddccjdppbcnbaaDoorMarkAp
import Derived.Test.YtddccjdppbcnbaaDoorChS
namespace Go.Proofs.YtddccjdppbcnbaaDoor
open Go.RowKit

set_option maxRecDepth 100000 in
set_option maxHeartbeats 4000000 in
theorem walk_FnExactChoiceText (w : World) (v0 : Value) (f0 : List Ch) (hz0 : ∀ x ∈ f0, x.cn.size ≤ 9223372036854775807) (hf0 : Rd w v0 f0.length (f0.flatMap Ch.cells)) (ht : PowTab w) :
    Calls Tryd.prog 3 #[v0] w fun en w' => en = .returned (.bool true) ∧ Below w.heap.size w w' := by
  have HT := Lib.hid ht
  clear ht
  have HZ0 := Lib.hid hz0
  have HF0 := Lib.hid hf0
  obtain ⟨AA0, cc0, rfl, _⟩ := hf0
  clear hz0
  obtain ⟨r0, hr0'⟩ : ∃ r0, (choiceTextV f0).1 = r0 := ⟨_, rfl⟩
  obtain ⟨r1, hr1'⟩ : ∃ r1, (choiceTextV f0).2 = r1 := ⟨_, rfl⟩
  have e1 : ∀ (W : World) (e : Ending) (W' : World), (e = .returned (.tuple #[.string ((choiceTextV f0).1), .bool ((choiceTextV f0).2)]) ∧ Below W.heap.size W W') → e = .returned (.tuple #[.string r0, .bool r1]) ∧ Below W.heap.size W W' := by
    intro W e W' h
    rw [hr0', hr1'] at h
    exact h
  have E1 := Lib.hid e1
  clear e1 hr0' hr1'
  have hne1 : (r1 != r1) = false := by simp
  go_enter Tryd.func3, Tryd.ntmps3
  go_wp2_with fail
  have HB : Hid (Below w.heap.size w w) := Lib.hid (Below.refl _ _)
  refine (szChoiceS_c _ f0 _ _ (by omega) (by omega) HZ0.out (rd_below HF0.out HB.out)).mono ?_; rintro e w101 ⟨rz0, rfl, c, hrz0⟩
  replace HB := Lib.hid (bel_then HB.out c)
  have szw101 := c.size
  clear c
  rcases hrz0 with rfl | ⟨hrz00, hrz10, hrzl0⟩
  · go_wp2
    go_ret
    exact ⟨rfl, HB.out⟩
  go_wp2_with fail
  refine (toChoiceS_c _ f0 _ (by omega) (rd_below HF0.out HB.out)).mono ?_; rintro e w102 ⟨xa0, rfl, ho, c⟩
  have Ia0 := Lib.hid ho.lt
  replace HB := Lib.hid (bel_then HB.out c)
  have szw102 := c.size
  clear c
  have Oa0 := Lib.hid ho
  clear ho
  go_wp2_with fail
  refine (choiceTextS_c _ f0 _ HZ0.out (own_rd Oa0.out)).mono ?_; intro e w103 hh; obtain ⟨rfl, c⟩ := E1.out _ _ _ hh; clear hh
  have Oa0 := Lib.hid (own_below Oa0.out c)
  replace HB := Lib.hid (bel_then HB.out c)
  have szw103 := c.size
  clear c
  go_wp2_with fail
  clear Oa0
  refine (toChoiceS_c _ f0 _ (by omega) (rd_below HF0.out HB.out)).mono ?_; rintro e w104 ⟨xb0, rfl, ho, c⟩
  have Ib0 := Lib.hid ho.lt
  replace HB := Lib.hid (bel_then HB.out c)
  have szw104 := c.size
  clear c
  have Ob0 := Lib.hid ho
  clear ho
  obtain ⟨Ab0, cb0, hxb0, _⟩ := own_rd Ob0.out
  subst hxb0
  go_wp2_with fail
  refine (choiceTextI_c _ f0 _ HZ0.out (own_rd Ob0.out) (powTab_below HT.out HB.out)).mono ?_; intro e w105 hh; obtain ⟨rfl, c⟩ := E1.out _ _ _ hh; clear hh
  have Ob0 := Lib.hid (own_below Ob0.out c)
  replace HB := Lib.hid (bel_then HB.out c)
  have szw105 := c.size
  clear c
  go_wp2_with fail
  refine (toChoiceS_c _ f0 _ (by omega) (rd_below HF0.out HB.out)).mono ?_; rintro e w106 ⟨xc0, rfl, ho, c⟩
  have Ic0 := Lib.hid ho.lt
  have Ob0 := Lib.hid (own_below Ob0.out c)
  replace HB := Lib.hid (bel_then HB.out c)
  have szw106 := c.size
  clear c
  have Oc0 := Lib.hid ho
  clear ho
  go_wp2_with fail
  refine (eqChoiceS_c _ _ f0 f0 _ (own_rd Ob0.out) (own_rd Oc0.out)).mono ?_; rintro e w107 ⟨rfl, c⟩
  have Ob0 := Lib.hid (own_below Ob0.out c)
  have Oc0 := Lib.hid (own_below Oc0.out c)
  replace HB := Lib.hid (bel_then HB.out c)
  have szw107 := c.size
  clear c
  rw [decide_eq_true (rfl : f0 = f0)]
  go_wp2_with fail
  clear Oc0
  go_wp2
  go_ret
  exact ⟨rfl, HB.out⟩
end Go.Proofs.YtddccjdppbcnbaaDoor
