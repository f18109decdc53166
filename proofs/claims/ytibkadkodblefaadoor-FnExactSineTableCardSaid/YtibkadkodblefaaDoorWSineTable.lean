/-
  The walk of the law of SineTable.
-/
import Derived.Test.YtibkadkodblefaaDoorLadS
import Derived.Test.YtibkadkodblefaaDoorLaw
import Derived.Test.YtibkadkodblefaaDoorIntsC
namespace Go.Proofs.YtibkadkodblefaaDoor
open Go.RowKit

set_option maxRecDepth 100000 in
set_option maxHeartbeats 4000000 in
theorem walk_FnExactSineTable (w : World) (ht : SinTab w) :
    Calls Tryd.prog 3 #[] w fun en w' => en = .returned (.bool true) ∧ Below w.heap.size w w' := by
  have HT := Lib.hid ht
  clear ht
  obtain ⟨r1, hr1⟩ : ∃ r1, sinL = r1 := ⟨_, rfl⟩
  have hgl : r1.length = 91 := by rw [← hr1]; rfl
  have eS := fun W => (sineTableS_c W)
  have eI := fun W h => (sineTableI_c W h)
  rw [hr1] at eS eI
  have ES := Lib.hid eS
  have EI := Lib.hid eI
  clear eS eI hr1
  have hgl2 : r1.length ≤ 1000 := by omega
  clear hgl
  go_enter Tryd.func3, Tryd.ntmps3
  go_wp2_with fail
  refine (ES.out _).mono ?_; rintro e w1 ⟨xw, rfl, ho, c⟩
  have Iw := Lib.hid ho.lt
  have HB := Lib.hid c
  have sz1 := c.size
  have Ow := Lib.hid ho
  clear ho c
  go_wp2_with fail
  refine (EI.out _ (sinTab_below HT.out HB.out)).mono ?_; rintro e w2 ⟨xg, rfl, ho, c⟩
  have Ig := Lib.hid ho.lt
  replace Ow := Lib.hid (own_below Ow.out c)
  replace HB := Lib.hid (bel_then HB.out c)
  have sz2 := c.size
  have Og := Lib.hid ho
  clear ho c
  go_wp2_with fail
  refine (eqIntS_c _ _ r1 r1 _ (rdi_own Og.out) (rdi_own Ow.out)).mono ?_; rintro e w3 ⟨rfl, c⟩
  replace Ow := Lib.hid (own_below Ow.out c)
  replace Og := Lib.hid (own_below Og.out c)
  replace HB := Lib.hid (bel_then HB.out c)
  have sz3 := c.size
  clear c
  rw [decide_eq_true (rfl : r1 = r1)]
  go_wp2_with fail
  refine (markIntS_c _ r1 _ _ r1.length _ Og.out (by omega) (by omega) (by omega)).mono ?_; rintro e w4 ⟨rfl, hom, gr⟩
  replace Ow := Lib.hid (kept2 Ow.out gr (fun q q' e e' => by have := Iw.out q e; have := Ig.out q' e'; omega))
  replace HB := Lib.hid (bel_mark HB.out HB.out.size gr (fun q' e' => by have := Ig.out q' e'; omega))
  have sz4 := gr.size
  clear gr
  replace Og := Lib.hid hom
  clear hom
  go_wp2_with fail
  refine (heldIntS_c _ _ r1.length _ (rdi_own Og.out) (by omega) (by omega) (by omega)).mono ?_; rintro e w5 ⟨rfl, c⟩
  replace Ow := Lib.hid (own_below Ow.out c)
  replace Og := Lib.hid (own_below Og.out c)
  replace HB := Lib.hid (bel_then HB.out c)
  have sz5 := c.size
  clear c
  go_wp2_with fail
  refine (EI.out _ (sinTab_below HT.out HB.out)).mono ?_; rintro e w6 ⟨xh, rfl, ho, c⟩
  replace Ow := Lib.hid (own_below Ow.out c)
  replace Og := Lib.hid (own_below Og.out c)
  replace HB := Lib.hid (bel_then HB.out c)
  have sz6 := c.size
  have Oh := Lib.hid ho
  clear ho c
  go_wp2_with fail
  refine (eqIntS_c _ _ r1 r1 _ (rdi_own Oh.out) (rdi_own Ow.out)).mono ?_; rintro e w7 ⟨rfl, c⟩
  replace Ow := Lib.hid (own_below Ow.out c)
  replace Og := Lib.hid (own_below Og.out c)
  replace HB := Lib.hid (bel_then HB.out c)
  have sz7 := c.size
  clear c
  rw [decide_eq_true (rfl : r1 = r1)]
  go_wp2_with fail
  refine (heldIntS_c _ _ r1.length _ (rdi_own Og.out) (by omega) (by omega) (by omega)).mono ?_; rintro e w8 ⟨rfl, c⟩
  replace HB := Lib.hid (bel_then HB.out c)
  clear c
  go_wp2
  go_ret
  exact ⟨rfl, HB.out⟩
end Go.Proofs.YtibkadkodblefaaDoor
