/-
  The walk of the law of FarthestFor.
-/
import Derived.Test.YtibkadkodblefaaDoorLadE
import Derived.Test.YtibkadkodblefaaDoorLaw
import Derived.Test.YtibkadkodblefaaDoorTownV
import Derived.Test.YtibkadkodblefaaDoorIntsC
namespace Go.Proofs.YtibkadkodblefaaDoor
open Go.RowKit

set_option maxRecDepth 100000 in
set_option maxHeartbeats 4000000 in
theorem walk_FnExactFarthestFor (w : World) (b0 l0 o0 s0 m0 : Int) (a1 : Int) (ht : SinTab w) :
    Calls Tryd.prog 5 #[ldV b0 l0 o0 s0 m0, .int .i64 a1] w fun en w' => en = .returned (.bool true) ∧ Below w.heap.size w w' := by
  have HT := Lib.hid ht
  clear ht
  obtain ⟨r0, hr0'⟩ : ∃ r0, (farthestForV b0 l0 o0 s0 m0 a1).1 = r0 := ⟨_, rfl⟩
  obtain ⟨r1, hr1'⟩ : ∃ r1, (farthestForV b0 l0 o0 s0 m0 a1).2 = r1 := ⟨_, rfl⟩
  have e1 : ∀ (W : World) (e : Ending) (W' : World), (e = .returned (.tuple #[.int .i64 ((farthestForV b0 l0 o0 s0 m0 a1).1), .bool ((farthestForV b0 l0 o0 s0 m0 a1).2)]) ∧ Below W.heap.size W W') → e = .returned (.tuple #[.int .i64 r0, .bool r1]) ∧ Below W.heap.size W W' := by
    intro W e W' h
    rw [hr0', hr1'] at h
    exact h
  have E1 := Lib.hid e1
  clear e1 hr0' hr1'
  have hne0 : (r0 != r0) = false := by simp
  have hne1 : (r1 != r1) = false := by simp
  go_enter Tryd.func5, Tryd.ntmps5
  go_wp2_with fail
  generalize hw1 : World.alloc w _ = w100
  have t0 : w100.cell? ⟨w.heap.size, 0, none⟩ = some (.int .i64 b0) := by subst hw1; simp [go_sem]
  have t1 : w100.cell? ⟨w.heap.size, 1, none⟩ = some (.int .i64 l0) := by subst hw1; simp [go_sem]
  have t2 : w100.cell? ⟨w.heap.size, 2, none⟩ = some (.int .i64 o0) := by subst hw1; simp [go_sem]
  have t3 : w100.cell? ⟨w.heap.size, 3, none⟩ = some (.int .i64 s0) := by subst hw1; simp [go_sem]
  have t4 : w100.cell? ⟨w.heap.size, 4, none⟩ = some (.int .i64 m0) := by subst hw1; simp [go_sem]
  have HB : Hid (Below w.heap.size w w100) := Lib.hid (by subst hw1; exact bel_al (Below.refl _ _) _)
  have szw100 : w.heap.size < w100.heap.size := by subst hw1; simp
  clear hw1
  go_wp2_with fail
  refine (toLadder_c b0 l0 o0 s0 m0 _).mono ?_; rintro e w101 ⟨rfl, c⟩
  replace t0 := (c.cell (p := ⟨w.heap.size, 0, none⟩) (by show w.heap.size < _; omega)).trans t0
  replace t1 := (c.cell (p := ⟨w.heap.size, 1, none⟩) (by show w.heap.size < _; omega)).trans t1
  replace t2 := (c.cell (p := ⟨w.heap.size, 2, none⟩) (by show w.heap.size < _; omega)).trans t2
  replace t3 := (c.cell (p := ⟨w.heap.size, 3, none⟩) (by show w.heap.size < _; omega)).trans t3
  replace t4 := (c.cell (p := ⟨w.heap.size, 4, none⟩) (by show w.heap.size < _; omega)).trans t4
  replace HB := Lib.hid (bel_then HB.out c)
  have szw101 := c.size
  clear c
  go_wp2_with fail
  refine (farthestForS_c b0 l0 o0 s0 m0 a1 _ ).mono ?_; intro e w102 hh; obtain ⟨rfl, c⟩ := E1.out _ _ _ hh; clear hh
  replace t0 := (c.cell (p := ⟨w.heap.size, 0, none⟩) (by show w.heap.size < _; omega)).trans t0
  replace t1 := (c.cell (p := ⟨w.heap.size, 1, none⟩) (by show w.heap.size < _; omega)).trans t1
  replace t2 := (c.cell (p := ⟨w.heap.size, 2, none⟩) (by show w.heap.size < _; omega)).trans t2
  replace t3 := (c.cell (p := ⟨w.heap.size, 3, none⟩) (by show w.heap.size < _; omega)).trans t3
  replace t4 := (c.cell (p := ⟨w.heap.size, 4, none⟩) (by show w.heap.size < _; omega)).trans t4
  replace HB := Lib.hid (bel_then HB.out c)
  have szw102 := c.size
  clear c
  go_wp2_with fail
  refine (toLadder_c b0 l0 o0 s0 m0 _).mono ?_; rintro e w103 ⟨rfl, c⟩
  replace t0 := (c.cell (p := ⟨w.heap.size, 0, none⟩) (by show w.heap.size < _; omega)).trans t0
  replace t1 := (c.cell (p := ⟨w.heap.size, 1, none⟩) (by show w.heap.size < _; omega)).trans t1
  replace t2 := (c.cell (p := ⟨w.heap.size, 2, none⟩) (by show w.heap.size < _; omega)).trans t2
  replace t3 := (c.cell (p := ⟨w.heap.size, 3, none⟩) (by show w.heap.size < _; omega)).trans t3
  replace t4 := (c.cell (p := ⟨w.heap.size, 4, none⟩) (by show w.heap.size < _; omega)).trans t4
  replace HB := Lib.hid (bel_then HB.out c)
  have szw103 := c.size
  clear c
  go_wp2_with fail
  refine (farthestForI_c b0 l0 o0 s0 m0 a1 _ (sinTab_below HT.out HB.out)).mono ?_; intro e w104 hh; obtain ⟨rfl, c⟩ := E1.out _ _ _ hh; clear hh
  replace t0 := (c.cell (p := ⟨w.heap.size, 0, none⟩) (by show w.heap.size < _; omega)).trans t0
  replace t1 := (c.cell (p := ⟨w.heap.size, 1, none⟩) (by show w.heap.size < _; omega)).trans t1
  replace t2 := (c.cell (p := ⟨w.heap.size, 2, none⟩) (by show w.heap.size < _; omega)).trans t2
  replace t3 := (c.cell (p := ⟨w.heap.size, 3, none⟩) (by show w.heap.size < _; omega)).trans t3
  replace t4 := (c.cell (p := ⟨w.heap.size, 4, none⟩) (by show w.heap.size < _; omega)).trans t4
  replace HB := Lib.hid (bel_then HB.out c)
  have szw104 := c.size
  clear c
  go_wp2
  go_ret
  exact ⟨rfl, HB.out⟩
end Go.Proofs.YtibkadkodblefaaDoor
