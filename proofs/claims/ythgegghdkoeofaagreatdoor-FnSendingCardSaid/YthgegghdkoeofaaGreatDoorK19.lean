/-
  slices.Clone at ints. (joined by pack.py: Clone)
-/
import Derived.Test.YthgegghdkoeofaaGreatDoorK3
import Derived.Test.YthgegghdkoeofaaGreatDoorK8
import Derived.Test.YthgegghdkoeofaaGreatDoorK7
import Derived.Lib.SliceRun
import Derived.Laws.IdiomCopy
namespace Go.Proofs.YthgegghdkoeofaaGreatDoor
set_option linter.unusedVariables false
set_option linter.unusedSimpArgs false
open Go.RowKit

set_option maxRecDepth 100000 in
set_option maxHeartbeats 1000000 in
theorem clone_c (v : Value) (l : List Int) (w : World) (hr : RdI w v l) (hn : l.length ≤ 1000000) :
    Calls Tryz.prog 138 #[v] w (OwnI l w) := by
  have HR := Lib.hid hr
  obtain ⟨A, c, rfl, hc, hm, hr⟩ := hr
  obtain ⟨i0, hi, hz0, hz1, hz2⟩ := info_parts Tryz.infoInt
  have heq := fun (W : World) (n c n' c' : Nat) => Lib.run_eql_slice_nil (P := Tryz.prog) W 48 3 A n c n' c' Tryz.underlying48
  rcases A with _ | ad
  · have hl : l = [] := by
      cases l with
      | nil => rfl
      | cons x l => obtain ⟨b, off, h, _⟩ := hr (by simp); cases h
    subst hl
    clear hr HR
    go_enter Tryz.func138, Tryz.ntmps138
    go_wp2
    go_ret
    exact ⟨_, rfl, World.ownsRow_nil _ _ _ _, Below.refl _ _⟩
  · clear hr
    go_enter Tryz.func138, Tryz.ntmps138
    go_wp2_with (at_builtin; refine wpList_app_rd _ rfl _ _ 48 rfl w.heap.size 3 i0 (.int .i64 0) 1 8 Tryz.underlying48 hi hz0 hz1 hz2 rfl (by decide) _ _ _ rfl (World.ownsRow_made (size := 1) w #[] 0 (Nat.le_refl _) (Nat.zero_le _) rfl) _ l.length (ints l) rfl (rd_below HR.out (bel_al (Below.refl _ _) _)) (by rw [ints_len]; omega) (ints_one l) (by rw [maxLen_eq]; omega) (by omega) (by simp) ?_; intro v' w' hown' hgrow _)
    go_ret
    refine ⟨_, rfl, by simpa using hown', ?_⟩
    refine bel_grown (bel_al (Below.refl _ _) _) hgrow (fun q e => ?_)
    have h : w.heap.size = q := Option.some.inj e
    omega
end Go.Proofs.YthgegghdkoeofaaGreatDoor
