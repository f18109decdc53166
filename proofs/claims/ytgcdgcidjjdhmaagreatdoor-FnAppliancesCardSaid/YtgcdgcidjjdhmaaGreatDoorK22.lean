/-
  slices.Clone at appliances. (joined by pack.py: CloneA)
-/
import Derived.Test.YtgcdgcidjjdhmaaGreatDoorK6
import Derived.Test.YtgcdgcidjjdhmaaGreatDoorK8
import Derived.Test.YtgcdgcidjjdhmaaGreatDoorK7
import Derived.Test.YtgcdgcidjjdhmaaGreatDoorK5
import Derived.Lib.SliceRun
import Derived.Laws.IdiomCopy
namespace Go.Proofs.YtgcdgcidjjdhmaaGreatDoor
set_option linter.unusedVariables false
set_option linter.unusedSimpArgs false
open Go.RowKit

theorem ap_one (l : List Ap) : ∀ u ∈ l.flatMap Ap.cells, u.oneCell' = true := fun u hu => by
  obtain ⟨a, _, h⟩ := List.mem_flatMap.1 hu
  simp only [Ap.cells, List.mem_cons, List.not_mem_nil, or_false] at h
  rcases h with rfl | rfl | rfl | rfl | rfl <;> rfl
set_option maxRecDepth 100000 in
set_option maxHeartbeats 1000000 in
theorem cloneA_c (v : Value) (l : List Ap) (w : World) (hr : Rd w v l.length (l.flatMap Ap.cells)) (hn : l.length ≤ 1000000) :
    Calls Tryz.prog 33 #[v] w fun e w' => ∃ x, e = .returned x ∧ w'.ownsRow w.heap.size 35 5 x l.length (l.flatMap Ap.cells) ∧ Below w.heap.size w w' := by
  have HR := Lib.hid hr
  obtain ⟨A, c, rfl, hc, hm, hr⟩ := hr
  obtain ⟨i0, hi, hz0, hz1, hz2⟩ := info_parts Tryz.infoAp
  have heq := fun (W : World) (n c n' c' : Nat) => Lib.run_eql_slice_nil (P := Tryz.prog) W 24 35 A n c n' c' Tryz.underlying24
  rcases A with _ | ad
  · have hl : l = [] := by
      cases l with
      | nil => rfl
      | cons x l => obtain ⟨b, off, h, _⟩ := hr (by simp); cases h
    subst hl
    clear hr HR
    go_enter Tryz.func33, Tryz.ntmps33
    go_wp2
    go_ret
    exact ⟨_, rfl, World.ownsRow_nil _ _ _ _, Below.refl _ _⟩
  · clear hr
    go_enter Tryz.func33, Tryz.ntmps33
    go_wp2_with (at_builtin; refine wpList_app_rd _ rfl _ _ 24 rfl w.heap.size 35 i0 _ 5 48 Tryz.underlying24 hi hz0 hz1 hz2 rfl (by decide) _ _ _ rfl (World.ownsRow_made (size := 5) w #[] 0 (Nat.le_refl _) (Nat.zero_le _) rfl) _ l.length (l.flatMap Ap.cells) rfl (rd_below HR.out (bel_al (Below.refl _ _) _)) (by rw [len_flat Ap.cells_len]) (ap_one l) (by rw [maxLen_eq]; omega) (by omega) (by simp) ?_; intro v' w' hown' hgrow _)
    go_ret
    refine ⟨_, rfl, by simpa using hown', ?_⟩
    refine bel_grown (bel_al (Below.refl _ _) _) hgrow (fun q e => ?_)
    have h : w.heap.size = q := Option.some.inj e
    omega
end Go.Proofs.YtgcdgcidjjdhmaaGreatDoor
