/-
  CoverTimes on both sides.
-/
import Derived.Test.YtemcdgchleijbaaCovS
import Derived.Test.YtemcdgchleijbaaSta
namespace Go.Proofs.Ytemcdgchleijbaa
open Go.RowKit

def coverTimesV (n : Int) (l : List St) (q : List Int) : List Int × Bool := if goodSta n l q then (coverL n.toNat (arcs l) q, true) else ([], false)
theorem goodSta_true {n : Int} {l : List St} {q : List Int} (h : goodSta n l q = true) : goodTown n l = true ∧ (∀ x ∈ q, 0 ≤ x ∧ x ≤ n - 1) ∧ q.length ≤ 6 := by
  simp only [goodSta, Bool.and_eq_true, decide_eq_true_eq] at h
  exact ⟨h.1, rising_mem h.2.1, h.2.2⟩
theorem coverTimesV_len (n : Int) (l : List St) (q : List Int) : (coverTimesV n l q).1.length ≤ 1000000 := by
  unfold coverTimesV
  split
  · rename_i h
    have := goodTown_true (goodSta_true h).1
    simp only [coverL_len]; omega
  · simp
theorem nat_of {n : Int} (h : 1 ≤ n) : ∃ m : Nat, n = (m : Int) := ⟨n.toNat, by omega⟩

set_option maxHeartbeats 1000000 in
theorem coverTimesI_c (n : Int) (s : Value) (l : List St) (v : Value) (q : List Int) (w : World) (hr : Rd w s l.length (l.flatMap St.cells)) (hq : RdI w v q) :
    Calls Try.prog 30 #[.agg #[.int .i64 n, s], v] w (OwnIB (coverTimesV n l q) w) := by
  have HR := Lib.hid hr
  have HQ := Lib.hid hq
  clear hr hq
  have hbx : ∀ o, Below w.heap.size w (w.alloc o) := fun o => bel_al (Below.refl _ _) o
  by_cases hok : goodSta n l q = true
  · have hk := goodSta_true hok
    obtain ⟨hg, hqm, _⟩ := hk
    obtain ⟨m, rfl⟩ := nat_of (goodTown_true hg).1
    have HF : Hid (coverTimesV m l q = (coverL m (arcs l) q, true)) := Lib.hid (by unfold coverTimesV; rw [if_pos hok, Int.toNat_natCast])
    have HG := Lib.hid hg
    have HM := Lib.hid hqm
    have HOK := Lib.hid hok
    clear hg hqm hok
    go_enter Try.func30, Try.ntmps30
    go_wp2_with fail
    generalize hw1 : World.alloc w _ = w1
    have k0 : w1.cell? ⟨w.heap.size, 0, none⟩ = some (.int .i64 m) := by subst hw1; simp [go_sem]
    have k1 : w1.cell? ⟨w.heap.size, 1, none⟩ = some s := by subst hw1; simp [go_sem]
    have hb1 : Below w.heap.size w w1 := by subst hw1; exact hbx _
    have hz : w.heap.size < w1.heap.size := by subst hw1; simp
    clear hw1 hbx
    refine (areStations_c m s _ l q _ _ k0 k1 (rd_below HR.out hb1) (rdi_below HQ.out hb1)).mono ?_; rw [HOK.out]; rintro e w2 ⟨rfl, hb2⟩
    have hb12 := bel_then hb1 hb2
    go_wp2_with fail
    refine (coverTimes_c m s _ l q _ _ HG.out HM.out ((hb2.cell hz).trans k0) ((hb2.cell hz).trans k1) (rd_below HR.out hb12) (rdi_below HQ.out hb12)).mono ?_; rintro e w3 ⟨x, rfl, ho, hb3⟩
    go_wp2
    go_ret2
    rw [HF.out]
    exact ⟨_, rfl, own_base ho hb12.size, bel_then hb12 hb3⟩
  · have hok : goodSta n l q = false := by simpa using hok
    have HF : Hid (coverTimesV n l q = ([], false)) := Lib.hid (by unfold coverTimesV; rw [hok]; rfl)
    go_enter Try.func30, Try.ntmps30
    go_wp2_with (go_at_call 50; refine (areStations_c n s _ l q _ _ (by simp [go_sem]) (by simp [go_sem]) (rd_below HR.out (hbx _)) (rdi_below HQ.out (hbx _))).mono ?_; rw [hok]; rintro e w' ⟨rfl, hb1⟩)
    go_ret2
    rw [HF.out]
    exact ⟨_, rfl, World.ownsRow_nil _ _ _ _, bel_then (hbx _) hb1⟩

set_option maxHeartbeats 1000000 in
theorem coverTimesS_c (n : Int) (s : Value) (l : List St) (v : Value) (q : List Int) (w : World) (hr : Rd w s l.length (l.flatMap St.cells)) (hq : RdI w v q) :
    Calls Try.prog 29 #[.agg #[.int .i64 n, s], v] w (OwnIB (coverTimesV n l q) w) := by
  have HR := Lib.hid hr
  have HQ := Lib.hid hq
  clear hr hq
  have hbx : ∀ o, Below w.heap.size w (w.alloc o) := fun o => bel_al (Below.refl _ _) o
  by_cases hok : goodSta n l q = true
  · have hk := goodSta_true hok
    obtain ⟨hg, hqm, _⟩ := hk
    obtain ⟨m, rfl⟩ := nat_of (goodTown_true hg).1
    have HF : Hid (coverTimesV m l q = (coverL m (arcs l) q, true)) := Lib.hid (by unfold coverTimesV; rw [if_pos hok, Int.toNat_natCast])
    have HG := Lib.hid hg
    have HM := Lib.hid hqm
    have HOK := Lib.hid hok
    clear hg hqm hok
    go_enter Try.func29, Try.ntmps29
    go_wp2_with fail
    generalize hw1 : World.alloc w _ = w1
    have k0 : w1.cell? ⟨w.heap.size, 0, none⟩ = some (.int .i64 m) := by subst hw1; simp [go_sem]
    have k1 : w1.cell? ⟨w.heap.size, 1, none⟩ = some s := by subst hw1; simp [go_sem]
    have hb1 : Below w.heap.size w w1 := by subst hw1; exact hbx _
    have hz : w.heap.size < w1.heap.size := by subst hw1; simp
    clear hw1 hbx
    refine (cvStations_c m s _ l q _ (rd_below HR.out hb1) (rdi_below HQ.out hb1)).mono ?_; rw [HOK.out]; rintro e w2 ⟨rfl, hb2⟩
    have hb12 := bel_then hb1 hb2
    have z0 := (hb2.cell (p := ⟨w.heap.size, 0, none⟩) hz).trans k0
    have z1 := (hb2.cell (p := ⟨w.heap.size, 1, none⟩) hz).trans k1
    go_wp2_with fail
    refine (cvTimes_c m s _ l q _ HG.out HM.out (rd_below HR.out hb12) (rdi_below HQ.out hb12)).mono ?_; rintro e w3 ⟨x, rfl, ho, hb3⟩
    go_wp2
    go_ret2
    rw [HF.out]
    exact ⟨_, rfl, own_base ho hb12.size, bel_then hb12 hb3⟩
  · have hok : goodSta n l q = false := by simpa using hok
    have HF : Hid (coverTimesV n l q = ([], false)) := Lib.hid (by unfold coverTimesV; rw [hok]; rfl)
    go_enter Try.func29, Try.ntmps29
    go_wp2_with (go_at_call 48; refine (cvStations_c n s _ l q _ (rd_below HR.out (hbx _)) (rdi_below HQ.out (hbx _))).mono ?_; rw [hok]; rintro e w' ⟨rfl, hb1⟩)
    go_ret2
    rw [HF.out]
    exact ⟨_, rfl, World.ownsRow_nil _ _ _ _, bel_then (hbx _) hb1⟩
end Go.Proofs.Ytemcdgchleijbaa
