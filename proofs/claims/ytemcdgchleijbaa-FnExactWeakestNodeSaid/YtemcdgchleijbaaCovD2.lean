/-
  WeakestNode on both sides.
-/
import Derived.Test.YtemcdgchleijbaaCovD
import Derived.Outline
namespace Go.Proofs.Ytemcdgchleijbaa
open Go.RowKit

set_option maxRecDepth 100000 in
set_option maxHeartbeats 1000000 in
theorem weakestNodeI_c (n : Int) (s : Value) (l : List St) (v : Value) (q : List Int)  (w : World) (hr : Rd w s l.length (l.flatMap St.cells)) (hq : RdI w v q) :
    Calls Try.prog 23 #[.agg #[.int .i64 n, s], v] w (fun e w' => e = .returned (.tuple #[.int .i64 (weakestNodeV n l q).1, .int .i64 (weakestNodeV n l q).2.1, .bool (weakestNodeV n l q).2.2]) ∧ Below w.heap.size w w') := by
  have HR := Lib.hid hr
  have HQ := Lib.hid hq
  clear hr hq
  have hbx : ∀ o, Below w.heap.size w (w.alloc o) := fun o => bel_al (Below.refl _ _) o
  by_cases hok : goodSta n l q = true
  · have hk := goodSta_true hok
    obtain ⟨hg, hqm, hq6⟩ := hk
    obtain ⟨m, rfl⟩ := nat_of (goodTown_true hg).1
    have HF : Hid (weakestNodeV m l q = weakestNodeW m l q) := Lib.hid (by unfold weakestNodeV; rw [if_pos hok, Int.toNat_natCast])
    obtain ⟨hm1, hm2, _, _⟩ := goodTown_true hg
    have HG := Lib.hid hg
    have HM := Lib.hid hqm
    have HOK := Lib.hid hok
    clear hg hqm hok
    go_enter Try.func23, Try.ntmps23
    go_wp2_with fail
    generalize hw1 : World.alloc w _ = w1
    have k0 : w1.cell? ⟨w.heap.size, 0, none⟩ = some (.int .i64 m) := by subst hw1; simp [go_sem]
    have k1 : w1.cell? ⟨w.heap.size, 1, none⟩ = some s := by subst hw1; simp [go_sem]
    have hb1 : Below w.heap.size w w1 := by subst hw1; exact hbx _
    have hz : w.heap.size < w1.heap.size := by subst hw1; simp
    clear hw1 hbx
    refine (areStations_c m s _ l q _ _ k0 k1 (rd_below HR.out hb1) (rdi_below HQ.out hb1)).mono ?_; rw [HOK.out]; rintro e w2 ⟨rfl, hb2⟩
    have hb12 := bel_then hb1 hb2
    have hz2 : w.heap.size < w2.heap.size := Nat.lt_of_lt_of_le hz hb2.size
    have z0 := (hb2.cell (p := ⟨w.heap.size, 0, none⟩) hz).trans k0
    have z1 := (hb2.cell (p := ⟨w.heap.size, 1, none⟩) hz).trans k1
    have HR2 := Lib.hid (rd_below HR.out hb12)
    have HQ2 := Lib.hid (rdi_below HQ.out hb12)
    have HB := Lib.hid hb12
    clear k0 k1 hb1 hb2 hz hb12
    go_wp2_with fail
    have hbI := bdI_cover HG.out m (by omega) q
    refine (coverTimes_c m s _ l q _ _ HG.out HM.out z0 z1 HR2.out HQ2.out).mono ?_; rintro e w3 ⟨x, rfl, ho, hb3⟩
    have hdl := coverL_len m (arcs l) q
    have HWV : Hid (weakestNodeW m l q = weakW (coverL m (arcs l) q)) := Lib.hid rfl
    obtain ⟨d, hd⟩ : ∃ d, coverL m (arcs l) q = d := ⟨_, rfl⟩
    rw [hd] at ho hdl hbI HWV
    have HO := Lib.hid (rdi_own ho)
    have HBI := Lib.hid hbI
    have hdp : 0 < d.length := by omega
    have HBB := Lib.hid (bel_then HB.out hb3)
    clear hd ho hbI hb3
    by_cases hneg : 0 ≤ idxI d (-1)
    · have HWN := Lib.hid (show weakW d = (idxI d (-1), -1, true) by unfold weakW; rw [if_pos hneg])
      obtain ⟨iv, hiv⟩ : ∃ iv, idxI d (-1) = iv := ⟨_, rfl⟩
      rw [hiv] at hneg HWN
      have HIV := Lib.hid hiv
      clear hiv
      go_wp2_with (go_at_call 54; refine (index_c _ (-1) d _ HO.out).mono ?_; rw [HIV.out]; rintro e w' ⟨rfl, rfl⟩)
      go_ret3
      rw [HF.out, HWV.out, HWN.out]
      exact ⟨rfl, HBB.out⟩
    · have HWN := Lib.hid (show weakW d = (idxI d (maxL d), maxL d, true) by unfold weakW; rw [if_neg hneg])
      obtain ⟨iv, hiv⟩ : ∃ iv, idxI d (-1) = iv := ⟨_, rfl⟩
      rw [hiv] at hneg
      have HIV := Lib.hid hiv
      have hneg' : iv < 0 := by omega
      clear hiv hneg
      obtain ⟨mx, hmx⟩ : ∃ mx, maxL d = mx := ⟨_, rfl⟩
      rw [hmx] at HWN
      have HMX := Lib.hid hmx
      clear hmx
      go_wp2_with fail
      refine (index_c _ (-1) d _ HO.out).mono ?_; rw [HIV.out]; rintro e w' ⟨rfl, rfl⟩
      go_wp2_with fail
      refine (max_c _ d _ HO.out hdp).mono ?_; rw [HMX.out]; rintro e w' ⟨rfl, rfl⟩
      go_wp2_with fail
      refine (index_c _ mx d _ HO.out).mono ?_; rintro e w' ⟨rfl, rfl⟩
      go_wp2
      go_ret3
      rw [HF.out, HWV.out, HWN.out]
      exact ⟨rfl, HBB.out⟩
  · have hok : goodSta n l q = false := by simpa using hok
    have HF : Hid (weakestNodeV n l q = (0, 0, false)) := Lib.hid (by unfold weakestNodeV; rw [hok]; rfl)
    go_enter Try.func23, Try.ntmps23
    go_wp2_with (go_at_call 50; refine (areStations_c n s _ l q _ _ (by simp [go_sem]) (by simp [go_sem]) (rd_below HR.out (hbx _)) (rdi_below HQ.out (hbx _))).mono ?_; rw [hok]; rintro e w' ⟨rfl, hb1⟩)
    go_ret3
    rw [HF.out]
    exact ⟨rfl, bel_then (hbx _) hb1⟩
set_option maxRecDepth 100000 in
set_option maxHeartbeats 1000000 in
theorem weakestNodeS_c (n : Int) (s : Value) (l : List St) (v : Value) (q : List Int)  (w : World) (hr : Rd w s l.length (l.flatMap St.cells)) (hq : RdI w v q) :
    Calls Try.prog 22 #[.agg #[.int .i64 n, s], v] w (fun e w' => e = .returned (.tuple #[.int .i64 (weakestNodeV n l q).1, .int .i64 (weakestNodeV n l q).2.1, .bool (weakestNodeV n l q).2.2]) ∧ Below w.heap.size w w') := by
  have HR := Lib.hid hr
  have HQ := Lib.hid hq
  clear hr hq
  have hbx : ∀ o, Below w.heap.size w (w.alloc o) := fun o => bel_al (Below.refl _ _) o
  by_cases hok : goodSta n l q = true
  · have hk := goodSta_true hok
    obtain ⟨hg, hqm, hq6⟩ := hk
    obtain ⟨m, rfl⟩ := nat_of (goodTown_true hg).1
    have HF : Hid (weakestNodeV m l q = weakestNodeW m l q) := Lib.hid (by unfold weakestNodeV; rw [if_pos hok, Int.toNat_natCast])
    obtain ⟨hm1, hm2, _, _⟩ := goodTown_true hg
    have HG := Lib.hid hg
    have HM := Lib.hid hqm
    have HOK := Lib.hid hok
    clear hg hqm hok
    go_enter Try.func22, Try.ntmps22
    go_wp2_with fail
    generalize hw1 : World.alloc w _ = w1
    have k0 : w1.cell? ⟨w.heap.size, 0, none⟩ = some (.int .i64 m) := by subst hw1; simp [go_sem]
    have k1 : w1.cell? ⟨w.heap.size, 1, none⟩ = some s := by subst hw1; simp [go_sem]
    have hb1 : Below w.heap.size w w1 := by subst hw1; exact hbx _
    have hz : w.heap.size < w1.heap.size := by subst hw1; simp
    clear hw1 hbx
    refine (cvStations_c m s _ l q _ (rd_below HR.out hb1) (rdi_below HQ.out hb1)).mono ?_; rw [HOK.out]; rintro e w2 ⟨rfl, hb2⟩
    have hb12 := bel_then hb1 hb2
    have hz2 : w.heap.size < w2.heap.size := Nat.lt_of_lt_of_le hz hb2.size
    have z0 := (hb2.cell (p := ⟨w.heap.size, 0, none⟩) hz).trans k0
    have z1 := (hb2.cell (p := ⟨w.heap.size, 1, none⟩) hz).trans k1
    have HR2 := Lib.hid (rd_below HR.out hb12)
    have HQ2 := Lib.hid (rdi_below HQ.out hb12)
    have HB := Lib.hid hb12
    clear k0 k1 hb1 hb2 hz hb12
    go_wp2_with fail
    have hbI := bdI_cover HG.out m (by omega) q
    refine (cvTimes_c m s _ l q _ HG.out HM.out HR2.out HQ2.out).mono ?_; rintro e w3 ⟨x, rfl, ho, hb3⟩
    rw [coverL_len] at ho
    have hdl := coverL_len m (arcs l) q
    have HWV : Hid (weakestNodeW m l q = weakW (coverL m (arcs l) q)) := Lib.hid rfl
    obtain ⟨d, hd⟩ : ∃ d, coverL m (arcs l) q = d := ⟨_, rfl⟩
    rw [hd] at ho hdl hbI HWV
    obtain ⟨h, cap5, rfl, hbh, hhl, hcap5, hcm5⟩ := own_shape ho (by omega)
    have HO := Lib.hid ho
    have HBI := Lib.hid hbI
    have HDL := Lib.hid hdl
    have HBB := Lib.hid (bel_then HB.out hb3)
    clear hd ho hbI hb3 hdl z0 z1
    go_wp2_with fail
    go_loopw [8, 20] (fun v8 v20 wr => ∃ (k b : Nat), k ≤ m ∧ b < m ∧ v20 = .int .i64 k ∧ v8 = .int .i64 b ∧ Hid (WeakInv d k b) ∧ wr = w3) (fun _ v20 _ => m - (intOf v20).toNat)
    case atStart => exact ⟨0, 0, Nat.zero_le _, by omega, rfl, rfl, Lib.hid (Or.inl ⟨rfl, rfl⟩), rfl⟩
    case round =>
      obtain ⟨k, b, hk, hb, rfl, rfl, HI, rfl⟩ := hrel
      have cb := own_cell HO.out hb
      have i0 : (0 : Int) ≤ (b : Int) := by omega
      have i1 : (b : Int) < (m : Int) := by omega
      obtain ⟨y, hy⟩ : ∃ y, d.getD b 0 = y := ⟨_, rfl⟩
      rw [hy] at cb
      have HY := Lib.hid hy
      clear hy
      by_cases hlt : k < m
      · have ck := own_cell HO.out hlt
        obtain ⟨x, hx⟩ : ∃ x, d.getD k 0 = x := ⟨_, rfl⟩
        rw [hx] at ck
        have HX := Lib.hid hx
        clear hx
        go_wp2
        all_goals first
          | (refine ⟨⟨k + 1, k, by omega, by omega, by go_num, rfl, Lib.hid (weak_yes HI.out (by rw [HY.out]; omega) (by rw [HY.out, HX.out]; omega)), (by first | rfl | trivial)⟩, by simp [intOf]; omega⟩)
          | (refine ⟨⟨k + 1, b, by omega, by omega, by go_num, rfl, Lib.hid (weak_no HI.out (by rw [HY.out, HX.out]; omega)), (by first | rfl | trivial)⟩, by simp [intOf]; omega⟩)
      · obtain rfl : k = m := by omega
        have hI := HI.out
        have e := weak_end HBI.out (by rw [HDL.out]; omega) (b := b) (by rw [HDL.out]; exact hI)
        rw [HY.out] at e
        have HE := Lib.hid e
        clear e hI
        go_wp2_with fail
        go_quiet (fail)
        go_wp2
        go_ret3
        rw [HF.out, HWV.out, HE.out]
        exact ⟨rfl, below_drewN HBB.out _⟩
  · have hok : goodSta n l q = false := by simpa using hok
    have HF : Hid (weakestNodeV n l q = (0, 0, false)) := Lib.hid (by unfold weakestNodeV; rw [hok]; rfl)
    go_enter Try.func22, Try.ntmps22
    go_wp2_with (go_at_call 48; refine (cvStations_c n s _ l q _ (rd_below HR.out (hbx _)) (rdi_below HQ.out (hbx _))).mono ?_; rw [hok]; rintro e w' ⟨rfl, hb1⟩)
    go_ret3
    rw [HF.out]
    exact ⟨rfl, bel_then (hbx _) hb1⟩
end Go.Proofs.Ytemcdgchleijbaa
