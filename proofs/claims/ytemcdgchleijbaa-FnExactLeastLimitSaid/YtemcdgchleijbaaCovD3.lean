/-
  LeastLimit on both sides.
-/
import Derived.Test.YtemcdgchleijbaaCovD
import Derived.Outline
namespace Go.Proofs.Ytemcdgchleijbaa
open Go.RowKit

set_option maxRecDepth 100000 in
set_option maxHeartbeats 1000000 in
theorem leastLimitI_c (n : Int) (s : Value) (l : List St) (v : Value) (q : List Int)  (w : World) (hr : Rd w s l.length (l.flatMap St.cells)) (hq : RdI w v q) :
    Calls Try.prog 34 #[.agg #[.int .i64 n, s], v] w (fun e w' => e = .returned (.tuple #[.int .i64 (leastLimitV n l q).1, .bool (leastLimitV n l q).2]) ∧ Below w.heap.size w w') := by
  have HR := Lib.hid hr
  have HQ := Lib.hid hq
  clear hr hq
  have hbx : ∀ o, Below w.heap.size w (w.alloc o) := fun o => bel_al (Below.refl _ _) o
  by_cases hok : goodSta n l q = true
  · have hk := goodSta_true hok
    obtain ⟨hg, hqm, hq6⟩ := hk
    obtain ⟨m, rfl⟩ := nat_of (goodTown_true hg).1
    have HF : Hid (leastLimitV m l q = leastLimitW m l q) := Lib.hid (by unfold leastLimitV; rw [if_pos hok, Int.toNat_natCast])
    obtain ⟨hm1, hm2, _, _⟩ := goodTown_true hg
    have HG := Lib.hid hg
    have HM := Lib.hid hqm
    have HOK := Lib.hid hok
    clear hg hqm hok
    go_enter Try.func34, Try.ntmps34
    go_wp2_with fail
    generalize hw1 : World.alloc w _ = w1
    have k0 : w1.cell? ⟨w.heap.size, 0, none⟩ = some (.int .i64 m) := by subst hw1; simp [go_sem]
    have k1 : w1.cell? ⟨w.heap.size, 1, none⟩ = some s := by subst hw1; simp [go_sem]
    have hb1 : Below w.heap.size w w1 := by subst hw1; exact hbx _
    have hz : w.heap.size < w1.heap.size := by subst hw1; simp
    clear hw1 hbx
    refine (areStations_c m s _ l q _ _ k0 k1 (rd_below HR.out hb1) (rdi_below HQ.out hb1)).mono ?_; rw [HOK.out]; rintro e w2 ⟨rfl, hb2⟩
    have hb12 := bel_then hb1 hb2
    have hz2 : w.heap.size < w2.heap.size := Nat.lt_of_lt_of_le hz hb2.size
    have z0 := (hb2.cell (p := ⟨w.heap.size, 0, none⟩) hz).trans k0
    have z1 := (hb2.cell (p := ⟨w.heap.size, 1, none⟩) hz).trans k1
    have HR2 := Lib.hid (rd_below HR.out hb12)
    have HQ2 := Lib.hid (rdi_below HQ.out hb12)
    have HB := Lib.hid hb12
    clear k0 k1 hb1 hb2 hz hb12
    go_wp2_with fail
    refine (coverTimes_c m s _ l q _ _ HG.out HM.out z0 z1 HR2.out HQ2.out).mono ?_; rintro e w3 ⟨x, rfl, ho, hb3⟩
    have hdl := coverL_len m (arcs l) q
    have HWV : Hid (leastLimitW m l q = leastW (coverL m (arcs l) q)) := Lib.hid rfl
    obtain ⟨d, hd⟩ : ∃ d, coverL m (arcs l) q = d := ⟨_, rfl⟩
    rw [hd] at ho hdl HWV
    have HO := Lib.hid (rdi_own ho)
    have hdp : 0 < d.length := by omega
    have HBB := Lib.hid (bel_then HB.out hb3)
    have hle : minL d ≤ maxL d := by have h1 := minL_spec hdp; have h2 := maxL_spec hdp; exact h2.2 _ h1.1
    obtain ⟨mn, hmn⟩ : ∃ mn, minL d = mn := ⟨_, rfl⟩
    obtain ⟨mx, hmx⟩ : ∃ mx, maxL d = mx := ⟨_, rfl⟩
    rw [hmn, hmx] at hle
    have HMN := Lib.hid hmn
    have HMX := Lib.hid hmx
    clear hd ho hb3 hmn hmx
    by_cases c1 : mn < 0
    · have HE : Hid (leastW d = (0, false)) := Lib.hid (by unfold leastW; rw [if_pos (Or.inl (by rw [HMN.out]; exact c1))])
      go_wp2_with (go_at_call 69; refine (min_c _ d _ HO.out hdp).mono ?_; rw [HMN.out]; rintro e w' ⟨rfl, rfl⟩)
      go_ret2
      rw [HF.out, HWV.out, HE.out]
      exact ⟨rfl, HBB.out⟩
    · have c1' : 0 ≤ mn := by omega
      by_cases c2 : 36000 < mx
      · have HE : Hid (leastW d = (0, false)) := Lib.hid (by unfold leastW; rw [if_pos (Or.inr (by rw [HMX.out]; exact c2))])
        have hin : inB mx 0 36000 = false := by unfold inB; rw [decide_eq_false (show ¬ mx ≤ 36000 by omega)]; simp
        have d1 : decide (mn < 0) = false := decide_eq_false (by omega)
        go_wp2_with fail
        refine (min_c _ d _ HO.out hdp).mono ?_; rw [HMN.out]; rintro e w' ⟨rfl, rfl⟩
        go_wp2_with fail
        refine (max_c _ d _ HO.out hdp).mono ?_; rw [HMX.out]; rintro e w' ⟨rfl, rfl⟩
        go_wp2_with fail
        refine (isLimit_c _ _).mono ?_; rw [hin]; rintro e w' ⟨rfl, rfl⟩
        go_wp2_with fail
        go_ret2
        rw [HF.out, HWV.out, HE.out]
        exact ⟨rfl, HBB.out⟩
      · have HE : Hid (leastW d = (mx, true)) := Lib.hid (by unfold leastW; rw [if_neg (by rw [HMN.out, HMX.out]; omega), HMX.out])
        have hin : inB mx 0 36000 = true := inB_of (by omega) (by omega)
        have d1 : decide (mn < 0) = false := decide_eq_false (by omega)
        go_wp2_with fail
        refine (min_c _ d _ HO.out hdp).mono ?_; rw [HMN.out]; rintro e w' ⟨rfl, rfl⟩
        go_wp2_with fail
        refine (max_c _ d _ HO.out hdp).mono ?_; rw [HMX.out]; rintro e w' ⟨rfl, rfl⟩
        go_wp2_with fail
        refine (isLimit_c _ _).mono ?_; rw [hin]; rintro e w' ⟨rfl, rfl⟩
        go_wp2_with fail
        refine (max_c _ d _ HO.out hdp).mono ?_; rw [HMX.out]; rintro e w' ⟨rfl, rfl⟩
        go_wp2
        go_ret2
        rw [HF.out, HWV.out, HE.out]
        exact ⟨rfl, HBB.out⟩
  · have hok : goodSta n l q = false := by simpa using hok
    have HF : Hid (leastLimitV n l q = (0, false)) := Lib.hid (by unfold leastLimitV; rw [hok]; rfl)
    go_enter Try.func34, Try.ntmps34
    go_wp2_with (go_at_call 50; refine (areStations_c n s _ l q _ _ (by simp [go_sem]) (by simp [go_sem]) (rd_below HR.out (hbx _)) (rdi_below HQ.out (hbx _))).mono ?_; rw [hok]; rintro e w' ⟨rfl, hb1⟩)
    go_ret2
    rw [HF.out]
    exact ⟨rfl, bel_then (hbx _) hb1⟩
set_option maxRecDepth 100000 in
set_option maxHeartbeats 1000000 in
theorem leastLimitS_c (n : Int) (s : Value) (l : List St) (v : Value) (q : List Int)  (w : World) (hr : Rd w s l.length (l.flatMap St.cells)) (hq : RdI w v q) :
    Calls Try.prog 33 #[.agg #[.int .i64 n, s], v] w (fun e w' => e = .returned (.tuple #[.int .i64 (leastLimitV n l q).1, .bool (leastLimitV n l q).2]) ∧ Below w.heap.size w w') := by
  have HR := Lib.hid hr
  have HQ := Lib.hid hq
  clear hr hq
  have hbx : ∀ o, Below w.heap.size w (w.alloc o) := fun o => bel_al (Below.refl _ _) o
  by_cases hok : goodSta n l q = true
  · have hk := goodSta_true hok
    obtain ⟨hg, hqm, hq6⟩ := hk
    obtain ⟨m, rfl⟩ := nat_of (goodTown_true hg).1
    have HF : Hid (leastLimitV m l q = leastLimitW m l q) := Lib.hid (by unfold leastLimitV; rw [if_pos hok, Int.toNat_natCast])
    obtain ⟨hm1, hm2, _, _⟩ := goodTown_true hg
    have HG := Lib.hid hg
    have HM := Lib.hid hqm
    have HOK := Lib.hid hok
    clear hg hqm hok
    go_enter Try.func33, Try.ntmps33
    go_wp2_with fail
    generalize hw1 : World.alloc w _ = w1
    have k0 : w1.cell? ⟨w.heap.size, 0, none⟩ = some (.int .i64 m) := by subst hw1; simp [go_sem]
    have k1 : w1.cell? ⟨w.heap.size, 1, none⟩ = some s := by subst hw1; simp [go_sem]
    have hb1 : Below w.heap.size w w1 := by subst hw1; exact hbx _
    have hz : w.heap.size < w1.heap.size := by subst hw1; simp
    clear hw1 hbx
    refine (cvStations_c m s _ l q _ (rd_below HR.out hb1) (rdi_below HQ.out hb1)).mono ?_; rw [HOK.out]; rintro e w2 ⟨rfl, hb2⟩
    have hb12 := bel_then hb1 hb2
    have hz2 : w.heap.size < w2.heap.size := Nat.lt_of_lt_of_le hz hb2.size
    have z0 := (hb2.cell (p := ⟨w.heap.size, 0, none⟩) hz).trans k0
    have z1 := (hb2.cell (p := ⟨w.heap.size, 1, none⟩) hz).trans k1
    have HR2 := Lib.hid (rd_below HR.out hb12)
    have HQ2 := Lib.hid (rdi_below HQ.out hb12)
    have HB := Lib.hid hb12
    clear k0 k1 hb1 hb2 hz hb12
    go_wp2_with fail
    refine (cvTimes_c m s _ l q _ HG.out HM.out HR2.out HQ2.out).mono ?_; rintro e w3 ⟨x, rfl, ho, hb3⟩
    rw [coverL_len] at ho
    have hdl := coverL_len m (arcs l) q
    have HWV : Hid (leastLimitW m l q = leastW (coverL m (arcs l) q)) := Lib.hid rfl
    obtain ⟨d, hd⟩ : ∃ d, coverL m (arcs l) q = d := ⟨_, rfl⟩
    rw [hd] at ho hdl HWV
    obtain ⟨h, cap5, rfl, hbh, hhl, hcap5, hcm5⟩ := own_shape ho (by omega)
    have HO := Lib.hid ho
    have HDL := Lib.hid hdl
    have HBB := Lib.hid (bel_then HB.out hb3)
    clear hd ho hb3 hdl z0 z1
    go_wp2_with fail
    go_loopw [6, 17] (fun v6 v17 wr => ∃ (k : Nat) (t : Int), k ≤ m ∧ v17 = .int .i64 k ∧ v6 = .int .i64 t ∧ Hid ((d.take k).foldl max 0 = t) ∧ Hid (∀ x ∈ d.take k, 0 ≤ x) ∧ wr = w3) (fun _ v17 _ => m - (intOf v17).toNat)
    case atStart => exact ⟨0, 0, Nat.zero_le _, rfl, rfl, Lib.hid rfl, Lib.hid (by simp), rfl⟩
    case round =>
      obtain ⟨k, t, hk, rfl, rfl, HT, HP, rfl⟩ := hrel
      by_cases hlt : k < m
      · have ck := own_cell HO.out hlt
        have hkd : k < d.length := by rw [HDL.out]; exact hlt
        obtain ⟨x, hx⟩ : ∃ x, d.getD k 0 = x := ⟨_, rfl⟩
        rw [hx] at ck
        have HX := Lib.hid hx
        have HTS := Lib.hid (take_succ_of (getD_some hkd))
        clear hx
        by_cases hneg : x < 0
        · have HE := Lib.hid (least_neg hkd (by rw [HX.out]; exact hneg))
          go_wp2
          go_ret2
          rw [HF.out, HWV.out, HE.out]
          exact ⟨rfl, HBB.out⟩
        · go_wp2_with (go_at_call 68; refine (l1Most_c _ _ _).mono ?_; rintro e w' ⟨rfl, rfl⟩)
          refine ⟨⟨k + 1, maxI t x, by omega, by go_num, rfl, Lib.hid ?_, Lib.hid ?_, (by first | rfl | trivial)⟩, by simp [intOf]; omega⟩
          · rw [HTS.out, List.foldl_append, HT.out, HX.out, maxI_eq]; rfl
          · intro y hy
            rw [HTS.out, HX.out] at hy
            rcases List.mem_append.1 hy with h1 | h1
            · exact HP.out y h1
            · simp at h1; omega
      · obtain rfl : k = m := by omega
        have hT := HT.out
        have hP := HP.out
        rw [List.take_of_length_le (by rw [HDL.out]; exact Nat.le_refl _)] at hT hP
        have e := least_fit (by rw [HDL.out]; omega) hP
        rw [hT] at e
        by_cases hin : inB t 0 36000 = true
        · rw [if_pos hin] at e
          have HE := Lib.hid e
          clear e hT hP
          go_wp2_with (go_at_call 57; refine (dsLimit_c _ _).mono ?_; rw [hin]; rintro e w' ⟨rfl, rfl⟩)
          go_ret2
          rw [HF.out, HWV.out, HE.out]
          exact ⟨rfl, HBB.out⟩
        · rw [if_neg hin] at e
          have HE := Lib.hid e
          have hin' : inB t 0 36000 = false := by simpa using hin
          clear e hT hP
          go_wp2_with (go_at_call 57; refine (dsLimit_c _ _).mono ?_; rw [hin']; rintro e w' ⟨rfl, rfl⟩)
          go_ret2
          rw [HF.out, HWV.out, HE.out]
          exact ⟨rfl, HBB.out⟩
  · have hok : goodSta n l q = false := by simpa using hok
    have HF : Hid (leastLimitV n l q = (0, false)) := Lib.hid (by unfold leastLimitV; rw [hok]; rfl)
    go_enter Try.func33, Try.ntmps33
    go_wp2_with (go_at_call 48; refine (cvStations_c n s _ l q _ (rd_below HR.out (hbx _)) (rdi_below HQ.out (hbx _))).mono ?_; rw [hok]; rintro e w' ⟨rfl, hb1⟩)
    go_ret2
    rw [HF.out]
    exact ⟨rfl, bel_then (hbx _) hb1⟩
end Go.Proofs.Ytemcdgchleijbaa
