/-
  LostWithout and NeededStations on both sides.
-/
import Derived.Test.YtemcdgchleijbaaCovF2
namespace Go.Proofs.Ytemcdgchleijbaa
open Go.RowKit

theorem lostL_len (m : Nat) (l : List St) (q : List Int) (i : Nat) (a : Int) : (lostL m l q i a).length ≤ m := by
  have h1 := List.length_filter_le (notIn (covL m l (dropI q i) a)) (covL m l q a)
  have h2 := covL_len m l q a
  unfold lostL
  omega
def askW (n : Int) (l : List St) (q : List Int) (i a : Int) : Bool := askC n l q a && inB i 0 ((q.length : Int) - 1)
def lostWithoutV (n : Int) (l : List St) (q : List Int) (i a : Int) : List Int × Bool := if askW n l q i a = true then (lostL n.toNat l q i.toNat a, true) else ([], false)
theorem lostWithoutV_len (n : Int) (l : List St) (q : List Int) (i a : Int) : (lostWithoutV n l q i a).1.length ≤ 1000000 := by
  unfold lostWithoutV
  split
  · rename_i h
    unfold askW at h
    simp only [Bool.and_eq_true] at h
    have h1 := goodTown_true (askC_true h.1).2.2.1
    have h2 := lostL_len n.toNat l q i.toNat a
    dsimp only
    omega
  · simp
theorem askW_true {n : Int} {l : List St} {q : List Int} {i a : Int} (h : askW n l q i a = true) : goodSta n l q = true ∧ inB a 0 36000 = true ∧ inB i 0 ((q.length : Int) - 1) = true ∧ askC n l q a = true ∧ goodTown n l = true ∧ (∀ x ∈ q, 0 ≤ x ∧ x ≤ n - 1) ∧ q.length ≤ 6 := by
  simp only [askW, Bool.and_eq_true] at h
  have h1 := askC_true h.1
  exact ⟨h1.1, h1.2.1, h.2, h.1, h1.2.2⟩

set_option maxRecDepth 100000 in
set_option maxHeartbeats 1000000 in
theorem lostWithoutI_c (n : Int) (s : Value) (l : List St) (v : Value) (q : List Int) (i a : Int) (w : World) (hr : Rd w s l.length (l.flatMap St.cells)) (hq : RdI w v q) :
    Calls Try.prog 44 #[.agg #[.int .i64 n, s], v, .int .i64 i, .int .i64 a] w (OwnIB (lostWithoutV n l q i a) w) := by
  have HR := Lib.hid hr
  have HQ := Lib.hid hq
  obtain ⟨Aq, cq, rfl, hcq, hmq, _⟩ := hq
  rw [maxLen_eq] at hmq
  have hbx : ∀ o, Below w.heap.size w (w.alloc o) := fun o => bel_al (Below.refl _ _) o
  have s1 : IntKind.i64.wrap ((q.length : Int) - 1) = (q.length : Int) - 1 := IntWalk.i64_in _ (by omega)
  by_cases hs : goodSta n l q = true
  · obtain ⟨hg, hqm, hq6⟩ := goodSta_true hs
    have HS := Lib.hid hs
    by_cases hi : inB i 0 ((q.length : Int) - 1) = true
    · have HI := Lib.hid hi
      obtain ⟨i0, i1⟩ := inB_true hi
      by_cases hl : inB a 0 36000 = true
      · have HL := Lib.hid hl
        obtain ⟨ik, rfl⟩ := Int.eq_ofNat_of_zero_le i0
        obtain ⟨m, rfl⟩ := nat_of (goodTown_true hg).1
        have HF : Hid (lostWithoutV m l q ik a = (lostL m l q ik a, true)) := Lib.hid (by unfold lostWithoutV; rw [if_pos (by unfold askW askC; rw [hs, hi, hl]; rfl), Int.toNat_natCast, Int.toNat_natCast])
        have HG := Lib.hid hg
        have HM := Lib.hid hqm
        clear hg hqm hs hi hl hr s1
        go_enter Try.func44, Try.ntmps44
        go_wp2_with fail
        generalize hw1 : World.alloc w _ = w1
        have k0 : w1.cell? ⟨w.heap.size, 0, none⟩ = some (.int .i64 m) := by subst hw1; simp [go_sem]
        have k1 : w1.cell? ⟨w.heap.size, 1, none⟩ = some s := by subst hw1; simp [go_sem]
        have hb1 : Below w.heap.size w w1 := by subst hw1; exact hbx _
        have hz : w.heap.size < w1.heap.size := by subst hw1; simp
        clear hw1 hbx
        refine (areStations_c m s _ l q _ _ k0 k1 (rd_below HR.out hb1) (rdi_below HQ.out hb1)).mono ?_; rw [HS.out]; rintro e w2 ⟨rfl, hb2⟩
        have HB := Lib.hid (bel_then hb1 hb2)
        have z0 := (hb2.cell (p := ⟨w.heap.size, 0, none⟩) hz).trans k0
        have z1 := (hb2.cell (p := ⟨w.heap.size, 1, none⟩) hz).trans k1
        clear k0 k1 hb1 hb2 hz
        go_wp2_with fail
        refine (inside_c _ _ _ _).mono ?_; rw [HI.out]; rintro e w2 ⟨rfl, rfl⟩
        go_wp2_with fail
        refine (isLimit_c _ _).mono ?_; rw [HL.out]; rintro e w2 ⟨rfl, rfl⟩
        go_wp2_with fail
        refine (lostWithout_c m s _ l q ik (ik + 1) a _ _ HG.out HM.out (by omega) rfl hq6 z0 z1 (rd_below HR.out HB.out) (rdi_below HQ.out HB.out)).mono ?_; rintro e w3 ⟨x, rfl, ho, hb3⟩
        go_wp2
        go_ret2
        rw [HF.out]
        exact ⟨_, rfl, own_base ho HB.out.size, bel_then HB.out hb3⟩
      · have hl' : inB a 0 36000 = false := by simpa using hl
        have HF : Hid (lostWithoutV n l q i a = ([], false)) := Lib.hid (by unfold lostWithoutV; rw [if_neg (by unfold askW askC; rw [hl']; simp)])
        have HL := Lib.hid hl'
        clear hs hi hl hl' hr s1
        go_enter Try.func44, Try.ntmps44
        go_wp2_with fail
        refine (areStations_c n s _ l q _ _ (by simp [go_sem]) (by simp [go_sem]) (rd_below HR.out (hbx _)) (rdi_below HQ.out (hbx _))).mono ?_; rw [HS.out]; rintro e w2 ⟨rfl, hb2⟩
        go_wp2_with fail
        refine (inside_c _ _ _ _).mono ?_; rw [HI.out]; rintro e w2 ⟨rfl, rfl⟩
        go_wp2_with fail
        refine (isLimit_c _ _).mono ?_; rw [HL.out]; rintro e w2 ⟨rfl, rfl⟩
        go_wp2
        go_ret2
        rw [HF.out]
        exact ⟨_, rfl, World.ownsRow_nil _ _ _ _, bel_then (hbx _) hb2⟩
    · have hi' : inB i 0 ((q.length : Int) - 1) = false := by simpa using hi
      have HF : Hid (lostWithoutV n l q i a = ([], false)) := Lib.hid (by unfold lostWithoutV; rw [if_neg (by unfold askW; rw [hi']; simp)])
      have HI := Lib.hid hi'
      clear hs hi hi' hr s1
      go_enter Try.func44, Try.ntmps44
      go_wp2_with fail
      refine (areStations_c n s _ l q _ _ (by simp [go_sem]) (by simp [go_sem]) (rd_below HR.out (hbx _)) (rdi_below HQ.out (hbx _))).mono ?_; rw [HS.out]; rintro e w2 ⟨rfl, hb2⟩
      go_wp2_with fail
      refine (inside_c _ _ _ _).mono ?_; rw [HI.out]; rintro e w2 ⟨rfl, rfl⟩
      go_wp2
      go_ret2
      rw [HF.out]
      exact ⟨_, rfl, World.ownsRow_nil _ _ _ _, bel_then (hbx _) hb2⟩
  · have hs' : goodSta n l q = false := by simpa using hs
    have HF : Hid (lostWithoutV n l q i a = ([], false)) := Lib.hid (by unfold lostWithoutV; rw [if_neg (by unfold askW askC; rw [hs']; simp)])
    have HS := Lib.hid hs'
    clear hs hs' hr s1
    go_enter Try.func44, Try.ntmps44
    go_wp2_with fail
    refine (areStations_c n s _ l q _ _ (by simp [go_sem]) (by simp [go_sem]) (rd_below HR.out (hbx _)) (rdi_below HQ.out (hbx _))).mono ?_; rw [HS.out]; rintro e w2 ⟨rfl, hb2⟩
    go_wp2
    go_ret2
    rw [HF.out]
    exact ⟨_, rfl, World.ownsRow_nil _ _ _ _, bel_then (hbx _) hb2⟩

set_option maxRecDepth 100000 in
set_option maxHeartbeats 1000000 in
theorem lostWithoutS_c (n : Int) (s : Value) (l : List St) (v : Value) (q : List Int) (i a : Int) (w : World) (hr : Rd w s l.length (l.flatMap St.cells)) (hq : RdI w v q) :
    Calls Try.prog 43 #[.agg #[.int .i64 n, s], v, .int .i64 i, .int .i64 a] w (OwnIB (lostWithoutV n l q i a) w) := by
  have HR := Lib.hid hr
  have HQ := Lib.hid hq
  obtain ⟨Aq, cq, rfl, hcq, hmq, _⟩ := hq
  rw [maxLen_eq] at hmq
  have hbx : ∀ o, Below w.heap.size w (w.alloc o) := fun o => bel_al (Below.refl _ _) o
  by_cases hs : askC n l q a = true
  · have hk := askC_true hs
    obtain ⟨_, _, hg, hqm, hq6⟩ := hk
    have HS := Lib.hid hs
    by_cases hi : inB i 0 ((q.length : Int) - 1) = true
    · have HI := Lib.hid hi
      obtain ⟨i0, i1⟩ := inB_true hi
      obtain ⟨ik, rfl⟩ := Int.eq_ofNat_of_zero_le i0
      obtain ⟨m, rfl⟩ := nat_of (goodTown_true hg).1
      have HF : Hid (lostWithoutV m l q ik a = (lostL m l q ik a, true)) := Lib.hid (by unfold lostWithoutV; rw [if_pos (by unfold askW; rw [hs, hi]; rfl), Int.toNat_natCast, Int.toNat_natCast])
      have HG := Lib.hid hg
      have HM := Lib.hid hqm
      clear hg hqm hs hi hr
      go_enter Try.func43, Try.ntmps43
      go_wp2_with fail
      generalize hw1 : World.alloc w _ = w1
      have k0 : w1.cell? ⟨w.heap.size, 0, none⟩ = some (.int .i64 m) := by subst hw1; simp [go_sem]
      have k1 : w1.cell? ⟨w.heap.size, 1, none⟩ = some s := by subst hw1; simp [go_sem]
      have hb1 : Below w.heap.size w w1 := by subst hw1; exact hbx _
      have hz : w.heap.size < w1.heap.size := by subst hw1; simp
      clear hw1 hbx
      refine (cvAsked_c m s l _ q a _ (rd_below HR.out hb1) (rdi_below HQ.out hb1)).mono ?_; rw [HS.out]; rintro e w2 ⟨rfl, hb2⟩
      have HB := Lib.hid (bel_then hb1 hb2)
      have z0 := (hb2.cell (p := ⟨w.heap.size, 0, none⟩) hz).trans k0
      have z1 := (hb2.cell (p := ⟨w.heap.size, 1, none⟩) hz).trans k1
      clear k0 k1 hb1 hb2 hz
      go_wp2_with fail
      refine (l1In_c _ _ _ _).mono ?_; rw [HI.out]; rintro e w2 ⟨rfl, rfl⟩
      go_wp2_with fail
      refine (cvLost_c m s _ l q ik (ik + 1) a _ HG.out HM.out (by omega) rfl hq6 (rd_below HR.out HB.out) (rdi_below HQ.out HB.out)).mono ?_; rintro e w3 ⟨x, rfl, ho, hb3⟩
      go_wp2
      go_ret2
      rw [HF.out]
      exact ⟨_, rfl, own_base ho HB.out.size, bel_then HB.out hb3⟩
    · have hi' : inB i 0 ((q.length : Int) - 1) = false := by simpa using hi
      have HF : Hid (lostWithoutV n l q i a = ([], false)) := Lib.hid (by unfold lostWithoutV; rw [if_neg (by unfold askW; rw [hi']; simp)])
      have HI := Lib.hid hi'
      clear hs hi hi' hr
      go_enter Try.func43, Try.ntmps43
      go_wp2_with fail
      refine (cvAsked_c n s l _ q a _ (rd_below HR.out (hbx _)) (rdi_below HQ.out (hbx _))).mono ?_; rw [HS.out]; rintro e w2 ⟨rfl, hb2⟩
      go_wp2_with fail
      refine (l1In_c _ _ _ _).mono ?_; rw [HI.out]; rintro e w2 ⟨rfl, rfl⟩
      go_wp2
      go_ret2
      rw [HF.out]
      exact ⟨_, rfl, World.ownsRow_nil _ _ _ _, bel_then (hbx _) hb2⟩
  · have hs' : askC n l q a = false := by simpa using hs
    have HF : Hid (lostWithoutV n l q i a = ([], false)) := Lib.hid (by unfold lostWithoutV; rw [if_neg (by unfold askW; rw [hs']; simp)])
    have HS := Lib.hid hs'
    clear hs hs' hr
    go_enter Try.func43, Try.ntmps43
    go_wp2_with fail
    refine (cvAsked_c n s l _ q a _ (rd_below HR.out (hbx _)) (rdi_below HQ.out (hbx _))).mono ?_; rw [HS.out]; rintro e w2 ⟨rfl, hb2⟩
    go_wp2
    go_ret2
    rw [HF.out]
    exact ⟨_, rfl, World.ownsRow_nil _ _ _ _, bel_then (hbx _) hb2⟩

/-! ### NeededStations -/
def needP (m : Nat) (l : List St) (q : List Int) (a : Int) (i : Nat) : Bool := decide (0 < (lostL m l q i a).length)
def neededStationsW (m : Nat) (l : List St) (q : List Int) (a : Int) : List Int × Bool := (selI (needP m l q a) q.length, true)
def neededStationsV (n : Int) (l : List St) (q : List Int) (a : Int) : List Int × Bool := if askC n l q a = true then neededStationsW n.toNat l q a else ([], false)
theorem neededStationsV_len (n : Int) (l : List St) (q : List Int) (a : Int) : (neededStationsV n l q a).1.length ≤ 1000000 := by
  unfold neededStationsV
  split
  · rename_i h
    have h1 := askC_true h
    have h2 := selI_len (needP n.toNat l q a) q.length
    unfold neededStationsW
    dsimp only
    omega
  · simp
set_option maxRecDepth 100000 in
set_option maxHeartbeats 1000000 in
theorem neededStationsI_c (n : Int) (s : Value) (l : List St) (v : Value) (q : List Int) (a : Int) (w : World) (hr : Rd w s l.length (l.flatMap St.cells)) (hq : RdI w v q) :
    Calls Try.prog 46 #[.agg #[.int .i64 n, s], v, .int .i64 a] w (OwnIB (neededStationsV n l q a) w) := by
  have HR := Lib.hid hr
  have HQ := Lib.hid hq
  clear hr hq
  have hbx : ∀ o, Below w.heap.size w (w.alloc o) := fun o => bel_al (Below.refl _ _) o
  by_cases hok : askC n l q a = true
  · have hk := askC_true hok
    obtain ⟨hok1, hlim, hg, hqm, hq6⟩ := hk
    obtain ⟨hlim0, hlim1⟩ := inB_true hlim
    obtain ⟨m, rfl⟩ := nat_of (goodTown_true hg).1
    have HF : Hid (neededStationsV m l q a = neededStationsW m l q a) := Lib.hid (by unfold neededStationsV; rw [if_pos hok, Int.toNat_natCast])
    obtain ⟨hm1, hm2, _, _⟩ := goodTown_true hg
    have HG := Lib.hid hg
    have HM := Lib.hid hqm
    have HOK := Lib.hid hok
    have HOK1 := Lib.hid hok1
    have HLIM := Lib.hid hlim
    clear hok1 hlim
    clear hg hqm hok
    obtain ⟨Aq, cq, hvq, _⟩ := HQ.out
    subst hvq
    go_enter Try.func46, Try.ntmps46
    go_wp2_with fail
    generalize hw1 : World.alloc w _ = w1
    have k0 : w1.cell? ⟨w.heap.size, 0, none⟩ = some (.int .i64 m) := by subst hw1; simp [go_sem]
    have k1 : w1.cell? ⟨w.heap.size, 1, none⟩ = some s := by subst hw1; simp [go_sem]
    have hb1 : Below w.heap.size w w1 := by subst hw1; exact hbx _
    have hz : w.heap.size < w1.heap.size := by subst hw1; simp
    clear hw1 hbx
    refine (areStations_c m s _ l q _ _ k0 k1 (rd_below HR.out hb1) (rdi_below HQ.out hb1)).mono ?_; rw [HOK1.out]; rintro e w2 ⟨rfl, hb2⟩
    have hb12 := bel_then hb1 hb2
    have hz2 : w.heap.size < w2.heap.size := Nat.lt_of_lt_of_le hz hb2.size
    have z0 := (hb2.cell (p := ⟨w.heap.size, 0, none⟩) hz).trans k0
    have z1 := (hb2.cell (p := ⟨w.heap.size, 1, none⟩) hz).trans k1
    have HR2 := Lib.hid (rd_below HR.out hb12)
    have HQ2 := Lib.hid (rdi_below HQ.out hb12)
    have HB := Lib.hid hb12
    clear k0 k1 hb1 hb2 hz hb12
    go_wp2_with fail
    refine (isLimit_c a _).mono ?_; rw [HLIM.out]; rintro e w2 ⟨rfl, rfl⟩
    go_wp2_with fail
    obtain ⟨i0, hi, hz0, hz1, hz2'⟩ := info_parts Try.infoInt
    go_loopw [8, 20] (fun v8 vi wr => ∃ (k : Nat) (M : List Int), k ≤ q.length ∧ vi = .int .i64 k ∧ M.length ≤ k ∧ Hid (selI (needP m l q a) k = M) ∧ Hid (wr.ownsRow w2.heap.size 3 1 v8 M.length (ints M)) ∧ Hid (Below w2.heap.size w2 wr)) (fun _ vi _ => q.length - (intOf vi).toNat)
    case atStart => exact ⟨0, [], Nat.zero_le _, rfl, by simp, Lib.hid rfl, Lib.hid (World.ownsRow_nil _ _ _ _), Lib.hid (Below.refl _ _)⟩
    case round =>
      obtain ⟨k, M, hk, rfl, hMk, HMS, HOW, HBL⟩ := hrel
      obtain ⟨wA, rfl⟩ : ∃ wA : World, wA = wr := ⟨_, rfl⟩
      by_cases hlt : k < q.length
      · have b0 := (HBL.out.cell (p := ⟨w.heap.size, 0, none⟩) hz2).trans z0
        have b1 := (HBL.out.cell (p := ⟨w.heap.size, 1, none⟩) hz2).trans z1
        go_wp2_with fail
        refine (lostWithout_c m s _ l q k (k + 1) a _ _ HG.out HM.out hlt rfl hq6 b0 b1 (rd_below HR2.out HBL.out) (rdi_below HQ2.out HBL.out)).mono ?_; rintro e w4 ⟨x, rfl, ho, hb4⟩
        obtain ⟨Ax, cx, hxx, _⟩ := own_rd ho
        subst hxx
        have HB4 := Lib.hid (bel_then HBL.out hb4)
        have HOW4 := Lib.hid (own_below HOW.out hb4)
        clear ho hb4 b0 b1
        by_cases hp : 0 < (lostL m l q k a).length
        · have HMS' : Hid (selI (needP m l q a) (k + 1) = M ++ [(k : Int)]) := Lib.hid (by rw [selI_yes (by unfold needP; exact decide_eq_true hp), HMS.out])
          have hp2 : (0 : Int) < ((lostL m l q k a).length : Int) := by omega
          clear hp
          go_wp2_with (at_builtin; refine wpList_app_rd _ rfl _ _ 25 rfl w2.heap.size 3 i0 (.int .i64 0) 1 8 Try.underlying25 hi hz0 hz1 hz2' rfl (by decide) _ _ _ rfl (HOW4.out.alloc _) _ 1 [.int .i64 k] rfl (rd_new _ rfl (Nat.le_refl _) (by rw [maxLen_eq]; omega)) rfl (ints_one [(k : Int)]) (by rw [maxLen_eq]; omega) (by omega) (by have := HB4.out.size; simp; omega) ?_; intro v' w7 hown' hgrow _)
          refine ⟨⟨k + 1, M ++ [(k : Int)], by omega, by go_num, by rw [List.length_append]; simp; omega, HMS', Lib.hid ?_, Lib.hid (bel_grown (bel_al HB4.out _) hgrow (fun q e => (HOW4.out.lt q e).1))⟩, by simp [intOf]; omega⟩
          rw [ints_append, List.length_append]; exact hown'
        · have HMS' : Hid (selI (needP m l q a) (k + 1) = M) := Lib.hid (by rw [selI_no (by unfold needP; exact decide_eq_false hp), HMS.out])
          have hp2 : ((lostL m l q k a).length : Int) ≤ 0 := by omega
          clear hp
          go_wp2
          exact ⟨⟨k + 1, M, by omega, by go_num, by omega, HMS', HOW4, HB4⟩, by simp [intOf]; omega⟩
      · obtain rfl : k = q.length := by omega
        have HV : Hid (neededStationsW m l q a = (M, true)) := Lib.hid (by unfold neededStationsW; rw [HMS.out])
        go_wp2
        go_ret2
        rw [HF.out, HV.out]
        refine ⟨_, rfl, ?_, bel_then HB.out HBL.out⟩
        exact own_base HOW.out HB.out.size
  · have hok : askC n l q a = false := by simpa using hok
    have HF : Hid (neededStationsV n l q a = ([], false)) := Lib.hid (by unfold neededStationsV; rw [hok]; rfl)
    by_cases hg : goodSta n l q = true
    · have hl : inB a 0 36000 = false := by unfold askC at hok; rw [hg] at hok; simpa using hok
      go_enter Try.func46, Try.ntmps46
      go_wp2_with (first | (go_at_call 50; refine (areStations_c n s _ l q _ _ (by simp [go_sem]) (by simp [go_sem]) (rd_below HR.out (hbx _)) (rdi_below HQ.out (hbx _))).mono ?_; rw [hg]; rintro e w' ⟨rfl, hb1⟩) | (go_at_call 60; refine (isLimit_c a _).mono ?_; rw [hl]; rintro e w' ⟨rfl, rfl⟩))
      go_ret2
      rw [HF.out]
      exact ⟨_, rfl, World.ownsRow_nil _ _ _ _, bel_then (hbx _) hb1⟩
    · have hg : goodSta n l q = false := by simpa using hg
      go_enter Try.func46, Try.ntmps46
      go_wp2_with (go_at_call 50; refine (areStations_c n s _ l q _ _ (by simp [go_sem]) (by simp [go_sem]) (rd_below HR.out (hbx _)) (rdi_below HQ.out (hbx _))).mono ?_; rw [hg]; rintro e w' ⟨rfl, hb1⟩)
      go_ret2
      rw [HF.out]
      exact ⟨_, rfl, World.ownsRow_nil _ _ _ _, bel_then (hbx _) hb1⟩
set_option maxRecDepth 100000 in
set_option maxHeartbeats 1000000 in
theorem neededStationsS_c (n : Int) (s : Value) (l : List St) (v : Value) (q : List Int) (a : Int) (w : World) (hr : Rd w s l.length (l.flatMap St.cells)) (hq : RdI w v q) :
    Calls Try.prog 45 #[.agg #[.int .i64 n, s], v, .int .i64 a] w (OwnIB (neededStationsV n l q a) w) := by
  have HR := Lib.hid hr
  have HQ := Lib.hid hq
  clear hr hq
  have hbx : ∀ o, Below w.heap.size w (w.alloc o) := fun o => bel_al (Below.refl _ _) o
  by_cases hok : askC n l q a = true
  · have hk := askC_true hok
    obtain ⟨hok1, hlim, hg, hqm, hq6⟩ := hk
    obtain ⟨hlim0, hlim1⟩ := inB_true hlim
    obtain ⟨m, rfl⟩ := nat_of (goodTown_true hg).1
    have HF : Hid (neededStationsV m l q a = neededStationsW m l q a) := Lib.hid (by unfold neededStationsV; rw [if_pos hok, Int.toNat_natCast])
    obtain ⟨hm1, hm2, _, _⟩ := goodTown_true hg
    have HG := Lib.hid hg
    have HM := Lib.hid hqm
    have HOK := Lib.hid hok
    have HOK1 := Lib.hid hok1
    have HLIM := Lib.hid hlim
    clear hok1 hlim
    clear hg hqm hok
    obtain ⟨Aq, cq, hvq, _⟩ := HQ.out
    subst hvq
    go_enter Try.func45, Try.ntmps45
    go_wp2_with fail
    generalize hw1 : World.alloc w _ = w1
    have k0 : w1.cell? ⟨w.heap.size, 0, none⟩ = some (.int .i64 m) := by subst hw1; simp [go_sem]
    have k1 : w1.cell? ⟨w.heap.size, 1, none⟩ = some s := by subst hw1; simp [go_sem]
    have hb1 : Below w.heap.size w w1 := by subst hw1; exact hbx _
    have hz : w.heap.size < w1.heap.size := by subst hw1; simp
    clear hw1 hbx
    refine (cvAsked_c m s l _ q a _ (rd_below HR.out hb1) (rdi_below HQ.out hb1)).mono ?_; rw [HOK.out]; rintro e w2 ⟨rfl, hb2⟩
    have hb12 := bel_then hb1 hb2
    have hz2 : w.heap.size < w2.heap.size := Nat.lt_of_lt_of_le hz hb2.size
    have z0 := (hb2.cell (p := ⟨w.heap.size, 0, none⟩) hz).trans k0
    have z1 := (hb2.cell (p := ⟨w.heap.size, 1, none⟩) hz).trans k1
    have HR2 := Lib.hid (rd_below HR.out hb12)
    have HQ2 := Lib.hid (rdi_below HQ.out hb12)
    have HB := Lib.hid hb12
    clear k0 k1 hb1 hb2 hz hb12
    go_wp2_with fail
    obtain ⟨i0, hi, hz0, hz1, hz2'⟩ := info_parts Try.infoInt
    go_loopw [8, 17] (fun v8 vi wr => ∃ (k : Nat) (M : List Int), k ≤ q.length ∧ vi = .int .i64 k ∧ M.length ≤ k ∧ Hid (selI (needP m l q a) k = M) ∧ Hid (wr.ownsRow w2.heap.size 3 1 v8 M.length (ints M)) ∧ Hid (Below w2.heap.size w2 wr)) (fun _ vi _ => q.length - (intOf vi).toNat)
    case atStart => exact ⟨0, [], Nat.zero_le _, rfl, by simp, Lib.hid rfl, Lib.hid (World.ownsRow_nil _ _ _ _), Lib.hid (Below.refl _ _)⟩
    case round =>
      obtain ⟨k, M, hk, rfl, hMk, HMS, HOW, HBL⟩ := hrel
      obtain ⟨wA, rfl⟩ : ∃ wA : World, wA = wr := ⟨_, rfl⟩
      by_cases hlt : k < q.length
      · have b0 := (HBL.out.cell (p := ⟨w.heap.size, 0, none⟩) hz2).trans z0
        have b1 := (HBL.out.cell (p := ⟨w.heap.size, 1, none⟩) hz2).trans z1
        go_wp2_with fail
        refine (cvLost_c m s _ l q k (k + 1) a _ HG.out HM.out hlt rfl hq6 (rd_below HR2.out HBL.out) (rdi_below HQ2.out HBL.out)).mono ?_; rintro e w4 ⟨x, rfl, ho, hb4⟩
        obtain ⟨Ax, cx, hxx, _⟩ := own_rd ho
        subst hxx
        have HB4 := Lib.hid (bel_then HBL.out hb4)
        have HOW4 := Lib.hid (own_below HOW.out hb4)
        clear ho hb4 b0 b1
        by_cases hp : 0 < (lostL m l q k a).length
        · have HMS' : Hid (selI (needP m l q a) (k + 1) = M ++ [(k : Int)]) := Lib.hid (by rw [selI_yes (by unfold needP; exact decide_eq_true hp), HMS.out])
          have hp2 : (0 : Int) < ((lostL m l q k a).length : Int) := by omega
          clear hp
          go_wp2_with (at_builtin; refine wpList_app_rd _ rfl _ _ 25 rfl w2.heap.size 3 i0 (.int .i64 0) 1 8 Try.underlying25 hi hz0 hz1 hz2' rfl (by decide) _ _ _ rfl (HOW4.out.alloc _) _ 1 [.int .i64 k] rfl (rd_new _ rfl (Nat.le_refl _) (by rw [maxLen_eq]; omega)) rfl (ints_one [(k : Int)]) (by rw [maxLen_eq]; omega) (by omega) (by have := HB4.out.size; simp; omega) ?_; intro v' w7 hown' hgrow _)
          refine ⟨⟨k + 1, M ++ [(k : Int)], by omega, by go_num, by rw [List.length_append]; simp; omega, HMS', Lib.hid ?_, Lib.hid (bel_grown (bel_al HB4.out _) hgrow (fun q e => (HOW4.out.lt q e).1))⟩, by simp [intOf]; omega⟩
          rw [ints_append, List.length_append]; exact hown'
        · have HMS' : Hid (selI (needP m l q a) (k + 1) = M) := Lib.hid (by rw [selI_no (by unfold needP; exact decide_eq_false hp), HMS.out])
          have hp2 : ((lostL m l q k a).length : Int) ≤ 0 := by omega
          clear hp
          go_wp2
          exact ⟨⟨k + 1, M, by omega, by go_num, by omega, HMS', HOW4, HB4⟩, by simp [intOf]; omega⟩
      · obtain rfl : k = q.length := by omega
        have HV : Hid (neededStationsW m l q a = (M, true)) := Lib.hid (by unfold neededStationsW; rw [HMS.out])
        go_wp2
        go_ret2
        rw [HF.out, HV.out]
        refine ⟨_, rfl, ?_, bel_then HB.out HBL.out⟩
        exact own_base HOW.out HB.out.size
  · have hok : askC n l q a = false := by simpa using hok
    have HF : Hid (neededStationsV n l q a = ([], false)) := Lib.hid (by unfold neededStationsV; rw [hok]; rfl)
    go_enter Try.func45, Try.ntmps45
    go_wp2_with (go_at_call 70; refine (cvAsked_c n s l _ q a _ (rd_below HR.out (hbx _)) (rdi_below HQ.out (hbx _))).mono ?_; rw [hok]; rintro e w' ⟨rfl, hb1⟩)
    go_ret2
    rw [HF.out]
    exact ⟨_, rfl, World.ownsRow_nil _ _ _ _, bel_then (hbx _) hb1⟩
end Go.Proofs.Ytemcdgchleijbaa
