/-
  BestFurther on both sides.
-/
import Derived.Test.YtemcdgchleijbaaCovD
import Derived.Test.YtemcdgchleijbaaBits
namespace Go.Proofs.Ytemcdgchleijbaa
open Go.RowKit

theorem rise_at {lo hi : Int} {q : List Int} (h : rising lo hi q = true) {i : Nat} (hi' : i < q.length) : lo ≤ q.getD i 0 ∧ q.getD i 0 ≤ hi ∧ (0 < i → q.getD (i - 1) 0 < q.getD i 0) := by
  have h4 := List.all_eq_true.1 h i (List.mem_range.2 hi')
  unfold risAt at h4
  rw [getD_some hi'] at h4
  simp only [Bool.and_eq_true, Bool.or_eq_true, decide_eq_true_eq] at h4
  have h5 := inB_true h4.1
  refine ⟨h5.1, h5.2, fun h0 => ?_⟩
  rcases h4.2 with h6 | h6
  · omega
  · rw [getD_some (show i - 1 < q.length by omega)] at h6
    simpa using h6
theorem all_nodes {m : Nat} {q : List Int} (h : rising 0 ((m : Int) - 1) q = true) (hl : q.length = m) : ∀ k, k < m → (k : Int) ∈ q := by
  have up : ∀ k, k < m → (k : Int) ≤ q.getD k 0 := by
    intro k
    induction k with
    | zero => intro hk; have := (rise_at h (i := 0) (by omega)).1; simpa using this
    | succ k ih =>
      intro hk
      have h1 := ih (by omega)
      have h2 := (rise_at h (i := k + 1) (by omega)).2.2 (by omega)
      simp only [Nat.add_sub_cancel] at h2
      omega
  have down : ∀ d k, k + d + 1 = m → q.getD k 0 ≤ (k : Int) := by
    intro d
    induction d with
    | zero => intro k hk; have := (rise_at h (i := k) (by omega)).2.1; omega
    | succ d ih =>
      intro k hk
      have h1 := ih (k + 1) (by omega)
      have h2 := (rise_at h (i := k + 1) (by omega)).2.2 (by omega)
      simp only [Nat.add_sub_cancel] at h2
      omega
  intro k hk
  have h1 := up k hk
  have h2 := down (m - k - 1) k (by omega)
  have e : q.getD k 0 = (k : Int) := by omega
  rw [← e]
  exact List.mem_of_getElem? (getD_some (by omega))
theorem len_of_all : ∀ (m : Nat) (q : List Int), (∀ k, k < m → (k : Int) ∈ q) → m ≤ q.length := by
  intro m
  induction m with
  | zero => intro q _; omega
  | succ m ih =>
    intro q h
    have h1 := h m (by omega)
    have h2 := ih (q.erase (m : Int)) (fun k hk => (List.mem_erase_of_ne (by omega)).2 (h k (by omega)))
    rw [List.length_erase_of_mem h1] at h2
    have := List.length_pos_of_mem h1
    omega
theorem len_le_of_rise {m : Nat} {q : List Int} (h : rising 0 ((m : Int) - 1) q = true) : q.length ≤ m := by
  have up : ∀ k, k < q.length → (k : Int) ≤ q.getD k 0 := by
    intro k
    induction k with
    | zero => intro hk; have := (rise_at h (i := 0) (by omega)).1; simpa using this
    | succ k ih =>
      intro hk
      have h1 := ih (by omega)
      have h2 := (rise_at h (i := k + 1) (by omega)).2.2 (by omega)
      simp only [Nat.add_sub_cancel] at h2
      omega
  rcases Nat.eq_zero_or_pos q.length with h0 | h0
  · omega
  · have h1 := up (q.length - 1) (by omega)
    have h2 := (rise_at h (i := q.length - 1) (by omega)).2.1
    omega

def openL (m : Nat) (l : List St) (q : List Int) (a : Int) : List Int := covIdx (coverL m (arcs l) q) a false m
def hitP (m : Nat) (ar : List Arc) (a : Int) (n : Nat) (x : Int) : Bool := reachP m ar a n x.toNat
def cntB (m : Nat) (ar : List Arc) (a : Int) (o : List Int) (n : Nat) : Nat := (o.filter (hitP m ar a n)).length
def stepB (m : Nat) (ar : List Arc) (a : Int) (o q : List Int) (p : Int × Int) (n : Nat) : Int × Int :=
  if (n : Int) ∈ q then p else if p.2 < (cntB m ar a o n : Int) then ((n : Int), (cntB m ar a o n : Int)) else p
def bestB (m : Nat) (ar : List Arc) (a : Int) (o q : List Int) (k : Nat) : Int × Int := (List.range k).foldl (stepB m ar a o q) (0, -1)
theorem bestB_succ (m : Nat) (ar : List Arc) (a : Int) (o q : List Int) (k : Nat) : bestB m ar a o q (k + 1) = stepB m ar a o q (bestB m ar a o q k) k := by
  unfold bestB; rw [List.range_succ, List.foldl_append]; rfl
theorem bestB_neg (m : Nat) (ar : List Arc) (a : Int) (o q : List Int) : ∀ k, ((bestB m ar a o q k).2 < 0 ↔ ∀ n, n < k → (n : Int) ∈ q) ∧ -1 ≤ (bestB m ar a o q k).2 := by
  intro k
  induction k with
  | zero => exact ⟨⟨fun _ n hn => by omega, fun _ => by simp [bestB]⟩, by simp [bestB]⟩
  | succ k ih =>
    rw [bestB_succ]
    obtain ⟨ih, ih2⟩ := ih
    unfold stepB
    by_cases h : (k : Int) ∈ q
    · rw [if_pos h]
      refine ⟨⟨fun h1 n hn => ?_, fun h1 => ih.2 (fun n hn => h1 n (by omega))⟩, ih2⟩
      rcases Nat.lt_or_ge n k with h2 | h2
      · exact ih.1 h1 n h2
      · obtain rfl : n = k := by omega
        exact h
    · rw [if_neg h]
      split
      · exact ⟨⟨fun h1 => by dsimp only at h1; omega, fun h1 => absurd (h1 k (by omega)) h⟩, by dsimp only; omega⟩
      · exact ⟨⟨fun h1 => by omega, fun h1 => absurd (h1 k (by omega)) h⟩, ih2⟩
theorem bestB_fst (m : Nat) (ar : List Arc) (a : Int) (o q : List Int) : ∀ k, 0 ≤ (bestB m ar a o q k).1 ∧ (bestB m ar a o q k).2 ≤ o.length := by
  intro k
  induction k with
  | zero => exact ⟨by simp [bestB], by show (-1 : Int) ≤ _; omega⟩
  | succ k ih =>
    rw [bestB_succ]
    unfold stepB
    have hc : cntB m ar a o k ≤ o.length := List.length_filter_le _ _
    split
    · exact ih
    · split
      · dsimp only; omega
      · exact ih
def bestFurtherW (m : Nat) (l : List St) (q : List Int) (a : Int) : Int × Int × Bool :=
  if q.length = 6 ∨ q.length = m then (0, 0, false) else ((bestB m (arcs l) a (openL m l q a) q m).1, (bestB m (arcs l) a (openL m l q a) q m).2, true)
def bestFurtherV (n : Int) (l : List St) (q : List Int) (a : Int) : Int × Int × Bool := if askC n l q a = true then bestFurtherW n.toNat l q a else (0, 0, false)
theorem best_iff {m : Nat} {l : List St} {q : List Int} (a : Int) (h : goodSta m l q = true) : (bestB m (arcs l) a (openL m l q a) q m).2 < 0 ↔ q.length = m := by
  have hr : rising 0 ((m : Int) - 1) q = true := by simp only [goodSta, Bool.and_eq_true] at h; exact h.2.1
  rw [(bestB_neg m (arcs l) a (openL m l q a) q m).1]
  exact ⟨fun h1 => by have := len_of_all m q h1; have := len_le_of_rise hr; omega, fun h1 => all_nodes hr h1⟩
set_option maxRecDepth 100000 in
set_option maxHeartbeats 1000000 in
theorem bestFurtherI_c (n : Int) (s : Value) (l : List St) (v : Value) (q : List Int) (a : Int) (w : World) (hr : Rd w s l.length (l.flatMap St.cells)) (hq : RdI w v q) :
    Calls Try.prog 42 #[.agg #[.int .i64 n, s], v, .int .i64 a] w (fun e w' => e = .returned (.tuple #[.int .i64 (bestFurtherV n l q a).1, .int .i64 (bestFurtherV n l q a).2.1, .bool (bestFurtherV n l q a).2.2]) ∧ Below w.heap.size w w') := by
  have HR := Lib.hid hr
  have HQ := Lib.hid hq
  clear hr hq
  have hbx : ∀ o, Below w.heap.size w (w.alloc o) := fun o => bel_al (Below.refl _ _) o
  by_cases hok : askC n l q a = true
  · have hk := askC_true hok
    obtain ⟨hok1, hlim, hg, hqm, hq6⟩ := hk
    obtain ⟨hlim0, hlim1⟩ := inB_true hlim
    obtain ⟨m, rfl⟩ := nat_of (goodTown_true hg).1
    have HF : Hid (bestFurtherV m l q a = bestFurtherW m l q a) := Lib.hid (by unfold bestFurtherV; rw [if_pos hok, Int.toNat_natCast])
    obtain ⟨hm1, hm2, _, _⟩ := goodTown_true hg
    have HG := Lib.hid hg
    have HM := Lib.hid hqm
    have HOK := Lib.hid hok
    have HOK1 := Lib.hid hok1
    have HLIM := Lib.hid hlim
    clear hok1 hlim
    clear hg hqm hok
    obtain ⟨Aq, cq, hvq, _⟩ := HQ.out
    subst hvq
    go_enter Try.func42, Try.ntmps42
    go_wp2_with fail
    generalize hw1 : World.alloc w _ = w1
    have k0 : w1.cell? ⟨w.heap.size, 0, none⟩ = some (.int .i64 m) := by subst hw1; simp [go_sem]
    have k1 : w1.cell? ⟨w.heap.size, 1, none⟩ = some s := by subst hw1; simp [go_sem]
    have hb1 : Below w.heap.size w w1 := by subst hw1; exact hbx _
    have hz : w.heap.size < w1.heap.size := by subst hw1; simp
    clear hw1 hbx
    refine (areStations_c m s _ l q _ _ k0 k1 (rd_below HR.out hb1) (rdi_below HQ.out hb1)).mono ?_; rw [HOK1.out]; rintro e w2 ⟨rfl, hb2⟩
    have hb12 := bel_then hb1 hb2
    have hz2 : w.heap.size < w2.heap.size := Nat.lt_of_lt_of_le hz hb2.size
    have z0 := (hb2.cell (p := ⟨w.heap.size, 0, none⟩) hz).trans k0
    have z1 := (hb2.cell (p := ⟨w.heap.size, 1, none⟩) hz).trans k1
    have HR2 := Lib.hid (rd_below HR.out hb12)
    have HQ2 := Lib.hid (rdi_below HQ.out hb12)
    have HB := Lib.hid hb12
    clear k0 k1 hb1 hb2 hz hb12
    go_wp2_with fail
    refine (isLimit_c a _).mono ?_; rw [HLIM.out]; rintro e w2 ⟨rfl, rfl⟩
    by_cases h6 : q.length = 6
    · have e6 : ((q.length : Int) == 6) = true := by simp; omega
      have HW : Hid (bestFurtherW m l q a = (0, 0, false)) := Lib.hid (by unfold bestFurtherW; rw [if_pos (Or.inl h6)])
      clear h6
      go_wp2
      go_ret3
      rw [HF.out, HW.out]
      exact ⟨rfl, HB.out⟩
    have e6 : ((q.length : Int) == 6) = false := by simp; omega
    have HBI := Lib.hid (best_iff a HOK1.out)
    have H6 := Lib.hid h6
    clear h6
    go_wp2_with fail
    refine (coveredNodes_c m s _ l q a false _ _ HG.out HM.out z0 z1 HR2.out HQ2.out).mono ?_; rintro e w3 ⟨x, rfl, ho, hb3⟩
    have HBB := Lib.hid (bel_then HB.out hb3)
    have HR3 := Lib.hid (rd_below HR2.out hb3)
    have HQ3 := Lib.hid (rdi_below HQ2.out hb3)
    have hz3 : w.heap.size < w3.heap.size := Nat.lt_of_lt_of_le hz2 hb3.size
    have b0 := (hb3.cell (p := ⟨w.heap.size, 0, none⟩) hz2).trans z0
    have b1 := (hb3.cell (p := ⟨w.heap.size, 1, none⟩) hz2).trans z1
    have hol := covIdx_len (coverL m (arcs l) q) a false m
    have HMEM : Hid (∀ x ∈ openL m l q a, ∃ i : Nat, x = (i : Int) ∧ i < m) := Lib.hid (fun x hx => by
      obtain ⟨i, h1, h2, _⟩ := selI_mem.1 hx
      exact ⟨i, h1, h2⟩)
    obtain ⟨o, hoo⟩ : ∃ o, openL m l q a = o := ⟨_, rfl⟩
    have hoo' : covIdx (coverL m (arcs l) q) a false m = o := hoo
    rw [hoo'] at ho hol
    rw [hoo] at HMEM HBI
    have HOO := Lib.hid hoo
    have HO := Lib.hid (rdi_own ho)
    obtain ⟨Ao, co, hxo, hco, hmo, hro⟩ := rdi_own ho
    subst hxo
    rw [maxLen_eq] at hmo
    have HRO := Lib.hid hro
    clear ho hb3 z0 z1 hoo hoo' hro
    go_wp2_with fail
    go_loopw [10, 11, 35] (fun v10 v11 v35 wr => ∃ (k : Nat) (b c : Int), k ≤ m ∧ v35 = .int .i64 k ∧ v10 = .int .i64 b ∧ v11 = .int .i64 c ∧ -1 ≤ c ∧ c ≤ 14 ∧ Hid (bestB m (arcs l) a o q k = (b, c)) ∧ Hid (Below w3.heap.size w3 wr)) (fun _ _ v35 _ => m - (intOf v35).toNat)
    case atStart => exact ⟨0, 0, -1, Nat.zero_le _, rfl, rfl, rfl, by omega, by omega, Lib.hid rfl, Lib.hid (Below.refl _ _)⟩
    case round =>
      obtain ⟨k, b, c, hk, rfl, rfl, rfl, hc0, hc1, HBK, HBL⟩ := hrel
      obtain ⟨wA, rfl⟩ : ∃ wA : World, wA = wr := ⟨_, rfl⟩
      by_cases hlt : k < m
      · have d0 := (HBL.out.cell (p := ⟨w.heap.size, 0, none⟩) hz3).trans b0
        have d1 := (HBL.out.cell (p := ⟨w.heap.size, 1, none⟩) hz3).trans b1
        go_wp2_with fail
        refine (contains_c _ (k : Int) q _ (rdi_below HQ3.out HBL.out)).mono ?_; rintro e w' ⟨rfl, rfl⟩
        by_cases hmem : (k : Int) ∈ q
        · rw [decide_eq_true hmem]
          have HN : Hid (bestB m (arcs l) a o q (k + 1) = (b, c)) := Lib.hid (by rw [bestB_succ, HBK.out]; unfold stepB; rw [if_pos hmem])
          clear hmem
          go_wp2
          exact ⟨⟨k + 1, b, c, by omega, by go_num, rfl, rfl, hc0, hc1, HN, HBL⟩, by simp [intOf]; omega⟩
        · rw [decide_eq_false hmem]
          have HN : Hid (bestB m (arcs l) a o q (k + 1) = if c < (cntB m (arcs l) a o k : Int) then ((k : Int), (cntB m (arcs l) a o k : Int)) else (b, c)) := Lib.hid (by rw [bestB_succ, HBK.out]; unfold stepB; rw [if_neg hmem])
          clear hmem
          go_wp2_with fail
          refine (timesI_c m _ l _ k _ HG.out hlt d0 d1 (rd_below HR3.out HBL.out)).mono ?_
          rintro e w5 ⟨v5, rfl, ho5, hb5⟩
          rw [distT_len] at ho5
          obtain ⟨h, cap5, rfl, hbh, hhl, hcap5, hcm5⟩ := own_shape ho5 (by omega)
          have HO5 := Lib.hid ho5
          have HB5 := Lib.hid (bel_then HBL.out hb5)
          clear ho5 hb5 d0 d1
          go_wp2_with fail
          go_loopw [13, 45] (fun v13 v45 wr2 => ∃ (i t : Nat), i ≤ o.length ∧ t ≤ i ∧ v45 = .int .i64 i ∧ v13 = .int .i64 t ∧ Hid (((o.take i).filter (hitP m (arcs l) a k)).length = t) ∧ wr2 = w5) (fun _ v45 _ => o.length - (intOf v45).toNat)
          case atStart => exact ⟨0, 0, Nat.zero_le _, Nat.le_refl _, rfl, rfl, Lib.hid rfl, rfl⟩
          case round =>
            obtain ⟨i, t, hi, hti, rfl, rfl, HT, rfl⟩ := hrel
            by_cases hio : i < o.length
            · obtain ⟨bb, off, rfl, hbl, hcell⟩ := HRO.out (by omega)
              obtain ⟨x, hx⟩ : ∃ x, o[i]? = some x := ⟨_, List.getElem?_eq_getElem hio⟩
              have cx := cell_at hcell HB5.out hbl (ints_get hx)
              obtain ⟨xn, rfl, hxm⟩ := HMEM.out x (List.mem_of_getElem? hx)
              have ct := own_cell HO5.out hxm
              obtain ⟨y, hy⟩ : ∃ y, (distT m (arcs l) k).getD xn 0 = y := ⟨_, rfl⟩
              rw [hy] at ct
              have HX := Lib.hid hx
              have HY := Lib.hid hy
              have j0 : (0 : Int) ≤ (xn : Int) := by omega
              have j1 : (xn : Int) < (m : Int) := by omega
              clear hx hy hcell
              go_wp2_with fail
              refine (inside_c _ _ _ _).mono ?_; rintro e w' ⟨rfl, rfl⟩
              have hh : hitP m (arcs l) a k (xn : Int) = inB y 0 a := by unfold hitP reachP; rw [Int.toNat_natCast, HY.out]
              have HH := Lib.hid hh
              clear hh
              by_cases hin : inB y 0 a = true
              · rw [hin]
                have HT' : Hid (((o.take (i + 1)).filter (hitP m (arcs l) a k)).length = t + 1) := Lib.hid (by rw [take_succ_of HX.out, List.filter_append, List.length_append, HT.out]; simp [HH.out, hin])
                clear hin
                go_wp2
                exact ⟨⟨i + 1, t + 1, by omega, by omega, by go_num, by go_num, HT', (by first | rfl | trivial)⟩, by simp [intOf]; omega⟩
              · have hin' : inB y 0 a = false := by simpa using hin
                rw [hin']
                have HT' : Hid (((o.take (i + 1)).filter (hitP m (arcs l) a k)).length = t) := Lib.hid (by rw [take_succ_of HX.out, List.filter_append, List.length_append, HT.out]; simp [HH.out, hin'])
                clear hin hin'
                go_wp2
                exact ⟨⟨i + 1, t, by omega, by omega, by go_num, rfl, HT', (by first | rfl | trivial)⟩, by simp [intOf]; omega⟩
            · obtain rfl : i = o.length := by omega
              have e := HT.out
              rw [List.take_length] at e
              have HC : Hid (cntB m (arcs l) a o k = t) := Lib.hid e
              clear e
              by_cases hct : c < (t : Int)
              · have HN' : Hid (bestB m (arcs l) a o q (k + 1) = ((k : Int), (t : Int))) := Lib.hid (by rw [HN.out, HC.out, if_pos hct])
                go_wp2
                exact ⟨⟨k + 1, (k : Int), (t : Int), by omega, by go_num, rfl, rfl, by omega, by omega, HN', HB5⟩, by simp [intOf]; omega⟩
              · have HN' : Hid (bestB m (arcs l) a o q (k + 1) = (b, c)) := Lib.hid (by rw [HN.out, HC.out, if_neg hct])
                have hct' : (t : Int) ≤ c := by omega
                go_wp2
                exact ⟨⟨k + 1, b, c, by omega, by go_num, rfl, rfl, hc0, hc1, HN', HB5⟩, by simp [intOf]; omega⟩
      · obtain rfl : k = m := by omega
        have hbi := HBI.out
        rw [HBK.out] at hbi
        dsimp only at hbi
        by_cases hneg : c < 0
        · have HW : Hid (bestFurtherW k l q a = (0, 0, false)) := Lib.hid (by unfold bestFurtherW; rw [if_pos (Or.inr (hbi.1 hneg))])
          clear hbi
          go_wp2
          go_ret3
          rw [HF.out, HW.out]
          exact ⟨rfl, bel_then HBB.out HBL.out⟩
        · have HW : Hid (bestFurtherW k l q a = (b, c, true)) := Lib.hid (by
            have h7 : ¬ q.length = k := fun e => hneg (hbi.2 e)
            unfold bestFurtherW; rw [if_neg (by intro hor; rcases hor with hor | hor; exact H6.out hor; exact h7 hor), HOO.out, HBK.out])
          have hneg' : 0 ≤ c := by omega
          clear hbi hneg
          go_wp2
          go_ret3
          rw [HF.out, HW.out]
          exact ⟨rfl, bel_then HBB.out HBL.out⟩
  · have hok : askC n l q a = false := by simpa using hok
    have HF : Hid (bestFurtherV n l q a = (0, 0, false)) := Lib.hid (by unfold bestFurtherV; rw [hok]; rfl)
    by_cases hg : goodSta n l q = true
    · have hl : inB a 0 36000 = false := by unfold askC at hok; rw [hg] at hok; simpa using hok
      go_enter Try.func42, Try.ntmps42
      go_wp2_with (first | (go_at_call 50; refine (areStations_c n s _ l q _ _ (by simp [go_sem]) (by simp [go_sem]) (rd_below HR.out (hbx _)) (rdi_below HQ.out (hbx _))).mono ?_; rw [hg]; rintro e w' ⟨rfl, hb1⟩) | (go_at_call 60; refine (isLimit_c a _).mono ?_; rw [hl]; rintro e w' ⟨rfl, rfl⟩))
      go_ret3
      rw [HF.out]
      exact ⟨rfl, bel_then (hbx _) hb1⟩
    · have hg : goodSta n l q = false := by simpa using hg
      go_enter Try.func42, Try.ntmps42
      go_wp2_with (go_at_call 50; refine (areStations_c n s _ l q _ _ (by simp [go_sem]) (by simp [go_sem]) (rd_below HR.out (hbx _)) (rdi_below HQ.out (hbx _))).mono ?_; rw [hg]; rintro e w' ⟨rfl, hb1⟩)
      go_ret3
      rw [HF.out]
      exact ⟨rfl, bel_then (hbx _) hb1⟩
end Go.Proofs.Ytemcdgchleijbaa
