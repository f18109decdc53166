/-
  CoverText on both sides.
-/
import Derived.Test.YtemcdgchleijbaaCovD
import Derived.Outline
namespace Go.Proofs.Ytemcdgchleijbaa
open Go.RowKit

def strB (L : List UInt8) : ByteArray := ⟨L.toArray⟩
def letC (d q : List Int) (a : Int) (i : Nat) : UInt8 := if (i : Int) ∈ q then 83 else if inB (d.getD i 0) 0 a = true then 99 else 45
def textC (d q : List Int) (a : Int) (k : Nat) : List UInt8 := (List.range k).map (letC d q a)
theorem textC_succ (d q : List Int) (a : Int) (k : Nat) : textC d q a (k + 1) = textC d q a k ++ [letC d q a k] := by simp [textC, List.range_succ]
theorem strB_app (L M : List UInt8) : strB L ++ strB M = strB (L ++ M) := by
  unfold strB
  apply ByteArray.ext
  simp
theorem strB_size (L : List UInt8) : (strB L).size = L.length := by simp [strB, ByteArray.size]
theorem textC_len (d q : List Int) (a : Int) (k : Nat) : (textC d q a k).length = k := by simp [textC]
theorem text_step {d q : List Int} {a : Int} {k : Nat} {S : ByteArray} {c : UInt8} (h : strB (textC d q a k) = S) (hc : letC d q a k = c) : strB (textC d q a (k + 1)) = S ++ ⟨#[c]⟩ := by
  rw [textC_succ, hc, ← h, ← strB_app]; rfl
theorem size_one {S : ByteArray} {c : UInt8} (h : S.size < 14) : (S ++ ⟨#[c]⟩).size ≤ 14 := by
  rw [ByteArray.size_append]
  have : (⟨#[c]⟩ : ByteArray).size = 1 := rfl
  omega
def coverTextW (m : Nat) (l : List St) (q : List Int) (a : Int) : ByteArray × Bool := (strB (textC (coverL m (arcs l) q) q a m), true)
def coverTextV (n : Int) (l : List St) (q : List Int) (a : Int) : ByteArray × Bool := if askC n l q a = true then coverTextW n.toNat l q a else (⟨#[]⟩, false)
set_option maxRecDepth 100000 in
set_option maxHeartbeats 1000000 in
theorem coverTextI_c (n : Int) (s : Value) (l : List St) (v : Value) (q : List Int) (a : Int) (w : World) (hr : Rd w s l.length (l.flatMap St.cells)) (hq : RdI w v q) :
    Calls Try.prog 40 #[.agg #[.int .i64 n, s], v, .int .i64 a] w (fun e w' => e = .returned (.tuple #[.string (coverTextV n l q a).1, .bool (coverTextV n l q a).2]) ∧ Below w.heap.size w w') := by
  have HR := Lib.hid hr
  have HQ := Lib.hid hq
  clear hr hq
  have hbx : ∀ o, Below w.heap.size w (w.alloc o) := fun o => bel_al (Below.refl _ _) o
  by_cases hok : askC n l q a = true
  · have hk := askC_true hok
    obtain ⟨hok1, hlim, hg, hqm, hq6⟩ := hk
    obtain ⟨hlim0, hlim1⟩ := inB_true hlim
    obtain ⟨m, rfl⟩ := nat_of (goodTown_true hg).1
    have HF : Hid (coverTextV m l q a = coverTextW m l q a) := Lib.hid (by unfold coverTextV; rw [if_pos hok, Int.toNat_natCast])
    obtain ⟨hm1, hm2, _, _⟩ := goodTown_true hg
    have HG := Lib.hid hg
    have HM := Lib.hid hqm
    have HOK := Lib.hid hok
    have HOK1 := Lib.hid hok1
    have HLIM := Lib.hid hlim
    clear hok1 hlim
    clear hg hqm hok
    go_enter Try.func40, Try.ntmps40
    go_wp2_with fail
    generalize hw1 : World.alloc w _ = w1
    have k0 : w1.cell? ⟨w.heap.size, 0, none⟩ = some (.int .i64 m) := by subst hw1; simp [go_sem]
    have k1 : w1.cell? ⟨w.heap.size, 1, none⟩ = some s := by subst hw1; simp [go_sem]
    have hb1 : Below w.heap.size w w1 := by subst hw1; exact hbx _
    have hz : w.heap.size < w1.heap.size := by subst hw1; simp
    clear hw1 hbx
    refine (areStations_c m s _ l q _ _ k0 k1 (rd_below HR.out hb1) (rdi_below HQ.out hb1)).mono ?_; rw [HOK1.out]; rintro e w2 ⟨rfl, hb2⟩
    have hb12 := bel_then hb1 hb2
    have hz2 : w.heap.size < w2.heap.size := Nat.lt_of_lt_of_le hz hb2.size
    have z0 := (hb2.cell (p := ⟨w.heap.size, 0, none⟩) hz).trans k0
    have z1 := (hb2.cell (p := ⟨w.heap.size, 1, none⟩) hz).trans k1
    have HR2 := Lib.hid (rd_below HR.out hb12)
    have HQ2 := Lib.hid (rdi_below HQ.out hb12)
    have HB := Lib.hid hb12
    clear k0 k1 hb1 hb2 hz hb12
    go_wp2_with fail
    refine (isLimit_c a _).mono ?_; rw [HLIM.out]; rintro e w2 ⟨rfl, rfl⟩
    go_wp2_with fail
    refine (coverTimes_c m s _ l q _ _ HG.out HM.out z0 z1 HR2.out HQ2.out).mono ?_; rintro e w3 ⟨x, rfl, ho, hb3⟩
    rw [coverL_len] at ho
    have HWV : Hid (coverTextW m l q a = (strB (textC (coverL m (arcs l) q) q a m), true)) := Lib.hid rfl
    obtain ⟨d, hd⟩ : ∃ d, coverL m (arcs l) q = d := ⟨_, rfl⟩
    rw [hd] at ho HWV
    obtain ⟨h, cap5, rfl, hbh, hhl, hcap5, hcm5⟩ := own_shape ho (by omega)
    have HO := Lib.hid ho
    have HBB := Lib.hid (bel_then HB.out hb3)
    have HQ3 := Lib.hid (rdi_below HQ2.out hb3)
    clear hd ho hb3 z0 z1
    go_wp2_with fail
    go_loopw [8, 22] (fun v8 v22 wr => ∃ (k : Nat) (S : ByteArray), k ≤ m ∧ S.size ≤ 14 ∧ v22 = .int .i64 k ∧ v8 = .string S ∧ Hid (strB (textC d q a k) = S) ∧ wr = w3) (fun _ v22 _ => m - (intOf v22).toNat)
    case atStart => exact ⟨0, _, Nat.zero_le _, by simp [ByteArray.size], rfl, rfl, Lib.hid rfl, rfl⟩
    case round =>
      obtain ⟨k, S, hk, hS, rfl, rfl, HS, rfl⟩ := hrel
      by_cases hlt : k < m
      · have hS' : S.size < 14 := by rw [← HS.out, strB_size, textC_len]; omega
        have ck := own_cell HO.out hlt
        obtain ⟨x, hx⟩ : ∃ x, d.getD k 0 = x := ⟨_, rfl⟩
        rw [hx] at ck
        have HX := Lib.hid hx
        clear hx hS
        go_wp2_with fail
        refine (contains_c _ (k : Int) q _ HQ3.out).mono ?_; rintro e w' ⟨rfl, rfl⟩
        by_cases hmem : (k : Int) ∈ q
        · rw [decide_eq_true hmem]
          have HT := Lib.hid (text_step HS.out (show letC d q a k = 83 by unfold letC; rw [if_pos hmem]))
          go_wp2
          exact ⟨⟨k + 1, _, by omega, size_one hS', by go_num, rfl, HT, (by first | rfl | trivial)⟩, by simp [intOf]; omega⟩
        · rw [decide_eq_false hmem]
          go_wp2_with fail
          refine (inside_c _ _ _ _).mono ?_; rintro e w' ⟨rfl, rfl⟩
          by_cases hin : inB x 0 a = true
          · rw [hin]
            have HT := Lib.hid (text_step HS.out (show letC d q a k = 99 by unfold letC; rw [if_neg hmem, HX.out, if_pos hin]))
            go_wp2
            exact ⟨⟨k + 1, _, by omega, size_one hS', by go_num, rfl, HT, (by first | rfl | trivial)⟩, by simp [intOf]; omega⟩
          · have hin' : inB x 0 a = false := by simpa using hin
            rw [hin']
            have HT := Lib.hid (text_step HS.out (show letC d q a k = 45 by unfold letC; rw [if_neg hmem, HX.out, if_neg hin]))
            go_wp2
            exact ⟨⟨k + 1, _, by omega, size_one hS', by go_num, rfl, HT, (by first | rfl | trivial)⟩, by simp [intOf]; omega⟩
      · obtain rfl : k = m := by omega
        go_wp2
        go_ret2
        rw [HF.out, HWV.out, HS.out]
        exact ⟨rfl, HBB.out⟩
  · have hok : askC n l q a = false := by simpa using hok
    have HF : Hid (coverTextV n l q a = (⟨#[]⟩, false)) := Lib.hid (by unfold coverTextV; rw [hok]; rfl)
    by_cases hg : goodSta n l q = true
    · have hl : inB a 0 36000 = false := by unfold askC at hok; rw [hg] at hok; simpa using hok
      go_enter Try.func40, Try.ntmps40
      go_wp2_with (first | (go_at_call 50; refine (areStations_c n s _ l q _ _ (by simp [go_sem]) (by simp [go_sem]) (rd_below HR.out (hbx _)) (rdi_below HQ.out (hbx _))).mono ?_; rw [hg]; rintro e w' ⟨rfl, hb1⟩) | (go_at_call 60; refine (isLimit_c a _).mono ?_; rw [hl]; rintro e w' ⟨rfl, rfl⟩))
      go_ret2
      rw [HF.out]
      exact ⟨rfl, bel_then (hbx _) hb1⟩
    · have hg : goodSta n l q = false := by simpa using hg
      go_enter Try.func40, Try.ntmps40
      go_wp2_with (go_at_call 50; refine (areStations_c n s _ l q _ _ (by simp [go_sem]) (by simp [go_sem]) (rd_below HR.out (hbx _)) (rdi_below HQ.out (hbx _))).mono ?_; rw [hg]; rintro e w' ⟨rfl, hb1⟩)
      go_ret2
      rw [HF.out]
      exact ⟨rfl, bel_then (hbx _) hb1⟩
set_option maxRecDepth 100000 in
set_option maxHeartbeats 1000000 in
theorem coverTextS_c (n : Int) (s : Value) (l : List St) (v : Value) (q : List Int) (a : Int) (w : World) (hr : Rd w s l.length (l.flatMap St.cells)) (hq : RdI w v q) :
    Calls Try.prog 39 #[.agg #[.int .i64 n, s], v, .int .i64 a] w (fun e w' => e = .returned (.tuple #[.string (coverTextV n l q a).1, .bool (coverTextV n l q a).2]) ∧ Below w.heap.size w w') := by
  have HR := Lib.hid hr
  have HQ := Lib.hid hq
  clear hr hq
  have hbx : ∀ o, Below w.heap.size w (w.alloc o) := fun o => bel_al (Below.refl _ _) o
  by_cases hok : askC n l q a = true
  · have hk := askC_true hok
    obtain ⟨hok1, hlim, hg, hqm, hq6⟩ := hk
    obtain ⟨hlim0, hlim1⟩ := inB_true hlim
    obtain ⟨m, rfl⟩ := nat_of (goodTown_true hg).1
    have HF : Hid (coverTextV m l q a = coverTextW m l q a) := Lib.hid (by unfold coverTextV; rw [if_pos hok, Int.toNat_natCast])
    obtain ⟨hm1, hm2, _, _⟩ := goodTown_true hg
    have HG := Lib.hid hg
    have HM := Lib.hid hqm
    have HOK := Lib.hid hok
    have HOK1 := Lib.hid hok1
    have HLIM := Lib.hid hlim
    clear hok1 hlim
    clear hg hqm hok
    go_enter Try.func39, Try.ntmps39
    go_wp2_with fail
    generalize hw1 : World.alloc w _ = w1
    have k0 : w1.cell? ⟨w.heap.size, 0, none⟩ = some (.int .i64 m) := by subst hw1; simp [go_sem]
    have k1 : w1.cell? ⟨w.heap.size, 1, none⟩ = some s := by subst hw1; simp [go_sem]
    have hb1 : Below w.heap.size w w1 := by subst hw1; exact hbx _
    have hz : w.heap.size < w1.heap.size := by subst hw1; simp
    clear hw1 hbx
    refine (cvAsked_c m s l _ q a _ (rd_below HR.out hb1) (rdi_below HQ.out hb1)).mono ?_; rw [HOK.out]; rintro e w2 ⟨rfl, hb2⟩
    have hb12 := bel_then hb1 hb2
    have hz2 : w.heap.size < w2.heap.size := Nat.lt_of_lt_of_le hz hb2.size
    have z0 := (hb2.cell (p := ⟨w.heap.size, 0, none⟩) hz).trans k0
    have z1 := (hb2.cell (p := ⟨w.heap.size, 1, none⟩) hz).trans k1
    have HR2 := Lib.hid (rd_below HR.out hb12)
    have HQ2 := Lib.hid (rdi_below HQ.out hb12)
    have HB := Lib.hid hb12
    clear k0 k1 hb1 hb2 hz hb12
    go_wp2_with fail
    refine (cvSplit_c m s _ l q a _ HG.out HM.out HR2.out HQ2.out).mono ?_; rintro e w3 ⟨x, x', rfl, ho, _, hb3⟩
    have HWV : Hid (coverTextW m l q a = (strB (textC (coverL m (arcs l) q) q a m), true)) := Lib.hid rfl
    obtain ⟨d, hd⟩ : ∃ d, coverL m (arcs l) q = d := ⟨_, rfl⟩
    rw [hd] at ho HWV
    have HO := Lib.hid (rdi_own ho)
    have HBB := Lib.hid (bel_then HB.out hb3)
    have HQ3 := Lib.hid (rdi_below HQ2.out hb3)
    have b0 := (hb3.cell (p := ⟨w.heap.size, 0, none⟩) hz2).trans z0
    clear hd ho hb3 z0 z1
    go_wp2_with fail
    go_loopw [10, 11] (fun v8 v22 wr => ∃ (k : Nat) (S : ByteArray), k ≤ m ∧ S.size ≤ 14 ∧ v22 = .int .i64 k ∧ v8 = .string S ∧ Hid (strB (textC d q a k) = S) ∧ wr = w3) (fun _ v22 _ => m - (intOf v22).toNat)
    case atStart => exact ⟨0, _, Nat.zero_le _, by simp [ByteArray.size], rfl, rfl, Lib.hid rfl, rfl⟩
    case round =>
      obtain ⟨k, S, hk, hS, rfl, rfl, HS, rfl⟩ := hrel
      by_cases hlt : k < m
      · have hS' : S.size < 14 := by rw [← HS.out, strB_size, textC_len]; omega
        have HME : Hid (((k : Int) ∈ covIdx d a true m) = (inB (d.getD k 0) 0 a = true)) := Lib.hid (by
          apply propext
          unfold covIdx
          rw [selI_mem]
          unfold covP
          constructor
          · rintro ⟨i, h1, h2, h3⟩
            obtain rfl : k = i := by omega
            simpa using h3
          · intro h
            exact ⟨k, rfl, hlt, by simpa using h⟩)
        clear hS
        go_wp2_with fail
        refine (l1Has_c _ (k : Int) q _ HQ3.out).mono ?_; rintro e w' ⟨rfl, rfl⟩
        by_cases hmem : (k : Int) ∈ q
        · rw [decide_eq_true hmem]
          have HT := Lib.hid (text_step HS.out (show letC d q a k = 83 by unfold letC; rw [if_pos hmem]))
          go_wp2
          exact ⟨⟨k + 1, _, by omega, size_one hS', by go_num, rfl, HT, (by first | rfl | trivial)⟩, by simp [intOf]; omega⟩
        · rw [decide_eq_false hmem]
          go_wp2_with fail
          refine (l1Has_c _ (k : Int) _ _ HO.out).mono ?_; rintro e w' ⟨rfl, rfl⟩
          by_cases hin : inB (d.getD k 0) 0 a = true
          · rw [decide_eq_true (by rw [HME.out]; exact hin)]
            have HT := Lib.hid (text_step HS.out (show letC d q a k = 99 by unfold letC; rw [if_neg hmem, if_pos hin]))
            clear hin
            go_wp2
            exact ⟨⟨k + 1, _, by omega, size_one hS', by go_num, rfl, HT, (by first | rfl | trivial)⟩, by simp [intOf]; omega⟩
          · rw [decide_eq_false (by rw [HME.out]; exact hin)]
            have HT := Lib.hid (text_step HS.out (show letC d q a k = 45 by unfold letC; rw [if_neg hmem, if_neg hin]))
            clear hin
            go_wp2
            exact ⟨⟨k + 1, _, by omega, size_one hS', by go_num, rfl, HT, (by first | rfl | trivial)⟩, by simp [intOf]; omega⟩
      · obtain rfl : k = m := by omega
        go_wp2
        go_ret2
        rw [HF.out, HWV.out, HS.out]
        exact ⟨rfl, HBB.out⟩
  · have hok : askC n l q a = false := by simpa using hok
    have HF : Hid (coverTextV n l q a = (⟨#[]⟩, false)) := Lib.hid (by unfold coverTextV; rw [hok]; rfl)
    go_enter Try.func39, Try.ntmps39
    go_wp2_with (go_at_call 70; refine (cvAsked_c n s l _ q a _ (rd_below HR.out (hbx _)) (rdi_below HQ.out (hbx _))).mono ?_; rw [hok]; rintro e w' ⟨rfl, hb1⟩)
    go_ret2
    rw [HF.out]
    exact ⟨rfl, bel_then (hbx _) hb1⟩
end Go.Proofs.Ytemcdgchleijbaa
