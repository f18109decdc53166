/-
  BestFurther on the reference's side.
-/
import Derived.Test.YtemcdgchleijbaaCovH
namespace Go.Proofs.Ytemcdgchleijbaa
open Go.RowKit

set_option maxRecDepth 100000 in
set_option maxHeartbeats 1000000 in
theorem bestFurtherS_c (n : Int) (s : Value) (l : List St) (v : Value) (q : List Int) (a : Int) (w : World) (hr : Rd w s l.length (l.flatMap St.cells)) (hq : RdI w v q) :
    Calls Try.prog 41 #[.agg #[.int .i64 n, s], v, .int .i64 a] w (fun e w' => e = .returned (.tuple #[.int .i64 (bestFurtherV n l q a).1, .int .i64 (bestFurtherV n l q a).2.1, .bool (bestFurtherV n l q a).2.2]) ∧ Below w.heap.size w w') := by
  have HR := Lib.hid hr
  have HQ := Lib.hid hq
  clear hr hq
  have hbx : ∀ o, Below w.heap.size w (w.alloc o) := fun o => bel_al (Below.refl _ _) o
  by_cases hok : askC n l q a = true
  · have hk := askC_true hok
    obtain ⟨hok1, hlim, hg, hqm, hq6⟩ := hk
    obtain ⟨hlim0, hlim1⟩ := inB_true hlim
    obtain ⟨m, rfl⟩ := nat_of (goodTown_true hg).1
    have HF : Hid (bestFurtherV m l q a = bestFurtherW m l q a) := Lib.hid (by unfold bestFurtherV; rw [if_pos hok, Int.toNat_natCast])
    obtain ⟨hm1, hm2, _, _⟩ := goodTown_true hg
    have HG := Lib.hid hg
    have HM := Lib.hid hqm
    have HOK := Lib.hid hok
    have HOK1 := Lib.hid hok1
    have HLIM := Lib.hid hlim
    clear hok1 hlim
    clear hg hqm hok
    obtain ⟨Aq, cq, hvq, _⟩ := HQ.out
    subst hvq
    go_enter Try.func41, Try.ntmps41
    go_wp2_with fail
    generalize hw1 : World.alloc w _ = w1
    have k0 : w1.cell? ⟨w.heap.size, 0, none⟩ = some (.int .i64 m) := by subst hw1; simp [go_sem]
    have k1 : w1.cell? ⟨w.heap.size, 1, none⟩ = some s := by subst hw1; simp [go_sem]
    have hb1 : Below w.heap.size w w1 := by subst hw1; exact hbx _
    have hz : w.heap.size < w1.heap.size := by subst hw1; simp
    clear hw1 hbx
    refine (cvAsked_c m s l _ q a _ (rd_below HR.out hb1) (rdi_below HQ.out hb1)).mono ?_; rw [HOK.out]; rintro e w2 ⟨rfl, hb2⟩
    have hb12 := bel_then hb1 hb2
    have hz2 : w.heap.size < w2.heap.size := Nat.lt_of_lt_of_le hz hb2.size
    have z0 := (hb2.cell (p := ⟨w.heap.size, 0, none⟩) hz).trans k0
    have z1 := (hb2.cell (p := ⟨w.heap.size, 1, none⟩) hz).trans k1
    have HR2 := Lib.hid (rd_below HR.out hb12)
    have HQ2 := Lib.hid (rdi_below HQ.out hb12)
    have HB := Lib.hid hb12
    clear k0 k1 hb1 hb2 hz hb12
    by_cases h6 : q.length = 6
    · have e6 : ((q.length : Int) == 6) = true := by simp; omega
      have HW : Hid (bestFurtherW m l q a = (0, 0, false)) := Lib.hid (by unfold bestFurtherW; rw [if_pos (Or.inl h6)])
      clear h6
      go_wp2
      go_ret3
      rw [HF.out, HW.out]
      exact ⟨rfl, HB.out⟩
    have e6 : ((q.length : Int) == 6) = false := by simp; omega
    by_cases h7 : q.length = m
    · have e7 : ((q.length : Int) == (m : Int)) = true := by simp; omega
      have HW : Hid (bestFurtherW m l q a = (0, 0, false)) := Lib.hid (by unfold bestFurtherW; rw [if_pos (Or.inr h7)])
      clear h6 h7
      go_wp2
      go_ret3
      rw [HF.out, HW.out]
      exact ⟨rfl, HB.out⟩
    have e7 : ((q.length : Int) == (m : Int)) = false := by simp; omega
    have HWV : Hid (bestFurtherW m l q a = ((bestB m (arcs l) a (openL m l q a) q m).1, (bestB m (arcs l) a (openL m l q a) q m).2, true)) := Lib.hid (by unfold bestFurtherW; rw [if_neg (by intro hor; rcases hor with hor | hor; exact h6 hor; exact h7 hor)])
    clear h6 h7
    go_wp2_with fail
    refine (cvSplit_c m _ _ l q a _ HG.out HM.out HR2.out HQ2.out).mono ?_; rintro e w3 ⟨x', x, rfl, _, ho, hb3⟩
    have HB3 := Lib.hid (bel_then HB.out hb3)
    have HR3 := Lib.hid (rd_below HR2.out hb3)
    have HQ3 := Lib.hid (rdi_below HQ2.out hb3)
    have hz3 : w.heap.size < w3.heap.size := Nat.lt_of_lt_of_le hz2 hb3.size
    have b0 := (hb3.cell (p := ⟨w.heap.size, 0, none⟩) hz2).trans z0
    have b1 := (hb3.cell (p := ⟨w.heap.size, 1, none⟩) hz2).trans z1
    have hol := covIdx_len (coverL m (arcs l) q) a false m
    have HMEM : Hid (∀ x ∈ openL m l q a, ∃ i : Nat, x = (i : Int) ∧ i < m) := Lib.hid (fun x hx => by
      obtain ⟨i, h1, h2, _⟩ := selI_mem.1 hx
      exact ⟨i, h1, h2⟩)
    obtain ⟨o, hoo⟩ : ∃ o, openL m l q a = o := ⟨_, rfl⟩
    have hoo' : covIdx (coverL m (arcs l) q) a false m = o := hoo
    rw [hoo'] at ho hol
    rw [hoo] at HMEM HWV
    have HO3 := Lib.hid (rdi_own ho)
    clear ho hb3 z0 z1 hoo hoo'
    go_wp2_with fail
    refine (cvReach_c m _ l a _ HG.out HR3.out).mono ?_; rintro e w4 ⟨xr, rfl, hor, hb4⟩
    rw [reachL_len] at hor
    obtain ⟨gr, capr, rfl, hbr, hrl, hcapr, _⟩ := own_shape hor (by omega)
    have HBB := Lib.hid (bel_then HB3.out hb4)
    have HQ4 := Lib.hid (rdi_below HQ3.out hb4)
    have HOR := Lib.hid hor
    obtain ⟨Ao, co, hxo, hco, hmo, hro⟩ := rdi_below HO3.out hb4
    subst hxo
    rw [maxLen_eq] at hmo
    have HRO := Lib.hid hro
    clear hor hb4 hro b0 b1
    go_wp2_with fail
    go_loopw [12, 13, 47] (fun v10 v11 v35 wr => ∃ (k : Nat) (b c : Int), k ≤ m ∧ v35 = .int .i64 k ∧ v10 = .int .i64 b ∧ v11 = .int .i64 c ∧ -1 ≤ c ∧ c ≤ 14 ∧ Hid (bestB m (arcs l) a o q k = (b, c)) ∧ wr = w4) (fun _ _ v35 _ => m - (intOf v35).toNat)
    case atStart => exact ⟨0, 0, -1, Nat.zero_le _, rfl, rfl, rfl, by omega, by omega, Lib.hid rfl, rfl⟩
    case round =>
      obtain ⟨k, b, c, hk, rfl, rfl, rfl, hc0, hc1, HBK, rfl⟩ := hrel
      obtain ⟨wA, rfl⟩ : ∃ wA : World, wA = wr := ⟨_, rfl⟩
      by_cases hlt : k < m
      · go_wp2_with fail
        refine (l1Has_c _ (k : Int) q _ HQ4.out).mono ?_; rintro e w' ⟨rfl, rfl⟩
        by_cases hmem : (k : Int) ∈ q
        · rw [decide_eq_true hmem]
          have HN : Hid (bestB m (arcs l) a o q (k + 1) = (b, c)) := Lib.hid (by rw [bestB_succ, HBK.out]; unfold stepB; rw [if_pos hmem])
          clear hmem
          go_wp2
          exact ⟨⟨k + 1, b, c, by omega, by go_num, rfl, rfl, hc0, hc1, HN, (by first | rfl | trivial)⟩, by simp [intOf]; omega⟩
        · rw [decide_eq_false hmem]
          have HN : Hid (bestB m (arcs l) a o q (k + 1) = if c < (cntB m (arcs l) a o k : Int) then ((k : Int), (cntB m (arcs l) a o k : Int)) else (b, c)) := Lib.hid (by rw [bestB_succ, HBK.out]; unfold stepB; rw [if_neg hmem])
          have cR := own_cell HOR.out hlt
          rw [reachL_get hlt] at cR
          have hRlt := reachM_lt m (arcs l) a k
          have hpb := pow_bd (show m ≤ 14 by omega)
          obtain ⟨R, hR⟩ : ∃ R, reachM m (arcs l) a k = R := ⟨_, rfl⟩
          rw [hR] at cR hRlt
          have HR' := Lib.hid hR
          have hRb : R < 16384 := by omega
          clear hmem hRlt hpb hR
          go_wp2_with fail
          go_loopw [15, 55] (fun v13 v45 wr2 => ∃ (i t : Nat), i ≤ o.length ∧ t ≤ i ∧ v45 = .int .i64 i ∧ v13 = .int .i64 t ∧ Hid (((o.take i).filter (hitP m (arcs l) a k)).length = t) ∧ wr2 = wA) (fun _ v45 _ => o.length - (intOf v45).toNat)
          case atStart => exact ⟨0, 0, Nat.zero_le _, Nat.le_refl _, rfl, rfl, Lib.hid rfl, rfl⟩
          case round =>
            obtain ⟨i, t, hi, hti, rfl, rfl, HT, rfl⟩ := hrel
            by_cases hio : i < o.length
            · obtain ⟨bb, off, rfl, hbl, hcell⟩ := HRO.out (by omega)
              obtain ⟨x, hx⟩ : ∃ x, o[i]? = some x := ⟨_, List.getElem?_eq_getElem hio⟩
              have cx := hcell _ _ (ints_get hx)
              obtain ⟨xn, rfl, hxm⟩ := HMEM.out x (List.mem_of_getElem? hx)
              have HX := Lib.hid hx
              have j0 : (0 : Int) ≤ (xn : Int) := by omega
              have j1 : (xn : Int) ≤ 64 := by omega
              have u1 : IntKind.u64.wrap (xn : Int) = (xn : Int) := by rw [IntKind.wrap_u64]; omega
              have hh : hitP m (arcs l) a k (xn : Int) = R.testBit xn := by unfold hitP; rw [Int.toNat_natCast, ← reachM_bit hxm, HR'.out]
              have hbit := bit_of R xn (by omega)
              have HH := Lib.hid hh
              clear hx hcell hh
              by_cases hin : R.testBit xn = true
              · rw [if_pos hin] at hbit
                have HT' : Hid (((o.take (i + 1)).filter (hitP m (arcs l) a k)).length = t + 1) := Lib.hid (by rw [take_succ_of HX.out, List.filter_append, List.length_append, HT.out]; simp [HH.out, hin])
                clear hin
                go_wp2
                exact ⟨⟨i + 1, t + 1, by omega, by omega, by go_num, by go_num, HT', (by first | rfl | trivial)⟩, by simp [intOf]; omega⟩
              · rw [if_neg hin] at hbit
                have hin' : R.testBit xn = false := by simpa using hin
                have HT' : Hid (((o.take (i + 1)).filter (hitP m (arcs l) a k)).length = t) := Lib.hid (by rw [take_succ_of HX.out, List.filter_append, List.length_append, HT.out]; simp [HH.out, hin'])
                clear hin hin'
                go_wp2
                exact ⟨⟨i + 1, t, by omega, by omega, by go_num, rfl, HT', (by first | rfl | trivial)⟩, by simp [intOf]; omega⟩
            · obtain rfl : i = o.length := by omega
              have e := HT.out
              rw [List.take_length] at e
              have HC : Hid (cntB m (arcs l) a o k = t) := Lib.hid e
              clear e
              by_cases hct : c < (t : Int)
              · have HN' : Hid (bestB m (arcs l) a o q (k + 1) = ((k : Int), (t : Int))) := Lib.hid (by rw [HN.out, HC.out, if_pos hct])
                go_wp2
                exact ⟨⟨k + 1, (k : Int), (t : Int), by omega, by go_num, rfl, rfl, by omega, by omega, HN', (by first | rfl | trivial)⟩, by simp [intOf]; omega⟩
              · have HN' : Hid (bestB m (arcs l) a o q (k + 1) = (b, c)) := Lib.hid (by rw [HN.out, HC.out, if_neg hct])
                have hct' : (t : Int) ≤ c := by omega
                go_wp2
                exact ⟨⟨k + 1, b, c, by omega, by go_num, rfl, rfl, hc0, hc1, HN', (by first | rfl | trivial)⟩, by simp [intOf]; omega⟩
      · obtain rfl : k = m := by omega
        have HW : Hid (bestFurtherW k l q a = (b, c, true)) := Lib.hid (by rw [HWV.out, HBK.out])
        go_wp2
        go_ret3
        rw [HF.out, HW.out]
        exact ⟨rfl, HBB.out⟩
  · have hok : askC n l q a = false := by simpa using hok
    have HF : Hid (bestFurtherV n l q a = (0, 0, false)) := Lib.hid (by unfold bestFurtherV; rw [hok]; rfl)
    go_enter Try.func41, Try.ntmps41
    go_wp2_with (go_at_call 70; refine (cvAsked_c n s l _ q a _ (rd_below HR.out (hbx _)) (rdi_below HQ.out (hbx _))).mono ?_; rw [hok]; rintro e w' ⟨rfl, hb1⟩)
    go_ret3
    rw [HF.out]
    exact ⟨rfl, bel_then (hbx _) hb1⟩
end Go.Proofs.Ytemcdgchleijbaa
