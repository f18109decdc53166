/-
  impl.LeastFillLimit (printed by gen_least.py). (joined by pack.py: MvLI)
-/
import Derived.Test.YtahehdgkbhjpoaaGreatDoorK13
import Derived.Test.YtahehdgkbhjpoaaGreatDoorK28
namespace Go.Proofs.YtahehdgkbhjpoaaGreatDoor
set_option linter.unusedVariables false
set_option linter.unusedSimpArgs false
open Go.RowKit

set_option maxRecDepth 100000 in
set_option maxHeartbeats 2000000 in
theorem leastFillLimitI_c (n : Int) (s : Value) (l : List St) (v : Value) (p : List Int) (u : Value) (q : List Int) (w : World) (hr : Rd w s l.length (l.flatMap St.cells)) (hp : RdI w v p) (hq : RdI w u q) :
    Calls Tryz.prog 5 #[.agg #[.int .i64 n, s], v, u] w fun e w' => e = .returned (.tuple #[.int .i64 (leastFillLimitV n l p q).1, .bool (leastFillLimitV n l p q).2]) ∧ Below w.heap.size w w' := by
  have HR := Lib.hid hr
  have HP := Lib.hid hp
  have HQ := Lib.hid hq
  obtain ⟨Ap, cp, rfl, hcp, hmp, hpc⟩ := hp
  obtain ⟨Aq, cq, rfl, hcq, hmq, hqc⟩ := hq
  rw [maxLen_eq] at hmp hmq
  have HPC := Lib.hid hpc
  have HQC := Lib.hid hqc
  obtain ⟨i0, hi, hz0, hz1, hz2⟩ := info_parts Tryz.infoInt
  clear hr hpc hqc
  go_enter Tryz.func5, Tryz.ntmps5
  go_wp2_with fail
  generalize hW : World.alloc w _ = w0
  have t0 : w0.cell? ⟨w.heap.size, 0, none⟩ = some (.int .i64 n) := by subst hW; simp [go_sem]
  have t1 : w0.cell? ⟨w.heap.size, 1, none⟩ = some s := by subst hW; simp [go_sem]
  have hb0 : Below w.heap.size w w0 := by subst hW; exact bel_al (Below.refl _ _) _
  have z0 : w.heap.size < w0.heap.size := by subst hW; simp
  have HB := Lib.hid hb0
  clear hW hb0
  refine (moversFit_c n s l _ _ p q _ _ t0 t1 (rd_below HR.out HB.out) (rdi_below HP.out HB.out) (rdi_below HQ.out HB.out)).mono ?_; rintro e w1 ⟨rfl, hb1⟩
  have k0 := (hb1.cell (p := ⟨w.heap.size, 0, none⟩) z0).trans t0
  have k1 := (hb1.cell (p := ⟨w.heap.size, 1, none⟩) z0).trans t1
  have HB1 := Lib.hid (bel_then HB.out hb1)
  have hs1 := hb1.size
  clear t0 t1 hb1
  by_cases hok : goodMv n l p q = true
  ·
    have HOK := Lib.hid hok
    obtain ⟨g1, g2, g3, g4, g5⟩ := goodMv_true hok
    obtain ⟨m, rfl⟩ := nat_of (goodTown_true g1).1
    have hm14 := (goodTown_true g1).2.1
    rw [hok]
    have HG1 := Lib.hid g1
    have HG2 := Lib.hid g2
    have HG5 := Lib.hid g5
    have K0 := Lib.hid k0
    have K1 := Lib.hid k1
    have hz1' : w.heap.size < w1.heap.size := by omega
    clear g1 g2 g5 hok k0 k1
    go_wp2_with fail
    generalize hW : World.alloc w1 _ = wL
    have hoL : Hid (wL.ownsRow w1.heap.size 3 1 (.slice (some ⟨w1.heap.size, 0, none⟩) 1 1) [(0 : Int)].length (ints [0])) := Lib.hid (by subst hW; exact own_one w1 0)
    have hbL : Hid (Below w1.heap.size w1 wL) := Lib.hid (by subst hW; exact bel_al (Below.refl _ _) _)
    clear hW
    go_loopw [8, 23] (fun v8 v23 wr => ∃ (k : Nat) (L : List Int), k ≤ q.length ∧ Hid (L.length = 1 + p.length * k) ∧ v23 = .int .i64 k ∧ Hid (0 :: (q.take k).flatMap (rowT m (arcs l) p) = L) ∧ Hid (wr.ownsRow w1.heap.size 3 1 v8 L.length (ints L)) ∧ Hid (Below w1.heap.size w1 wr)) (fun _ v23 _ => q.length - (intOf v23).toNat)
    case atStart => exact ⟨0, [0], Nat.zero_le _, Lib.hid rfl, rfl, Lib.hid rfl, hoL, hbL⟩
    case round =>
     obtain ⟨k, L, hk, hLl, rfl, HL, HO, HBL⟩ := hrel
     obtain ⟨wA, rfl⟩ : ∃ wA : World, wA = wr := ⟨_, rfl⟩
     have hsA := HBL.out.size
     by_cases hlt : k < q.length
     ·
      obtain ⟨b, off, rfl, hbl, hcell⟩ := HQC.out (by omega)
      obtain ⟨x, hx⟩ : ∃ x, q[k]? = some x := ⟨_, List.getElem?_eq_getElem hlt⟩
      have c0 := cell_at hcell (bel_then HB1.out HBL.out) hbl (ints_get hx)
      have hxb := HG2.out x (List.mem_of_getElem? hx)
      obtain ⟨xn, rfl⟩ := Int.eq_ofNat_of_zero_le hxb.1
      have hxn : xn < m := by omega
      have HLS := Lib.hid (flat_take_succ (f := rowT m (arcs l) p) hx)
      have z0 := (HBL.out.cell (p := ⟨w.heap.size, 0, none⟩) hz1').trans K0.out
      have z1 := (HBL.out.cell (p := ⟨w.heap.size, 1, none⟩) hz1').trans K1.out
      clear hcell hx hxb
      go_wp2_with fail
      refine (timesI_c m _ l w.heap.size xn _ HG1.out hxn z0 z1 (rd_below HR.out (bel_then HB1.out HBL.out))).mono ?_
      rintro e w5 ⟨v5, rfl, ho5, hb5⟩
      rw [distT_len] at ho5
      obtain ⟨h, cap5, rfl, hbh, hhl, hcap5, hcm5⟩ := own_shape ho5 (by have := (goodTown_true HG1.out).1; omega)
      obtain ⟨ev, hev⟩ : ∃ ev, distT m (arcs l) xn = ev := ⟨_, rfl⟩
      rw [hev] at ho5
      have HEV := Lib.hid hev
      have HO5 := Lib.hid ho5
      have HOL := Lib.hid (own_below HO.out hb5)
      have HB5 := Lib.hid (bel_then HBL.out hb5)
      have hs5 := hb5.size
      have hlo := HO.out.lt
      have HLO := Lib.hid hlo
      clear ho5 hb5 c0 hev z0 z1 hlo
      go_wp2_with fail
      go_loopw [8, 31] (fun v8 v31 wr => ∃ (j : Nat) (L2 : List Int), j ≤ p.length ∧ Hid (L2.length = L.length + j) ∧ v31 = .int .i64 j ∧ Hid (L ++ (rowT m (arcs l) p xn).take j = L2) ∧ Hid (wr.ownsRow w1.heap.size 3 1 v8 L2.length (ints L2)) ∧ Hid (Below w1.heap.size w1 wr) ∧ Hid (wr.ownsRow wA.heap.size 3 1 (.slice (some ⟨h, 0, none⟩) m cap5) m (ints ev)) ∧ w5.heap.size ≤ wr.heap.size ∧ Hid (∀ g, v8.ownBlock = some g → g ≠ h)) (fun _ v31 _ => p.length - (intOf v31).toNat)
      case atStart => exact ⟨0, L, Nat.zero_le _, Lib.hid (by omega), rfl, Lib.hid (by simp), HOL, HB5, HO5, Nat.le_refl _, Lib.hid (fun g hg e => by have := (HLO.out g hg).2; omega)⟩
      case round =>
       obtain ⟨j, L2, hj, hL2, rfl, HL2, HO2, HB2, HOH, hs2, HNE⟩ := hrel
       obtain ⟨wB, rfl⟩ : ∃ wB : World, wB = wr := ⟨_, rfl⟩
       have hL43 : L2.length ≤ 43 := by
         have h1 : p.length * k ≤ 7 * 5 := Nat.mul_le_mul g4 (by omega)
         have h2 := hL2.out
         have h3 := hLl.out
         omega
       by_cases hjl : j < p.length
       ·
        obtain ⟨b2, off2, rfl, hbl2, hcell2⟩ := HPC.out (by omega)
        obtain ⟨y, hy⟩ : ∃ y, p[j]? = some y := ⟨_, List.getElem?_eq_getElem hjl⟩
        have d0 := cell_at hcell2 (bel_then HB1.out HB2.out) hbl2 (ints_get hy)
        have hyb := HG5.out y (List.mem_of_getElem? hy)
        obtain ⟨yn, rfl⟩ := Int.eq_ofNat_of_zero_le hyb.1
        have hyn : yn < m := by omega
        have ce := own_cell HOH.out hyn
        obtain ⟨t, ht⟩ : ∃ t, ev.getD yn 0 = t := ⟨_, rfl⟩
        rw [ht] at ce
        have hrow : (rowT m (arcs l) p xn)[j]? = some t := by unfold rowT; rw [List.getElem?_map, hy, Option.map_some, Int.toNat_natCast, HEV.out, Int.toNat_natCast, ht]
        have HL3 : Hid (L ++ (rowT m (arcs l) p xn).take (j + 1) = L2 ++ [t]) := Lib.hid (by rw [take_succ_of hrow, ← List.append_assoc, HL2.out])
        have y0 : (0 : Int) ≤ (yn : Int) := by omega
        have y1 : (yn : Int) < (m : Int) := by omega
        clear hy hyb hcell2 ht hrow
        go_wp2_with (at_builtin; refine wpList_app_rd _ rfl _ _ 26 rfl w1.heap.size 3 i0 (.int .i64 0) 1 8 Tryz.underlying26 hi hz0 hz1 hz2 rfl (by decide) _ _ _ rfl (HO2.out.alloc _) _ 1 [.int .i64 t] rfl (rd_new _ rfl (Nat.le_refl _) (by rw [maxLen_eq]; omega)) rfl (ints_one [t]) (by rw [maxLen_eq]; omega) (by omega) (by have := HB2.out.size; simp; omega) ?_; intro v7 w7 hown7 hgrow7 he7)
        refine ⟨⟨j + 1, L2 ++ [t], by omega, Lib.hid (by have := hL2.out; simp; omega), by go_num, HL3, Lib.hid ?_, Lib.hid (bel_grown (bel_al HB2.out _) hgrow7 (fun q e => (HO2.out.lt q e).1)), Lib.hid ?_, by have := hgrow7.size; simp at this; omega, Lib.hid ?_⟩, by simp [intOf]; omega⟩
        · rw [ints_append, List.length_append]; exact hown7
        · exact (HOH.out.alloc _).kept hgrow7 (.inr (fun e => HNE.out h e.symm rfl))
        · intro g hg e
          rcases he7 with h7 | h7
          · rw [h7] at hg; exact HNE.out g hg e
          · rw [h7] at hg
            have := Option.some.inj hg
            simp at this
            omega
       · obtain rfl : j = p.length := by omega
         go_wp2
         refine ⟨⟨k + 1, L2, by omega, Lib.hid (by rw [hL2.out, hLl.out, Nat.mul_add]; omega), by go_num, Lib.hid ?_, HO2, HB2⟩, by simp [intOf]; omega⟩
         rw [HLS.out, ← HL2.out, ← HL.out, List.take_of_length_le (l := rowT m (arcs l) p xn) (by simp [rowT])]; simp
     · obtain rfl : k = q.length := by omega
       have hL43 : L.length ≤ 43 := by
         have h1 : p.length * q.length ≤ 7 * 6 := Nat.mul_le_mul g4 g3
         have h3 := hLl.out
         omega
       have hL0 : 0 < L.length := by have h3 := hLl.out; omega
       have hlim : limF m (arcs l) p q = L := by
         have := HL.out
         rw [List.take_length] at this
         exact this
       obtain ⟨S, hS⟩ : ∃ S, L.mergeSort (fun x y => decide (x ≤ y)) = S := ⟨_, rfl⟩
       have hSl : Hid (S.length = L.length) := Lib.hid (by rw [← hS, List.length_mergeSort])
       have hS43 : S.length ≤ 43 := by have := hSl.out; omega
       have hlS : limS m (arcs l) p q = S := by unfold limS; rw [hlim, hS]
       have hcall := sort_c _ L w1.heap.size wA HO.out hL0 (by omega)
       rw [hS] at hcall
       have HC := Lib.hid hcall
       have HLS := Lib.hid hlS
       obtain ⟨g, cap, hxg, hg1, hg2, hg3, hg4'⟩ := own_shape HO.out hL0
       subst hxg
       clear hlim hS hcall hlS
       go_wp2_with fail
       refine HC.out.mono ?_; rintro e w6 ⟨rfl, ho6, hgr6⟩
       have hb6 : Below w1.heap.size w1 w6 := bel_grown HBL.out hgr6 (fun q e => (HO.out.lt q e).1)
       have HB6 := Lib.hid hb6
       rw [← hSl.out] at ho6 ⊢
       have HO6 := Lib.hid ho6
       have hs6 := hb6.size
       have hgr6s := hgr6.size
       clear ho6 hgr6 hb6
       go_wp2_with fail
       go_loopw [48] (fun v48 wr => ∃ k : Nat, k ≤ S.length ∧ v48 = .int .i64 k ∧ Hid ((S.drop k).find? (gOK m (arcs l) p q) = S.find? (gOK m (arcs l) p q)) ∧ Hid (Below w6.heap.size w6 wr)) (fun v48 _ => S.length - (intOf v48).toNat)
       case atStart => exact ⟨0, Nat.zero_le _, rfl, Lib.hid rfl, Lib.hid (Below.refl _ _)⟩
       case round =>
        obtain ⟨k, hk, rfl, HFD, HB7⟩ := hrel
        obtain ⟨wC, rfl⟩ : ∃ wC : World, wC = wr := ⟨_, rfl⟩
        have hsC := HB7.out.size
        by_cases hlt : k < S.length
        ·
         obtain ⟨x, hx⟩ : ∃ x, S[k]? = some x := ⟨_, List.getElem?_eq_getElem hlt⟩
         have c0 := (HB7.out.cell (p := ⟨g, k, none⟩) (by show g < _; omega)).trans ((HO6.out.cellAt k (by omega)).trans (ints_get hx))
         have HX := Lib.hid hx
         have k00 : (0 : Int) ≤ (k : Int) := by omega
         have k11 : (k : Int) < (S.length : Int) := by omega
         have HBC := Lib.hid (bel_then HB1.out (bel_then HB6.out HB7.out))
         have z0 := ((bel_then HB6.out HB7.out).cell (p := ⟨w.heap.size, 0, none⟩) hz1').trans K0.out
         have z1 := ((bel_then HB6.out HB7.out).cell (p := ⟨w.heap.size, 1, none⟩) hz1').trans K1.out
         clear hx
         go_wp2_with fail
         refine (isLimit_c x _).mono ?_; rintro e w2 ⟨rfl, rfl⟩
         by_cases hin : inB x 0 36000 = true
         · rw [hin]
           have HIN := Lib.hid hin
           have hT : Tab (reachL m (arcs l) p q x) := reachL_tab g4 g3
           obtain ⟨TB, hTB⟩ : ∃ TB, reachL m (arcs l) p q x = TB := ⟨_, rfl⟩
           have hle := mostR_le TB noneP
           have hlen : TB.length ≤ 6 := by rw [← hTB, reachL_len]; exact g3
           have hcall := reachTable_c m s (.slice Ap p.length cp) (.slice Aq q.length cq) l p q x w.heap.size _ HG1.out HG5.out HG2.out g4 g3 z0 z1 (rd_below HR.out HBC.out) (rdi_below HP.out HBC.out) (rdi_below HQ.out HBC.out)
           obtain ⟨r, hr⟩ : ∃ r, mostR TB noneP = r := ⟨_, rfl⟩
           have HGX : Hid (gOK m (arcs l) p q x = decide (r = q.length)) := Lib.hid (by unfold gOK; rw [HIN.out, hTB, hr]; rfl)
           rw [hTB] at hcall hT
           rw [hr] at hle
           have HC2 := Lib.hid hcall
           have HT := Lib.hid hT
           have HRR := Lib.hid hr
           clear hin hTB hcall hT hr z0 z1
           go_wp2_with fail
           refine HC2.out.mono ?_; rintro e w8 ⟨v8, rfl, ho8, hb8⟩
           have HO8 := Lib.hid ho8
           have HB8 := Lib.hid (bel_then HB7.out hb8)
           have HBC8 := Lib.hid (bel_then HBC.out hb8)
           clear ho8 hb8
           go_wp2_with fail
           refine (mostFilled_c _ TB _ HT.out HO8.out.rd).mono ?_; rw [HRR.out]; rintro e w9 ⟨rfl, rfl⟩
           by_cases hyes : r = q.length
           · have e5 : ((r : Int) == (q.length : Int)) = true := by rw [beq_iff_eq]; omega
             have HF := Lib.hid (leastV_some HOK.out (show _ = some x by rw [HLS.out, ← HFD.out]; exact find_drop_yes HX.out (by rw [HGX.out]; exact decide_eq_true hyes)))
             clear hyes
             go_wp2
             go_ret2
             rw [HF.out]
             exact ⟨rfl, HBC8.out⟩
           · have e5 : ((r : Int) == (q.length : Int)) = false := by rw [beq_eq_false_iff_ne]; omega
             have HFD2 : Hid ((S.drop (k + 1)).find? (gOK m (arcs l) p q) = S.find? (gOK m (arcs l) p q)) := Lib.hid (by rw [← HFD.out]; exact (find_drop_no HX.out (by rw [HGX.out]; exact decide_eq_false hyes)).symm)
             clear hyes
             go_wp2
             exact ⟨⟨k + 1, by omega, by go_num, HFD2, HB8⟩, by simp [intOf]; omega⟩
         · have hin' : inB x 0 36000 = false := by simpa using hin
           rw [hin']
           have HFD2 : Hid ((S.drop (k + 1)).find? (gOK m (arcs l) p q) = S.find? (gOK m (arcs l) p q)) := Lib.hid (by rw [← HFD.out]; exact (find_drop_no HX.out (by unfold gOK; rw [hin']; rfl)).symm)
           clear hin hin'
           go_wp2
           exact ⟨⟨k + 1, by omega, by go_num, HFD2, HB7⟩, by simp [intOf]; omega⟩
        · obtain rfl : k = S.length := by omega
          have HF := Lib.hid (leastV_none HOK.out (show _ = none by rw [HLS.out, ← HFD.out, List.drop_length]; rfl))
          go_wp2
          go_ret2
          rw [HF.out]
          exact ⟨rfl, bel_then HB1.out (bel_then HB6.out HB7.out)⟩
  · have hok : goodMv n l p q = false := by simpa using hok
    have HF : Hid (leastFillLimitV n l p q = (0, false)) := Lib.hid (by unfold leastFillLimitV; rw [hok]; rfl)
    rw [hok]
    go_wp2
    go_ret2
    rw [HF.out]
    exact ⟨rfl, HB1.out⟩
end Go.Proofs.YtahehdgkbhjpoaaGreatDoor
