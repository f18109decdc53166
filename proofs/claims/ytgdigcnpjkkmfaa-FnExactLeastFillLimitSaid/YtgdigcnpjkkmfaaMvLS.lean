/-
  spec.LeastFillLimit (printed by gen_least.py).
-/
import Derived.Test.YtgdigcnpjkkmfaaMvZ
namespace Go.Proofs.Ytgdigcnpjkkmfaa
open Go.RowKit

set_option maxRecDepth 100000 in
set_option maxHeartbeats 2000000 in
theorem leastFillLimitS_c (n : Int) (s : Value) (l : List St) (v : Value) (p : List Int) (u : Value) (q : List Int) (w : World) (hr : Rd w s l.length (l.flatMap St.cells)) (hp : RdI w v p) (hq : RdI w u q) :
    Calls Try.prog 36 #[.agg #[.int .i64 n, s], v, u] w fun e w' => e = .returned (.tuple #[.int .i64 (leastFillLimitV n l p q).1, .bool (leastFillLimitV n l p q).2]) ∧ Below w.heap.size w w' := by
  have HR := Lib.hid hr
  have HP := Lib.hid hp
  have HQ := Lib.hid hq
  obtain ⟨Aq, cq, rfl, hcq, hmq, _⟩ := hq
  rw [maxLen_eq] at hmq
  obtain ⟨i0, hi, hz0, hz1, hz2⟩ := info_parts Try.infoInt
  clear hr hp
  go_enter Try.func36, Try.ntmps36
  go_wp2_with fail
  generalize hW : World.alloc w _ = w0
  have t0 : w0.cell? ⟨w.heap.size, 0, none⟩ = some (.int .i64 n) := by subst hW; simp [go_sem]
  have t1 : w0.cell? ⟨w.heap.size, 1, none⟩ = some s := by subst hW; simp [go_sem]
  have hb0 : Below w.heap.size w w0 := by subst hW; exact bel_al (Below.refl _ _) _
  have z0 : w.heap.size < w0.heap.size := by subst hW; simp
  have HB := Lib.hid hb0
  clear hW hb0
  go_wp2_with fail
  refine (mvAsked_c n s l _ _ p q _ (rd_below HR.out HB.out) (rdi_below HP.out HB.out) (rdi_below HQ.out HB.out)).mono ?_; rintro e w1 ⟨rfl, hb1⟩
  have k0 := (hb1.cell (p := ⟨w.heap.size, 0, none⟩) z0).trans t0
  have k1 := (hb1.cell (p := ⟨w.heap.size, 1, none⟩) z0).trans t1
  have HB1 := Lib.hid (bel_then HB.out hb1)
  have hs1 := hb1.size
  clear t0 t1 hb1
  by_cases hok : goodMv n l p q = true
  ·
    have HOK := Lib.hid hok
    obtain ⟨g1, g2, g3, g4, g5⟩ := goodMv_true hok
    obtain ⟨m, rfl⟩ := nat_of (goodTown_true g1).1
    have hm14 := (goodTown_true g1).2.1
    rw [hok]
    have HG1 := Lib.hid g1
    have HG2 := Lib.hid g2
    have HG5 := Lib.hid g5
    clear hok
    go_wp2_with fail
    refine (mvTimes_c m s _ _ l p q _ g1 g5 g2 g4 g3 (rd_below HR.out HB1.out) (rdi_below HP.out HB1.out) (rdi_below HQ.out HB1.out)).mono ?_; rintro e w3 ⟨v3, rfl, ho3, hb3⟩
    have hrows := timesL_rows (n := m) (ar := arcs l) (p := p) (q := q)
    have htl := timesL_len m (arcs l) p q
    have hrt := fun a => reachT_eq (a := a) g1 g5 g2
    obtain ⟨t, ht⟩ : ∃ t, timesL m (arcs l) p q = t := ⟨_, rfl⟩
    have HLIM := Lib.hid (lim_same g1 g5 g2)
    rw [ht] at ho3 hrows htl hrt HLIM
    have HROWS := Lib.hid hrows
    have ht7 : t.length ≤ 7 := by omega
    have HRT := Lib.hid hrt
    have HO3 := Lib.hid ho3.rd
    have HB3 := Lib.hid (bel_then HB1.out hb3)
    obtain ⟨vs, hv⟩ := ho3.rd
    have HV := Lib.hid hv
    have HVL := Lib.hid hv.len
    obtain ⟨At, ct, rfl, hct, hmt, hcl⟩ := hv.outer
    rw [maxLen_eq] at hmt
    have HCL := Lib.hid hcl
    clear hrows hrt ho3 hb3 ht hv hcl g1 g2 g5 k0 k1 htl
    go_wp2_with fail
    generalize hW : World.alloc w3 _ = wL
    have hoL : Hid (RdI wL (.slice (some ⟨w3.heap.size, 0, none⟩) 1 1) [0]) := Lib.hid (by subst hW; exact rdi_own (own_one w3 0))
    have hbL : Hid (Below w3.heap.size w3 wL) := Lib.hid (by subst hW; exact bel_al (Below.refl _ _) _)
    clear hW
    go_loopw [9, 28] (fun v9 v28 wr => ∃ (k : Nat) (r : List Int), k ≤ t.length ∧ r.length ≤ 1 + 6 * k ∧ v28 = .int .i64 k ∧ Hid (putAll (t.take k).flatten = r) ∧ Hid (RdI wr v9 r) ∧ Hid (Below w3.heap.size w3 wr)) (fun _ v28 _ => t.length - (intOf v28).toNat)
    case atStart => exact ⟨0, [0], Nat.zero_le _, by simp, rfl, Lib.hid rfl, hoL, hbL⟩
    case round =>
     obtain ⟨k, r, hk, hrl, rfl, HE, HX, HBL⟩ := hrel
     obtain ⟨wA, rfl⟩ : ∃ wA : World, wA = wr := ⟨_, rfl⟩
     by_cases hlt : k < t.length
     ·
      obtain ⟨row, hrow⟩ : ∃ row, t[k]? = some row := ⟨_, List.getElem?_eq_getElem hlt⟩
      have hrow6 : row.length ≤ 6 := by have := HROWS.out row (List.mem_of_getElem? hrow); omega
      obtain ⟨z, hz⟩ : ∃ z, vs[k]? = some z := ⟨_, List.getElem?_eq_getElem (by have := HVL.out; omega)⟩
      obtain ⟨b, off, rfl, hbl, hcell⟩ := HCL.out (by omega)
      have c0 := cell_at hcell HBL.out hbl hz
      obtain ⟨A5, c5, rfl, hc5, hm5, hr5⟩ := HV.out.inner k z row hz hrow
      rw [maxLen_eq] at hm5
      have HR5 := Lib.hid hr5
      have HFL := Lib.hid (flatten_take_succ hrow)
      clear hcell hz hr5 hrow
      go_wp2_with fail
      go_loopw [9, 34] (fun v9 v34 wr => ∃ (j : Nat) (r2 : List Int), j ≤ row.length ∧ r2.length ≤ 1 + 6 * k + j ∧ v34 = .int .i64 j ∧ Hid (putAll ((t.take k).flatten ++ row.take j) = r2) ∧ Hid (RdI wr v9 r2) ∧ Hid (Below w3.heap.size w3 wr)) (fun _ v34 _ => row.length - (intOf v34).toNat)
      case atStart => exact ⟨0, r, Nat.zero_le _, by omega, rfl, Lib.hid (by rw [List.take_zero, List.append_nil]; exact HE.out), HX, HBL⟩
      case round =>
       obtain ⟨j, r2, hj, hrl2, rfl, HE2, HX2, HB2⟩ := hrel
       obtain ⟨wB, rfl⟩ : ∃ wB : World, wB = wr := ⟨_, rfl⟩
       by_cases hjl : j < row.length
       ·
        obtain ⟨b5, off5, rfl, hbl5, hcell5⟩ := HR5.out (by omega)
        obtain ⟨y, hy⟩ : ∃ y, row[j]? = some y := ⟨_, List.getElem?_eq_getElem hjl⟩
        have d0 := cell_at hcell5 HB2.out hbl5 (ints_get hy)
        have HST : Hid (putAll ((t.take k).flatten ++ row.take (j + 1)) = if inB y 0 36000 = true then putI r2 y else r2) := Lib.hid (by rw [take_succ_of hy, ← List.append_assoc, putAll_snoc, HE2.out])
        have hpl := putI_len r2 y
        clear hy hcell5
        go_wp2_with fail
        refine (dsLimit_c y _).mono ?_; rintro e w2 ⟨rfl, rfl⟩
        by_cases hin : inB y 0 36000 = true
        · rw [hin]
          have HE3 : Hid (putAll ((t.take k).flatten ++ row.take (j + 1)) = putI r2 y) := Lib.hid (by rw [HST.out, if_pos hin])
          go_wp2_with fail
          refine (l1Put_c _ r2 y _ HX2.out (by omega)).mono ?_; rintro e w5 ⟨v5, rfl, hx5, hb5⟩
          have HX5 := Lib.hid hx5
          have HB5 := Lib.hid (bel_then HB2.out hb5)
          clear hx5 hb5 hin
          go_wp2
          exact ⟨⟨j + 1, _, by omega, by omega, by go_num, HE3, HX5, HB5⟩, by simp [intOf]; omega⟩
        · have hin' : inB y 0 36000 = false := by simpa using hin
          have HE3 : Hid (putAll ((t.take k).flatten ++ row.take (j + 1)) = r2) := Lib.hid (by rw [HST.out, if_neg hin])
          rw [hin']
          clear hin hin'
          go_wp2
          exact ⟨⟨j + 1, r2, by omega, by omega, by go_num, HE3, HX2, HB2⟩, by simp [intOf]; omega⟩
       · obtain rfl : j = row.length := by omega
         have HE3 : Hid (putAll (t.take (k + 1)).flatten = r2) := Lib.hid (by rw [HFL.out, ← HE2.out, List.take_length])
         go_wp2
         exact ⟨⟨k + 1, r2, by omega, by omega, by go_num, HE3, HX2, HB2⟩, by simp [intOf]; omega⟩
     · obtain rfl : k = t.length := by omega
       have hS : (limS m (arcs l) p q).find? (gOK m (arcs l) p q) = r.find? (gOK m (arcs l) p q) := by
         rw [HLIM.out, ← HE.out, List.take_length]
       have HS := Lib.hid hS
       obtain ⟨Ar, cr, rfl, hcr, hmr, hcellr⟩ := HX.out
       rw [maxLen_eq] at hmr
       have HCR := Lib.hid hcellr
       clear hS hcellr
       go_wp2_with fail
       go_loopw [47] (fun v47 wr => ∃ k : Nat, k ≤ r.length ∧ v47 = .int .i64 k ∧ Hid ((r.drop k).find? (gOK m (arcs l) p q) = r.find? (gOK m (arcs l) p q)) ∧ Hid (Below wA.heap.size wA wr)) (fun v47 _ => r.length - (intOf v47).toNat)
       case atStart => exact ⟨0, Nat.zero_le _, rfl, Lib.hid rfl, Lib.hid (Below.refl _ _)⟩
       case round =>
        obtain ⟨k, hk, rfl, HFD, HB7⟩ := hrel
        obtain ⟨wC, rfl⟩ : ∃ wC : World, wC = wr := ⟨_, rfl⟩
        by_cases hlt : k < r.length
        ·
         obtain ⟨b, off, rfl, hbl, hcell⟩ := HCR.out (by omega)
         obtain ⟨x, hx⟩ : ∃ x, r[k]? = some x := ⟨_, List.getElem?_eq_getElem hlt⟩
         have c0 := cell_at hcell HB7.out hbl (ints_get hx)
         have HX := Lib.hid hx
         have HBC := Lib.hid (bel_then HB3.out (bel_then HBL.out HB7.out))
         have HO9 := Lib.hid (HO3.out.below (bel_then HBL.out HB7.out))
         clear hx hcell
         go_wp2_with fail
         refine (dsLimit_c x _).mono ?_; rintro e w2 ⟨rfl, rfl⟩
         by_cases hin : inB x 0 36000 = true
         · rw [hin]
           have HIN := Lib.hid hin
           have hT : Tab (reachL m (arcs l) p q x) := reachL_tab g4 g3
           obtain ⟨TB, hTB⟩ : ∃ TB, reachL m (arcs l) p q x = TB := ⟨_, rfl⟩
           have hle := mostR_le TB noneP
           have hlen : TB.length ≤ 6 := by rw [← hTB, reachL_len]; exact g3
           have hcall := mvReach_c (.slice At t.length ct) t q.length x wC ht7 g3 HROWS.out HO9.out
           rw [HRT.out] at hcall
           obtain ⟨rr, hr⟩ : ∃ r, mostR TB noneP = r := ⟨_, rfl⟩
           have HGX : Hid (gOK m (arcs l) p q x = decide (rr = q.length)) := Lib.hid (by unfold gOK; rw [HIN.out, hTB, hr]; rfl)
           rw [hTB] at hcall hT
           rw [hr] at hle
           have HC2 := Lib.hid hcall
           have HT := Lib.hid hT
           have HRR := Lib.hid hr
           clear hin hTB hcall hT hr
           go_wp2_with fail
           refine HC2.out.mono ?_; rintro e w8 ⟨v8, rfl, ho8, hb8⟩
           have hcall := mvMost_c v8 TB HT.out TB.length 0 (.slice none 0 0) [] noneP w8 (by omega) (by simp) usedL_nil ho8.rd (rdi_nil _)
           rw [List.drop_zero, HRR.out] at hcall
           have HC3 := Lib.hid hcall
           have HB8 := Lib.hid (bel_then HB7.out hb8)
           clear ho8 hb8 hcall
           go_wp2_with fail
           refine HC3.out.mono ?_; rintro e w9 ⟨rfl, hb9⟩
           have HB9 := Lib.hid (bel_then HB8.out hb9)
           clear hb9
           by_cases hyes : rr = q.length
           · have e5 : ((rr : Int) == (q.length : Int)) = true := by rw [beq_iff_eq]; omega
             have HF := Lib.hid (leastV_some HOK.out (show _ = some x by rw [HS.out, ← HFD.out]; exact find_drop_yes HX.out (by rw [HGX.out]; exact decide_eq_true hyes)))
             clear hyes
             go_wp2
             go_ret2
             rw [HF.out]
             exact ⟨rfl, bel_then HB3.out (bel_then HBL.out HB9.out)⟩
           · have e5 : ((rr : Int) == (q.length : Int)) = false := by rw [beq_eq_false_iff_ne]; omega
             have HFD2 : Hid ((r.drop (k + 1)).find? (gOK m (arcs l) p q) = r.find? (gOK m (arcs l) p q)) := Lib.hid (by rw [← HFD.out]; exact (find_drop_no HX.out (by rw [HGX.out]; exact decide_eq_false hyes)).symm)
             clear hyes
             go_wp2
             exact ⟨⟨k + 1, by omega, by go_num, HFD2, HB9⟩, by simp [intOf]; omega⟩
         · have hin' : inB x 0 36000 = false := by simpa using hin
           rw [hin']
           have HFD2 : Hid ((r.drop (k + 1)).find? (gOK m (arcs l) p q) = r.find? (gOK m (arcs l) p q)) := Lib.hid (by rw [← HFD.out]; exact (find_drop_no HX.out (by unfold gOK; rw [hin']; rfl)).symm)
           clear hin hin'
           go_wp2
           exact ⟨⟨k + 1, by omega, by go_num, HFD2, HB7⟩, by simp [intOf]; omega⟩
        · obtain rfl : k = r.length := by omega
          have HF := Lib.hid (leastV_none HOK.out (show _ = none by rw [HS.out, ← HFD.out, List.drop_length]; rfl))
          go_wp2
          go_ret2
          rw [HF.out]
          exact ⟨rfl, bel_then HB3.out (bel_then HBL.out HB7.out)⟩
  · have hok : goodMv n l p q = false := by simpa using hok
    have HF : Hid (leastFillLimitV n l p q = (0, false)) := Lib.hid (by unfold leastFillLimitV; rw [hok]; rfl)
    rw [hok]
    go_wp2
    go_ret2
    rw [HF.out]
    exact ⟨rfl, HB1.out⟩
end Go.Proofs.Ytgdigcnpjkkmfaa
