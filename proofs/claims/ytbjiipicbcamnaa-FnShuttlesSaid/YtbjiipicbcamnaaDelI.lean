/-
  Deliveries: the program's side.
-/
import Derived.Test.YtbjiipicbcamnaaSortSS
import Derived.Test.YtbjiipicbcamnaaDelC
namespace Go.Proofs.Ytbjiipicbcamnaa
open Go.RowKit

set_option maxRecDepth 100000 in
set_option maxHeartbeats 4000000 in
theorem deliveriesI_c (v : Value) (l : List Tk) (s : Int) (w : World) (hr : Rd w v l.length (l.flatMap Tk.cells)) :
    Calls Try.prog 8 #[v, .int .i64 s] w (OwnSB (deliveriesV l s) w) := by
  have HR := Lib.hid hr
  clear hr
  by_cases h : okL l = true ∧ inB s 0 36000 = true
  · obtain ⟨h1, h2⟩ := h
    obtain ⟨s0, s1⟩ := inB_36 h2
    obtain ⟨h12, hall⟩ := okL_true h1
    have HALL := Lib.hid hall
    have HRB := Lib.hid (rowsUp_bd (s := s) h1 s1)
    have HO := Lib.hid h1
    have H2 := Lib.hid h2
    clear hall
    obtain ⟨A, c, rfl, hc, hm, hr0⟩ := HR.out
    rw [maxLen_eq] at hm
    have HR0 := Lib.hid hr0
    clear hr0
    obtain ⟨iS, hiS, hzS0, hzS1, hzS2⟩ := info_parts Try.infoSS
    go_enter Try.func8, Try.ntmps8
    go_wp2_with (first | (go_at_call 34; refine (areTankers_c _ l _ HR.out).mono ?_; rintro e w' ⟨rfl, hb1⟩) | (go_at_call 35; refine (inside_c _ _ _ _).mono ?_; rintro e w' ⟨rfl, rfl⟩))
    obtain ⟨w0, rfl⟩ : ∃ w0 : World, w0 = w' := ⟨_, rfl⟩
    have HB1 := Lib.hid hb1
    have hs0 := hb1.size
    clear hb1
    go_loopw [6, 20] (fun v6 v20 wr => ∃ (i : Nat) (vs : List Value), i ≤ l.length ∧ v20 = .int .i64 i ∧ Hid (SSv wr w0.heap.size v6 vs (rowsUp l s i)) ∧ Hid (Below w0.heap.size w0 wr)) (fun _ v20 _ => l.length - (intOf v20).toNat)
    case atStart => exact ⟨0, [], Nat.zero_le _, rfl, Lib.hid (SSv.nil _ _), Lib.hid (Below.refl _ _)⟩
    case round =>
      obtain ⟨i, vs, hi, rfl, HS, HB⟩ := hrel
      obtain ⟨wA, rfl⟩ : ∃ wA : World, wA = wr := ⟨_, rfl⟩
      by_cases hlt : i < l.length
      · obtain ⟨b, off, rfl, hbl, hcell⟩ := HR0.out (by omega)
        obtain ⟨tl, tf, td, te, hx, c0, c1, c2, c3⟩ := tk_at' hcell (bel_then HB1.out HB.out) hbl hlt
        have hot := HALL.out _ (List.mem_of_getElem? hx)
        obtain ⟨cy0, cy1⟩ := Tk.cyc_bd hot
        have hbd := Tk.bd hot
        dsimp only at hbd
        obtain ⟨_, _, _, _, _, _, _, _⟩ := hbd
        obtain ⟨tm0, tm1⟩ := times_bd hot s1
        have HT := Lib.hid hot
        have HX := Lib.hid hx
        have HTI := Lib.hid (times_iff hot (s := s))
        obtain ⟨K, hK⟩ : ∃ K, ((Tk.mk tl tf td te).times s).toNat = K := ⟨_, rfl⟩
        have hK1 : K ≤ 36001 := by omega
        have HK := Lib.hid hK
        have hRi := HRB.out i hi
        obtain ⟨L0, hL0⟩ : ∃ L0, rowsUp l s i = L0 := ⟨_, rfl⟩
        rw [hL0] at hRi
        have HL0 := Lib.hid hL0
        have hsA := HB.out.size
        clear hcell hx hot hK tm0 tm1 hL0
        go_wp2_with fail
        (generalize hw1 : World.alloc wA _ = w1; have k0 : w1.cell? ⟨wA.heap.size, 0, none⟩ = some (.int .i64 tl) := (by subst hw1; simp [go_sem]); have k1 : w1.cell? ⟨wA.heap.size, 1, none⟩ = some (.int .i64 tf) := (by subst hw1; simp [go_sem]); have k2 : w1.cell? ⟨wA.heap.size, 2, none⟩ = some (.int .i64 td) := (by subst hw1; simp [go_sem]); have k3 : w1.cell? ⟨wA.heap.size, 3, none⟩ = some (.int .i64 te) := (by subst hw1; simp [go_sem]); have hb0 : Below wA.heap.size wA w1 := (by subst hw1; exact bel_al (Below.refl _ _) _); have hsz : wA.heap.size < w1.heap.size := (by subst hw1; simp); clear hw1)
        obtain ⟨cy, hcy⟩ : ∃ cy, (Tk.mk tl tf td te).cyc = cy := ⟨_, rfl⟩
        rw [hcy] at cy0 cy1
        have HCY := Lib.hid hcy
        have HBX : Hid (TkAt w1 wA.heap.size tl tf td te) := Lib.hid ⟨k0, k1, k2, k3, hsz⟩
        have HBw1 := Lib.hid hb0
        clear k0 k1 k2 k3 hb0 hcy c0 c1 c2 c3
        go_loopw [6, 9] (fun v6 v9 wi => ∃ (k : Nat) (vs : List Value), k ≤ K ∧ v9 = .int .i64 (te + k * cy) ∧ Hid (SSv wi w0.heap.size v6 vs (L0 ++ dBlk (Tk.mk tl tf td te) i k)) ∧ Hid (Below w0.heap.size w0 wi) ∧ Hid (TkAt wi wA.heap.size tl tf td te) ∧ Hid (v6.ownBlock ≠ some wA.heap.size)) (fun _ v9 _ => (s + 1 - intOf v9).toNat)
        case atStart =>
          refine ⟨0, vs, Nat.zero_le _, by simp, Lib.hid ?_, Lib.hid (bel_then HB.out HBw1.out), HBX, Lib.hid ?_⟩
          · have : dBlk (Tk.mk tl tf td te) i 0 = [] := rfl
            rw [this, List.append_nil, ← HL0.out]
            exact HS.out.below HBw1.out
          · intro e
            have := HS.out.lt.1 _ e
            omega
        case round =>
          obtain ⟨k, vs2, hk, rfl, HS2, HB2, HBX2, HNE⟩ := hrel
          obtain ⟨wI, rfl⟩ : ∃ wI : World, wI = wr := ⟨_, rfl⟩
          obtain ⟨at0, hat⟩ : ∃ a0, te + (k : Int) * cy = a0 := ⟨_, rfl⟩
          have hbk : (te + (k : Int) * cy ≤ s ↔ k < K) := by
            have := HTI.out k
            rw [HCY.out, HK.out] at this
            exact this
          have hk0 : (0 : Int) ≤ (k : Int) * cy := Int.mul_nonneg (by omega) (by omega)
          rw [hat] at hbk ⊢
          have hnext : te + ((k + 1 : Nat) : Int) * cy = at0 + cy := by rw [← hat]; push_cast; rw [Int.add_mul]; omega
          have HN := Lib.hid hnext
          have HAT := Lib.hid hat
          have hat0 : 0 ≤ at0 := by omega
          clear hat hnext hk0
          obtain ⟨x0, x1, x2, x3, hxs⟩ := HBX2.out
          by_cases hin : k < K
          · have hle : at0 ≤ s := hbk.2 hin
            have e1 : IntKind.i64.wrap (at0 + (Tk.mk tl tf td te).cyc) = at0 + cy := by rw [HCY.out]; exact IntWalk.i64_in _ (by omega)
            have hLn : (L0 ++ dBlk (Tk.mk tl tf td te) i k).length ≤ 500000 := by rw [List.length_append, dBlk_len]; omega
            clear hbk
            have hs2 := HB2.out.size
            go_wp2_with (first
              | (at_builtin; refine wpList_app_rd _ rfl _ _ 24 rfl w0.heap.size 48 iS (.slice none 0 0) 1 24 Try.underlying24 hiS hzS0 hzS1 hzS2 rfl (by decide) _ _ _ rfl ((HS2.out.outer.alloc _).alloc _) _ 1 [.slice (some ⟨wI.heap.size, 0, none⟩) 3 3] rfl (rd_new _ (by simp) (Nat.le_refl _) (by rw [maxLen_eq]; omega)) rfl (by simp [Value.oneCell']) (by rw [maxLen_eq]; omega) (by omega) (by simp; omega) ?_; intro v' w7 hown' hgrow he; obtain ⟨y0, y1, y2, y3, hys⟩ := tkAt_grown (tkAt_below HBX2.out (bel_al (bel_al (Below.refl _ _) _) _)) hgrow HNE.out)
              | (go_at_call 36; refine (cycle_c _ _ _ _ _ HT.out).mono ?_; rintro e w' ⟨rfl, hb2⟩))
            have hal := bel_al (bel_al (Below.refl wI.heap.size wI) (.cells #[.int .i64 at0, .int .i64 i, .int .i64 tl] 3)) (.cells #[.slice (some ⟨wI.heap.size, 0, none⟩) 3 3] 48)
            have hrow : dRow (Tk.mk tl tf td te) i k = [at0, (i : Int), tl] := by
              unfold dRow
              rw [HCY.out]
              dsimp only
              rw [HAT.out]
            refine ⟨⟨k + 1, vs2 ++ [.slice (some ⟨wI.heap.size, 0, none⟩) 3 3], by omega, by rw [HN.out], Lib.hid ?_, Lib.hid ?_, Lib.hid (tkAt_below ⟨y0, y1, y2, y3, hys⟩ hb2), Lib.hid ?_⟩, by simp [intOf]; omega⟩
            · rw [dBlk_succ, ← List.append_assoc, hrow]
              refine ((HS2.out.below hal).push (own_below (own_row3 wI at0 i tl w0.heap.size hs2) (bel_al (Below.refl _ _) _)) (fun q q' e1 e2 => ?_) (fun j z hz q q' e1 e2 => ?_) hown' hgrow he).below hb2
              · have h1 := (HS2.out.lt.1 q e1).2
                have h2 : wI.heap.size = q' := Option.some.inj e2
                omega
              · have h1 := (HS2.out.lt.2 j z hz q e1).2
                have h2 : wI.heap.size = q' := Option.some.inj e2
                omega
            · exact bel_then (bel_grown (bel_al (bel_al HB2.out _) _) hgrow (fun q e => (HS2.out.lt.1 q e).1)) hb2
            · intro e
              rcases he with he | he
              · exact HNE.out (he.symm.trans e)
              · rw [he] at e
                have := Option.some.inj e
                simp at this
                omega
          · have hgt : s < at0 := by omega
            obtain rfl : k = K := by omega
            clear hbk
            go_wp2_with fail
            refine ⟨⟨i + 1, vs2, by omega, by go_num, Lib.hid ?_, HB2⟩, by simp [intOf]; omega⟩
            rw [rowsUp_succ HX.out, HL0.out, HK.out]
            exact HS2.out
      · obtain rfl : i = l.length := by omega
        obtain ⟨L, hL⟩ : ∃ L, rowsUp l s l.length = L := ⟨_, rfl⟩
        have HL := Lib.hid hL
        rw [hL] at HS
        clear hL
        obtain ⟨Au, cu, hxu, hcu, hmu, _⟩ := own_rd HS.out.outer
        subst hxu
        rw [maxLen_eq] at hmu
        by_cases h200 : L.length ≤ 200
        · have HIN : Hid (Calls Try.prog 37 #[.slice Au L.length cu, .func (.func 38) #[] #[]] wA fun e w' => e = .returned (.tuple #[]) ∧ SS w' w0.heap.size (.slice Au L.length cu) (insAll L) ∧ wA.grownBy w' (Value.slice Au L.length cu).ownBlock) := Lib.hid (by
            have ha := insAll_spec (rows_pre (s := s) HALL.out l.length)
            have hn := rows_nodup (s := s) HALL.out l.length
            have hp := ins_cmp (s := s) HALL.out l.length
            rw [HL.out] at ha hn hp
            exact sortSS_c wA w0.heap.size _ vs L (insAll L) HS.out hn ha.2.1 hp (by omega))
          have hLi : (L.length : Int) ≤ 200 := by omega
          go_wp2_with (go_at_call 37; refine HIN.out.mono ?_; rintro e w' ⟨rfl, hss, hgr⟩)
          go_ret2
          refine ⟨_, by rw [del_yes HO.out H2.out (by rw [HL.out]; omega)]; rfl, ?_, ?_⟩
          · rw [del_yes HO.out H2.out (by rw [HL.out]; omega), HL.out]
            exact hss.base (by omega)
          · exact bel_then HB1.out (bel_grown HB.out hgr (fun q e => (HS.out.lt.1 q e).1))
        · have hLi : (200 : Int) < (L.length : Int) := by omega
          go_wp2_with fail
          go_ret2
          refine ⟨_, by rw [del_no3 (by rw [HL.out]; omega)]; rfl, ?_, bel_then HB1.out HB.out⟩
          rw [del_no3 (by rw [HL.out]; omega)]
          exact ⟨[], SSv.nil _ _⟩
  · have H := Lib.hid h
    clear h
    go_enter Try.func8, Try.ntmps8
    go_wp2_with (first | (go_at_call 34; refine (areTankers_c _ l _ HR.out).mono ?_; rintro e w' ⟨rfl, hb1⟩) | (go_at_call 35; refine (inside_c _ _ _ _).mono ?_; rintro e w' ⟨rfl, rfl⟩))
    all_goals first
      | (exfalso; have := H.out; simp_all; done)
      | (go_ret2
         have e : deliveriesV l s = ([], false) := by
           unfold deliveriesV
           rw [if_neg (fun k => H.out ⟨k.1, k.2.1⟩)]
         exact ⟨_, by rw [e]; rfl, by rw [e]; exact ⟨[], SSv.nil _ _⟩, by assumption⟩)
end Go.Proofs.Ytbjiipicbcamnaa
