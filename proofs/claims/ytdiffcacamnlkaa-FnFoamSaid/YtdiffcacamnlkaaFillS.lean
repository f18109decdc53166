/-
  spec.FillOrder.
-/
import Derived.Test.YtdiffcacamnlkaaFillI
import Derived.Test.YtdiffcacamnlkaaOwn
import Derived.Test.YtdiffcacamnlkaaTankS
import Derived.Deep.RegionLaw
import Derived.Deep.DeepCutAuto
import Derived.Deep.CutBlock
namespace Go.Proofs.Ytdiffcacamnlkaa
open Go.RowKit

set_option maxRecDepth 100000 in
set_option maxHeartbeats 2000000 in
theorem fillOrderS_c (v : Value) (l : List Tk) (w : World) (hr : Rd w v l.length (l.flatMap Tk.cells)) :
    Calls Try.prog 14 #[v] w (OwnIB (fillOrder l) w) := by
  have HR := Lib.hid hr
  obtain ⟨A, c, rfl, hc, hm, hr⟩ := hr
  rw [maxLen_eq] at hm
  by_cases hok : okL l = true
  · obtain ⟨h12, hall⟩ := okL_true hok
    have HALL := Lib.hid hall
    have HF : Hid (fillOrder l = (isort (gtOf (fillCf l)) (upFrom 0 l.length), true)) := Lib.hid (by unfold fillOrder; rw [if_pos hok])
    have HOK := Lib.hid hok
    obtain ⟨i0, hi, hz0, hz1, hz2⟩ := info_parts Try.infoInt
    clear hall
    go_enter Try.func14, Try.ntmps14
    go_wp2_with (go_at_call 55; refine (shAll_c _ l _ HR.out).mono ?_; rintro e w' ⟨rfl, hb1⟩)
    have hb2 : Below w.heap.size w w' := (by repeat (first | exact Below.refl _ _ | assumption | refine bel_al ?_ _ | refine bel_dr ?_ | refine below_drewN ?_ _ | refine bel_then ?_ (by assumption)))
    clear hb1
    go_loopw [4, 13] (fun o i wr => ∃ k : Nat, k ≤ l.length ∧ i = .int .i64 k ∧ wr.ownsRow w.heap.size 3 1 o k (ints (isort (gtOf (fillCf l)) (upFrom 0 k))) ∧ Below w.heap.size w wr) (fun _ i _ => l.length - (intOf i).toNat)
    case atStart => exact ⟨0, Nat.zero_le _, rfl, World.ownsRow_nil _ _ _ _, hb2⟩
    case round =>
      obtain ⟨k, hk, rfl, hown, hb⟩ := hrel
      have HB := Lib.hid hb
      clear hb2
      by_cases hlt : k < l.length
      · obtain ⟨b, off, rfl, hbl, hcell⟩ := hr (by omega)
        obtain ⟨tl, tf, td, te, hx, c0, c1, c2, c3⟩ := tk_at' hcell hb hbl hlt
        have HX := Lib.hid hx
        have HCELL := Lib.hid hcell
        clear hx hr hcell
        obtain ⟨pp, hpp⟩ : ∃ pp, isort (gtOf (fillCf l)) (upFrom 0 k) = pp := ⟨_, rfl⟩
        have hplen : pp.length = k := by rw [← hpp, isort_length, upFrom_len]
        rw [hpp] at hown
        have HPP := Lib.hid hpp
        have HPL := Lib.hid hplen
        clear hpp hplen
        obtain ⟨A2, cap2, rfl, hc2, hm2, hr2⟩ := own_rd hown
        rw [maxLen_eq] at hm2
        have HOWN := Lib.hid hown
        clear hown
        go_upto_block 2 with fail
        (generalize hw1 : World.alloc wr _ = w1; have k0 : w1.cell? ⟨wr.heap.size, 0, none⟩ = some (.int .i64 tl) := (by subst hw1; simp [go_sem]); have k1 : w1.cell? ⟨wr.heap.size, 1, none⟩ = some (.int .i64 tf) := (by subst hw1; simp [go_sem]); have k2 : w1.cell? ⟨wr.heap.size, 2, none⟩ = some (.int .i64 td) := (by subst hw1; simp [go_sem]); have k3 : w1.cell? ⟨wr.heap.size, 3, none⟩ = some (.int .i64 te) := (by subst hw1; simp [go_sem]); have hb0 : Below wr.heap.size wr w1 := (by subst hw1; exact bel_al (Below.refl _ _) _); have hsz : wr.heap.size < w1.heap.size := (by subst hw1; simp); clear hw1)
        have hbw : Below w.heap.size w w1 := bel_then HB.out hb0
        have HBW := Lib.hid hbw
        have HB0 := Lib.hid hb0
        have hbd := Tk.bd (HALL.out _ (List.mem_of_getElem? HX.out))
        dsimp only at hbd
        obtain ⟨_, _, _, _, _, _, _, _⟩ := hbd
        have HPM : Hid (∀ y ∈ pp, 0 ≤ y ∧ y < (k : Int)) := Lib.hid (fun y hy => by
          have h1 := (isort_perm (gtOf (fillCf l)) (upFrom 0 k)).mem_iff.1 (by rw [HPP.out]; exact hy)
          simp [upFrom] at h1
          obtain ⟨a, ha, rfl⟩ := h1
          omega)
        have HKX : Hid (fillKey l (k : Int) = te + td) := Lib.hid (by unfold fillKey; rw [Int.toNat_natCast, HX.out])
        clear hbw hb0
        go_cut [7] (fun v7 wx => ∃ j q : Nat, v7 = .int .i64 j ∧ j ≤ k ∧ Hid (isort (gtOf (fillCf l)) (upFrom 0 (k + 1)) = insAt k pp j) ∧ wx = w1.drewN q)
        case first =>
         go_wp2_with fail
         go_loopw [7] (fun vj wr2 => ∃ j q : Nat, vj = .int .i64 j ∧ j ≤ k ∧ Hid (insR (gtOf (fillCf l)) pp k = insFrom (gtOf (fillCf l)) k pp j) ∧ wr2 = w1.drewN q) (fun vj _ => (intOf vj).toNat)
         case atStart => exact ⟨k, 0, rfl, Nat.le_refl _, Lib.hid (by unfold insR; rw [HPL.out]), rfl⟩
         case round =>
           obtain ⟨j, q, rfl, hjk, HI, rfl⟩ := hrel
           have hout : (j = 0 ∨ gtOf (fillCf l) (pp.getD (j - 1) 0) k = false) → isort (gtOf (fillCf l)) (upFrom 0 (k + 1)) = insAt k pp j := fun hs => by
             rw [upFrom_succ, isort_snoc, HPP.out, show (0 : Int) + (k : Int) = k by omega, HI.out, insFrom_stop hs]
           have OUT : Aside _ := hout
           clear hout
           have hreg : (j = 0 ∨ gtOf (fillCf l) (pp.getD (j - 1) 0) k = false) → True := fun _ => trivial
           clear hreg
           by_cases hj : 0 < j
           · obtain ⟨jp, rfl⟩ : ∃ jp, j = jp + 1 := ⟨j - 1, by omega⟩
             have hjz : (0 : Int) < (jp : Int) + 1 := by omega
             obtain ⟨b2, off2, rfl, hb2, hcell2⟩ := hr2 (by omega)
             obtain ⟨y, hy⟩ : ∃ y, pp[jp]? = some y := ⟨_, List.getElem?_eq_getElem (by have := HPL.out; omega)⟩
             have hym := HPM.out y (List.mem_of_getElem? hy)
             obtain ⟨yn, rfl⟩ := Int.eq_ofNat_of_zero_le hym.1
             have hyn : yn < l.length := by omega
             obtain ⟨yl, yf, yd, ye, hyx, d0, d1, d2, d3⟩ := tk_at' HCELL.out HBW.out hbl hyn
             have co := cell_at hcell2 HB0.out hb2 (ints_get hy)
             have hyb := Tk.bd (HALL.out _ (List.mem_of_getElem? hyx))
             dsimp only at hyb
             obtain ⟨_, _, _, _, _, _, _, _⟩ := hyb
             have HGT : Hid (gtOf (fillCf l) (pp.getD jp 0) k = decide (te + td < ye + yd)) := Lib.hid (by
               have h1 : pp.getD jp 0 = (yn : Int) := by simp [List.getD, hy]
               rw [h1]
               unfold gtOf fillCf
               rw [cmpI_lt, HKX.out]
               unfold fillKey
               rw [Int.toNat_natCast, hyx])
             have HY := Lib.hid hy
             clear hy hym hyx
             have y0 : (0 : Int) ≤ (yn : Int) := Int.natCast_nonneg _
             have y1 : (yn : Int) < (l.length : Int) := by omega
             have j0 : (0 : Int) ≤ (jp : Int) := Int.natCast_nonneg _
             have j1 : (jp : Int) < (k : Int) := by omega
             have s1 : IntKind.i64.wrap (ye + yd) = ye + yd := IntWalk.i64_in _ (by omega)
             have s2 : IntKind.i64.wrap (te + td) = te + td := IntWalk.i64_in _ (by omega)
             have s3 : IntKind.i64.wrap (jp : Int) = (jp : Int) := by rw [IntKind.wrap_i64]; omega
             by_cases hlv : te + td < ye + yd
             · go_wp2_with fail
               go_quiet (fail)
               clear s1 s2 s3
               go_wp2
               refine ⟨⟨jp, q + nq, by go_num, by omega, ?_, rfl⟩, by simp [intOf] <;> omega⟩
               refine Lib.hid ?_
               rw [HI.out]
               exact insFrom_go (by rw [HGT.out]; exact decide_eq_true hlv)
             · go_wp2_with fail
               go_quiet (fail)
               clear s1 s2 s3
               go_wp2_with fail
               go_meet
               exact ⟨jp + 1, q + nq, by go_num, by omega, Lib.hid (OUT (Or.inr (by simp only [Nat.add_sub_cancel]; rw [HGT.out]; exact decide_eq_false (by omega)))), by rw [World.drewN_drewN]⟩
           · obtain rfl : j = 0 := by omega
             have hd0 : decide ((0 : Int) < 0) = false := by decide
             go_wp2_with fail
             go_quiet (fail)
             go_wp2_with fail
             go_meet
             exact ⟨0, q + nq, by go_num, by omega, Lib.hid (OUT (by simp)), by rw [World.drewN_drewN]⟩
        case rest =>
          obtain ⟨j, q, rfl, hjk, HI, rfl⟩ := hcut
          have ho1 : (w1.drewN q).ownsRow w.heap.size 3 1 (.slice A2 k cap2) k (ints pp) := own_drewN (own_below HOWN.out HB0.out) q
          have hbq : Below w.heap.size w (w1.drewN q) := below_drewN HBW.out q
          generalize w1.drewN q = W at ho1 hbq ⊢
          have HO1 := Lib.hid ho1
          have HBQ := Lib.hid hbq
          clear ho1 hbq k0 k1 k2 k3 hsz
          have q1 : (j : Int) ≤ (cap2 : Int) := by omega
          have q2 : (j : Int) ≤ (k : Int) := by omega
          rcases A2 with _ | ad
          · have hn0 : k = 0 ∧ cap2 = 0 := by
              rcases HO1.out.2 with ⟨h, h'⟩ | ⟨g', c', cur', h, _⟩
              · simp at h; exact ⟨h.1, h.2⟩
              · simp at h
            obtain ⟨rfl, rfl⟩ := hn0
            obtain rfl : j = 0 := by omega
            have hp0 : pp = [] := List.eq_nil_of_length_eq_zero HPL.out
            subst hp0
            have HLJ : Hid ((([] : List Int).take 0).length = 0) := Lib.hid rfl
            have HT : Hid (RdI W (.slice none 0 0) (([] : List Int).take 0)) := Lib.hid ⟨none, 0, rfl, Nat.le_refl _, Nat.zero_le _, fun h => absurd h (by simp)⟩
            have HD : Hid (Rd W (.slice none 0 0) 0 (ints (([] : List Int).drop 0))) := Lib.hid ⟨none, 0, rfl, Nat.le_refl _, Nat.zero_le _, fun h => absurd h (by simp)⟩
            have HDL : Hid ((ints (([] : List Int).drop 0)).length = 0 * 1) := Lib.hid rfl
            go_wp2_with fail
            go_region_held3 (fun W' => Below W.heap.size W W') (first | exact bel_grown ‹_› hgrowB (fun q e => (hownA.lt q e).1) | exact bel_grown ‹_› hgrowA (fun q e => (ho2.lt q e).1) | exact bel_then ‹_› hb1 | exact bel_al ‹_› _ | exact bel_dr (Below.refl _ _)) (first | (go_at_call 56; refine (l1Own_c _ (([] : List Int).take 0) _ (rd_below HT.out ‹_›) (by rw [HLJ.out]; omega)).mono ?_; rintro e w' ⟨vo, rfl, hoo, hb1⟩; have ho2 : w'.ownsRow W.heap.size 3 1 vo 0 (ints (([] : List Int).take 0)) := (by have h := own_base (base' := W.heap.size) hoo (by first | exact Nat.le_refl _ | (simp; done)); rwa [HLJ.out] at h)) | (refine step_app_rd _ rfl (.tmp 54) (.tmp 56) 31 rfl W.heap.size 3 i0 (.int .i64 0) 1 8 Try.underlying31 hi hz0 hz1 hz2 rfl (by decide) _ 0 (ints (([] : List Int).take 0)) rfl (ho2.alloc _) _ 1 [.int .i64 0] rfl (rd_new _ rfl (Nat.le_refl _) (by rw [maxLen_eq]; omega)) rfl (by intro u hu; simp at hu; subst hu; rfl) (by rw [maxLen_eq]; omega) (by omega) (Below.size ‹Below W.heap.size W _›) ?_; intro vA wA hownA hgrowA _) | (refine step_app_rd _ rfl (.tmp 54) (.tmp 56) 31 rfl W.heap.size 3 i0 (.int .i64 0) 1 8 Try.underlying31 hi hz0 hz1 hz2 rfl (by decide) _ 0 (ints (([] : List Int).take 0)) rfl ho2 _ 1 [.int .i64 0] rfl (rd_below (rd_new W.drew rfl (Nat.le_refl _) (by rw [maxLen_eq]; omega)) hb1) rfl (by intro u hu; simp at hu; subst hu; rfl) (by rw [maxLen_eq]; omega) (by omega) (Below.size ‹Below W.heap.size W _›) ?_; intro vA wA hownA hgrowA _) | (refine step_app_rd _ rfl (.tmp 57) (.tmp 60) 31 rfl W.heap.size 3 i0 (.int .i64 0) 1 8 Try.underlying31 hi hz0 hz1 hz2 rfl (by decide) _ (0 + 1) _ rfl hownA _ 0 (ints (([] : List Int).drop 0)) rfl (rd_below HD.out ‹Below W.heap.size W _›) HDL.out (ints_one _) (by rw [maxLen_eq]; omega) (by omega) (Below.size ‹Below W.heap.size W _›) ?_; intro vB wB hownB hgrowB _))
            all_goals
              go_wp2
              refine ⟨⟨0 + 1, by omega, by first | rfl | go_num, ?_, bel_then HBQ.out ‹Below W.heap.size W _›⟩, by simp [intOf] <;> omega⟩
              have hfin := own_base hownB HBQ.out.size
              rw [HI.out]
              have e1 : ints (([] : List Int).take 0) ++ [Value.int .i64 (0 : Nat)] ++ ints (([] : List Int).drop 0) = ints (insAt (0 : Nat) ([] : List Int) 0) := by simp [insAt, ints]
              have e2 : 0 + 1 + 0 = 0 + 1 := by omega
              rw [← e1, ← e2]
              exact hfin
          · obtain ⟨g, rfl⟩ : ∃ g, ad = ⟨g, 0, none⟩ := by
              rcases HO1.out.2 with ⟨h, _⟩ | ⟨g', c', cur', h, _⟩
              · simp at h
              · simp at h; exact ⟨g', h.1⟩
            have HLJ : Hid ((pp.take j).length = j) := Lib.hid (by rw [List.length_take, HPL.out]; omega)
            have HDL : Hid ((ints (pp.drop j)).length = (k - j) * 1) := Lib.hid (by rw [ints_len, List.length_drop, HPL.out]; omega)
            have hRd0 := own_rd HO1.out
            have hRdT : RdI W (.slice (some ⟨g, 0, none⟩) j cap2) (pp.take j) := rdi_take hRd0 hjk hc2 HPL.out
            have HT := Lib.hid hRdT
            clear hRdT
            by_cases hcj : cap2 = j
            · have hkj : j = k := by omega
              subst hkj
              have hjc : j = cap2 := hcj.symm
              subst hjc
              have HD : Hid (Rd W (.slice (some ⟨g, 0, none⟩) 0 0) 0 (ints (pp.drop j))) := Lib.hid ⟨_, 0, rfl, Nat.le_refl _, Nat.zero_le _, fun h => absurd h (by simp)⟩
              have HDL0 : Hid ((ints (pp.drop j)).length = 0 * 1) := Lib.hid (by rw [HDL.out]; omega)
              clear hRd0 HDL
              go_wp2_with fail
              go_region_held3 (fun W' => Below W.heap.size W W') (first | exact bel_grown ‹_› hgrowB (fun q e => (hownA.lt q e).1) | exact bel_grown ‹_› hgrowA (fun q e => (ho2.lt q e).1) | exact bel_then ‹_› hb1 | exact bel_al ‹_› _ | exact bel_dr (Below.refl _ _)) (first | (go_at_call 56; refine (l1Own_c _ (pp.take j) _ (rd_below HT.out ‹_›) (by rw [HLJ.out]; omega)).mono ?_; rintro e w' ⟨vo, rfl, hoo, hb1⟩; have ho2 : w'.ownsRow W.heap.size 3 1 vo j (ints (pp.take j)) := (by have h := own_base (base' := W.heap.size) hoo (by first | exact Nat.le_refl _ | (simp; done)); rwa [HLJ.out] at h)) | (refine step_app_rd _ rfl (.tmp 54) (.tmp 56) 31 rfl W.heap.size 3 i0 (.int .i64 0) 1 8 Try.underlying31 hi hz0 hz1 hz2 rfl (by decide) _ j (ints (pp.take j)) rfl (ho2.alloc _) _ 1 [.int .i64 j] rfl (rd_new _ rfl (Nat.le_refl _) (by rw [maxLen_eq]; omega)) rfl (by intro u hu; simp at hu; subst hu; rfl) (by rw [maxLen_eq]; omega) (by omega) (Below.size ‹Below W.heap.size W _›) ?_; intro vA wA hownA hgrowA _) | (refine step_app_rd _ rfl (.tmp 54) (.tmp 56) 31 rfl W.heap.size 3 i0 (.int .i64 0) 1 8 Try.underlying31 hi hz0 hz1 hz2 rfl (by decide) _ j (ints (pp.take j)) rfl ho2 _ 1 [.int .i64 j] rfl (rd_below (rd_new W.drew rfl (Nat.le_refl _) (by rw [maxLen_eq]; omega)) hb1) rfl (by intro u hu; simp at hu; subst hu; rfl) (by rw [maxLen_eq]; omega) (by omega) (Below.size ‹Below W.heap.size W _›) ?_; intro vA wA hownA hgrowA _) | (refine step_app_rd _ rfl (.tmp 57) (.tmp 60) 31 rfl W.heap.size 3 i0 (.int .i64 0) 1 8 Try.underlying31 hi hz0 hz1 hz2 rfl (by decide) _ (j + 1) _ rfl hownA _ 0 (ints (pp.drop j)) rfl (rd_below HD.out ‹Below W.heap.size W _›) HDL0.out (ints_one _) (by rw [maxLen_eq]; omega) (by omega) (Below.size ‹Below W.heap.size W _›) ?_; intro vB wB hownB hgrowB _))
              all_goals
                go_wp2
                refine ⟨⟨j + 1, by omega, by first | rfl | go_num, ?_, bel_then HBQ.out ‹Below W.heap.size W _›⟩, by simp [intOf] <;> omega⟩
                have hfin := own_base hownB HBQ.out.size
                rw [HI.out]
                have e1 : ints (pp.take j) ++ [Value.int .i64 (j : Nat)] ++ ints (pp.drop j) = ints (insAt (j : Nat) pp j) := by simp [insAt, ints]
                have e2 : j + 1 + 0 = j + 1 := by omega
                rw [← e1, ← e2]
                exact hfin
            · have HD : Hid (Rd W (.slice (some ⟨g, j, none⟩) (k - j) (cap2 - j)) (k - j) (ints (pp.drop j))) := Lib.hid (rd_drop hRd0 hjk)
              clear hRd0
              have q0 : (0 : Int) ≤ (j : Int) := (by omega)
              go_wp2_with fail
              go_region_held3 (fun W' => Below W.heap.size W W') (first | exact bel_grown ‹_› hgrowB (fun q e => (hownA.lt q e).1) | exact bel_grown ‹_› hgrowA (fun q e => (ho2.lt q e).1) | exact bel_then ‹_› hb1 | exact bel_al ‹_› _ | exact bel_dr (Below.refl _ _)) (first | (go_at_call 56; refine (l1Own_c _ (pp.take j) _ (rd_below HT.out ‹_›) (by rw [HLJ.out]; omega)).mono ?_; rintro e w' ⟨vo, rfl, hoo, hb1⟩; have ho2 : w'.ownsRow W.heap.size 3 1 vo j (ints (pp.take j)) := (by have h := own_base (base' := W.heap.size) hoo (by first | exact Nat.le_refl _ | (simp; done)); rwa [HLJ.out] at h)) | (refine step_app_rd _ rfl (.tmp 54) (.tmp 56) 31 rfl W.heap.size 3 i0 (.int .i64 0) 1 8 Try.underlying31 hi hz0 hz1 hz2 rfl (by decide) _ j (ints (pp.take j)) rfl (ho2.alloc _) _ 1 [.int .i64 k] rfl (rd_new _ rfl (Nat.le_refl _) (by rw [maxLen_eq]; omega)) rfl (by intro u hu; simp at hu; subst hu; rfl) (by rw [maxLen_eq]; omega) (by omega) (Below.size ‹Below W.heap.size W _›) ?_; intro vA wA hownA hgrowA _) | (refine step_app_rd _ rfl (.tmp 54) (.tmp 56) 31 rfl W.heap.size 3 i0 (.int .i64 0) 1 8 Try.underlying31 hi hz0 hz1 hz2 rfl (by decide) _ j (ints (pp.take j)) rfl ho2 _ 1 [.int .i64 k] rfl (rd_below (rd_new W.drew rfl (Nat.le_refl _) (by rw [maxLen_eq]; omega)) hb1) rfl (by intro u hu; simp at hu; subst hu; rfl) (by rw [maxLen_eq]; omega) (by omega) (Below.size ‹Below W.heap.size W _›) ?_; intro vA wA hownA hgrowA _) | (refine step_app_rd _ rfl (.tmp 57) (.tmp 60) 31 rfl W.heap.size 3 i0 (.int .i64 0) 1 8 Try.underlying31 hi hz0 hz1 hz2 rfl (by decide) _ (j + 1) _ rfl hownA _ (k - j) (ints (pp.drop j)) rfl (rd_below HD.out ‹Below W.heap.size W _›) HDL.out (ints_one _) (by rw [maxLen_eq]; omega) (by omega) (Below.size ‹Below W.heap.size W _›) ?_; intro vB wB hownB hgrowB _))
              all_goals
                go_wp2
                refine ⟨⟨k + 1, by omega, by first | rfl | go_num, ?_, bel_then HBQ.out ‹Below W.heap.size W _›⟩, by simp [intOf] <;> omega⟩
                have hfin := own_base hownB HBQ.out.size
                rw [HI.out]
                have e1 : ints (pp.take j) ++ [Value.int .i64 (k : Nat)] ++ ints (pp.drop j) = ints (insAt (k : Nat) pp j) := by simp [insAt, ints]
                have e2 : j + 1 + (k - j) = k + 1 := by omega
                rw [← e1, ← e2]
                exact hfin
      · go_wp2
        go_ret2
        obtain rfl : k = l.length := by omega
        rw [HF.out]
        refine ⟨_, rfl, ?_, HB.out⟩
        rw [isort_length, upFrom_len]
        exact hown
  · have hok' : okL l = false := by simpa using hok
    have HF : Hid (fillOrder l = ([], false)) := Lib.hid (by unfold fillOrder; rw [if_neg hok])
    go_enter Try.func14, Try.ntmps14
    go_wp2_with (go_at_call 55; refine (shAll_c _ l _ HR.out).mono ?_; rintro e w' ⟨rfl, hb1⟩)
    go_ret2
    rw [HF.out]
    exact ⟨_, rfl, World.ownsRow_nil _ _ _ _, hb1⟩
end Go.Proofs.Ytdiffcacamnlkaa
