/-
  The walk of FnSending (printed by gen_sdw.py). (joined by pack.py: SdW)
-/
import Derived.Test.YthgegghdkoeofaaGreatDoorK24
import Derived.Test.YthgegghdkoeofaaGreatDoorK20
import Derived.Test.YthgegghdkoeofaaGreatDoorK34
import Derived.Test.YthgegghdkoeofaaGreatDoorK35
import Derived.Test.YthgegghdkoeofaaGreatDoorK33
import Derived.Test.YthgegghdkoeofaaGreatDoorK18
import Derived.Test.YthgegghdkoeofaaGreatDoorK39
import Derived.Test.YthgegghdkoeofaaGreatDoorK3
import Derived.Test.YthgegghdkoeofaaGreatDoorK25
import Derived.Test.YthgegghdkoeofaaGreatDoorK8
import Derived.BigRegion
import Derived.BigQuiet
import Derived.Deep.QuietTactic
import Derived.Deep.CutRange
import Derived.Deep.RegionHeld3
namespace Go.Proofs.YthgegghdkoeofaaGreatDoor
set_option linter.unusedVariables false
set_option linter.unusedSimpArgs false
open Go.RowKit

theorem all_take1 {α : Type} {p : α → Bool} {g b : Bool} {l : List α} {j : Nat} {y : α} (hy : l[j]? = some y) (h : (g && (l.take j).all p) = b) : (g && (l.take (j + 1)).all p) = (b && p y) := by
  rw [take_succ_of hy, List.all_append, ← h]; simp [Bool.and_assoc]
theorem powBel {w w' : World} (h : PowTab w) (hb : Below w.heap.size w w') : PowTab w' := powTab_below h hb
set_option maxRecDepth 100000 in
set_option maxHeartbeats 8000000 in
theorem walk_FnSending (w : World) (v0 : Value) (l0 : List Int) (hr0 : Rd w v0 l0.length (bys l0)) (hw0 : BytesOk l0 ∧ l0.length ≤ 9223372036854775807) (v1 : Value) (l1 : List Int) (hr1 : Rd w v1 l1.length (bys l1)) (hw1 : BytesOk l1 ∧ l1.length ≤ 9223372036854775807) (ht : PowTab w) :
    Calls Tryz.prog 4 #[v0, v1] w fun en w' => en = .returned (.bool true) ∧ Below w.heap.size w w' := by
  have HTAB := Lib.hid ht
  clear ht
  obtain ⟨ho0, hn0⟩ := hw0
  obtain ⟨ho1, hn1⟩ := hw1
  have HR0 := Lib.hid hr0
  have HR1 := Lib.hid hr1
  have HO0 := Lib.hid ho0
  have HO1 := Lib.hid ho1
  have HB := Lib.hid (Below.refl w.heap.size w)
  obtain ⟨A0, c0, rfl, -⟩ := hr0
  obtain ⟨A1, c1, rfl, -⟩ := hr1
  clear ho0 ho1
  go_enter Tryz.func4, Tryz.ntmps4
  go_wp2_with fail
  refine (big_c _ _ _ _ _ _ _).mono ?_; rintro e w' ⟨rfl, hw⟩; subst hw
  cases bigB l0.length l1.length with
  | true =>
    go_wp2
    go_ret
    exact ⟨rfl, Below.refl _ _⟩
  | false =>
    go_wp2_with fail
    refine (drawSendChoice_c _ l0 hn0 HO0.out _ (rd_below HR0.out HB.out)).mono ?_; rintro e w1 ⟨⟨n1, s1, T1, vf1, F1, x1, vQ1, Q1, rfl, hT1, hF1, hFl1, hFs1, hQ1, -⟩, hb⟩
    replace HB := Lib.hid (bel_then HB.out hb)
    clear hb
    have HT1 := Lib.hid hT1
    clear hT1
    have HF1 := Lib.hid hF1
    clear hF1
    have HQ1 := Lib.hid hQ1
    clear hQ1
    obtain ⟨As1, cs1, rfl, -⟩ := HT1.out
    obtain ⟨Af1, cf1, rfl, hcf1, hmf1, -⟩ := HF1.out
    rw [maxLen_eq] at hmf1
    have HZ1 : Hid (∀ x ∈ F1, x.nm.size ≤ 9223372036854775807) := Lib.hid (fun x hx => Nat.le_trans (hFs1 x hx) (by decide))
    clear hFs1
    go_upto_region 4 with fail
    generalize hW : World.alloc w1 _ = w2
    have hr0 : w2.ownsRow w1.heap.size 47 2 (.slice (some ⟨w1.heap.size, 0, none⟩) 1 1) 1 [.int .i64 n1, .slice As1 T1.length cs1] := by subst hW; exact row_new w1 [.int .i64 n1, .slice As1 T1.length cs1] _ 1 2 rfl (by omega) (by omega)
    have hb : Below w1.heap.size w1 w2 := by subst hW; exact bel_al (Below.refl _ _) _
    clear hW
    replace HB := Lib.hid (bel_then HB.out hb)
    replace HT1 := Lib.hid (rd_below HT1.out hb)
    replace HF1 := Lib.hid (rd_below HF1.out hb)
    replace HQ1 := Lib.hid (rdi_below HQ1.out hb)
    clear hb
    obtain ⟨RK1, hRK1⟩ : ∃ R, w1.heap.size = R := ⟨_, rfl⟩
    rw [hRK1] at hr0 ⊢
    clear hRK1
    have K1 := Lib.hid hr0
    clear hr0
    obtain ⟨S, hS⟩ : ∃ z, (sendChoiceV n1 T1 F1 x1 Q1).1 = z := ⟨_, rfl⟩
    obtain ⟨q, hq⟩ : ∃ z, (sendChoiceV n1 T1 F1 x1 Q1).2.1 = z := ⟨_, rfl⟩
    obtain ⟨ok, hok⟩ : ∃ z, (sendChoiceV n1 T1 F1 x1 Q1).2.2 = z := ⟨_, rfl⟩
    have t0 := K1.out.cellAt 0 (by omega)
    have t1 := K1.out.cellAt 1 (by omega)
    dsimp only [List.getElem?_cons_zero, List.getElem?_cons_succ] at t0 t1
    go_wp2_with fail
    refine (sendChoiceI_c n1 _ T1 _ F1 x1 _ Q1 _ HT1.out HZ1.out HF1.out HQ1.out).mono ?_; unfold Own2V; rw [hS, hq, hok]; rintro e w3 ⟨vSI, vqI, rfl, hoS, hoq, -, hb⟩
    clear t0 t1
    replace HB := Lib.hid (bel_then HB.out hb)
    replace HT1 := Lib.hid (rd_below HT1.out hb)
    replace HF1 := Lib.hid (rd_below HF1.out hb)
    replace HQ1 := Lib.hid (rdi_below HQ1.out hb)
    replace K1 := Lib.hid (own_below K1.out hb)
    clear hb
    have HSI := Lib.hid (own_rd hoS)
    clear hoS
    have HqI := Lib.hid (own_rd hoq)
    clear hoq
    have t0 := K1.out.cellAt 0 (by omega)
    have t1 := K1.out.cellAt 1 (by omega)
    dsimp only [List.getElem?_cons_zero, List.getElem?_cons_succ] at t0 t1
    go_wp2_with fail
    refine (sendChoiceS_c n1 _ T1 _ F1 x1 _ Q1 _ HT1.out HZ1.out HF1.out HQ1.out).mono ?_; unfold Own2V; rw [hS, hq, hok]; rintro e w4 ⟨vSS, vqS, rfl, hoS, hoq, -, hb⟩
    clear t0 t1
    replace HB := Lib.hid (bel_then HB.out hb)
    replace HT1 := Lib.hid (rd_below HT1.out hb)
    replace HF1 := Lib.hid (rd_below HF1.out hb)
    replace HQ1 := Lib.hid (rdi_below HQ1.out hb)
    replace K1 := Lib.hid (own_below K1.out hb)
    replace HSI := Lib.hid (rd_below HSI.out hb)
    replace HqI := Lib.hid (rd_below HqI.out hb)
    clear hb
    have HSS := Lib.hid (own_rd hoS)
    clear hoS
    have HqS := Lib.hid (own_rd hoq)
    clear hoq
    have SH := Lib.hid hS
    clear hS
    have qH := Lib.hid hq
    clear hq
    have okH := Lib.hid hok
    clear hok
    have m1x : (ok != ok) = false := by simp
    obtain ⟨wN, rfl⟩ : ∃ x : World, x = w4 := ⟨_, rfl⟩
    go_upto_region 6 with fail
    go_cut [105] from 91 to 105 (fun v wx => v = .bool false ∧ Below wN.heap.size wN wx)
    case first =>
      have HZ := Lib.hid (Below.refl wN.heap.size wN)
      go_wp2_with fail
      refine (pSameFleet_c _ _ S _ HSI.out HSS.out).mono ?_; rintro e w5 ⟨rfl, hb⟩
      replace HZ := Lib.hid (bel_then HZ.out hb)
      replace HB := Lib.hid (bel_then HB.out hb)
      replace HT1 := Lib.hid (rd_below HT1.out hb)
      replace HF1 := Lib.hid (rd_below HF1.out hb)
      replace HQ1 := Lib.hid (rdi_below HQ1.out hb)
      replace K1 := Lib.hid (own_below K1.out hb)
      replace HSI := Lib.hid (rd_below HSI.out hb)
      replace HqI := Lib.hid (rd_below HqI.out hb)
      replace HSS := Lib.hid (rd_below HSS.out hb)
      replace HqS := Lib.hid (rd_below HqS.out hb)
      clear hb
      go_wp2_with fail
      refine (pSameTexts_c _ _ q _ HqI.out HqS.out).mono ?_; rintro e w6 ⟨rfl, hb⟩
      replace HZ := Lib.hid (bel_then HZ.out hb)
      replace HB := Lib.hid (bel_then HB.out hb)
      replace HT1 := Lib.hid (rd_below HT1.out hb)
      replace HF1 := Lib.hid (rd_below HF1.out hb)
      replace HQ1 := Lib.hid (rdi_below HQ1.out hb)
      replace K1 := Lib.hid (own_below K1.out hb)
      replace HSI := Lib.hid (rd_below HSI.out hb)
      replace HqI := Lib.hid (rd_below HqI.out hb)
      replace HSS := Lib.hid (rd_below HSS.out hb)
      replace HqS := Lib.hid (rd_below HqS.out hb)
      clear hb
      go_wp2_with fail
      go_meet
      exact ⟨rfl, HZ.out⟩
    case rest => as_aux_lemma =>
      obtain ⟨rfl, hb⟩ := hcut
      clear HqI m1x
      replace HB := Lib.hid (bel_then HB.out hb)
      replace HT1 := Lib.hid (rd_below HT1.out hb)
      replace HF1 := Lib.hid (rd_below HF1.out hb)
      replace HQ1 := Lib.hid (rdi_below HQ1.out hb)
      replace K1 := Lib.hid (own_below K1.out hb)
      replace HSI := Lib.hid (rd_below HSI.out hb)
      replace HSS := Lib.hid (rd_below HSS.out hb)
      replace HqS := Lib.hid (rd_below HqS.out hb)
      clear hb
      obtain ⟨wY, rfl⟩ : ∃ x : World, x = wc := ⟨_, rfl⟩
      go_upto_if 106 with fail
      go_cut [204] from 15 to 204 (fun v wx => Below wY.heap.size wY wx)
      case first =>
        cases ok with
        | false => go_wp2_with fail; go_meet; exact Below.refl _ _
        | true =>
          have HZ := Lib.hid (Below.refl wY.heap.size wY)
          obtain ⟨hask, hne⟩ := send_ok okH.out
          obtain ⟨hds, hx0, hx1⟩ := askD_true hask
          obtain ⟨hgt, hgf, hnd⟩ := goodDs_true hds
          have hn1 := (goodTown_true hgt).1
          obtain ⟨N, rfl⟩ := Int.eq_ofNat_of_zero_le (show 0 ≤ n1 by omega)
          obtain ⟨src, rfl⟩ := Int.eq_ofNat_of_zero_le hx0
          obtain ⟨hf12, -⟩ := goodFl_true hgf
          obtain ⟨P, -, hS, hq, hgood, hsum, hat, hatt⟩ := send_law okH.out
          rw [SH.out] at hS
          rw [qH.out] at hq
          rw [← hS] at hgood hat
          rw [← hq] at hsum hat hatt
          have HGOOD := Lib.hid hgood
          have HAT := Lib.hid hat
          have HATT := Lib.hid hatt
          have hSl : S.length ≤ 12 := by rw [hS, sendF_len]; exact hf12
          have hSF : S.length = F1.length := by rw [hS, sendF_len]
          have HSF := Lib.hid hSF
          have HSZ : Hid (∀ x ∈ S, x.nm.size ≤ 9223372036854775807) := Lib.hid (fun x hx => Nat.le_trans (goodAp_true ((goodFl_true hgood).2 x hx)).1 (by decide))
          have HQB : Hid (∀ y ∈ Q1, 0 ≤ y ∧ y ≤ 1000) := Lib.hid (fun y hy => by have := (needB_true hne).2 y hy; omega)
          have HQL : Hid (Q1.length ≤ 1000) := Lib.hid (by rw [(needB_true hne).1]; omega)
          obtain ⟨S2, hS2⟩ : ∃ S, Q1.sum = S := ⟨_, rfl⟩
          rw [hS2] at hsum
          have HS2 := Lib.hid hS2
          have e1 : ((q.length : Int) != S2) = false := by rw [hsum]; simp
          obtain ⟨Aq, cq, hvq, hcq, hmq, -⟩ := HqS.out
          subst hvq
          rw [maxLen_eq] at hmq
          obtain ⟨Ap0, cp0, hvp, hcp, hmp, -⟩ := HSS.out
          subst hvp
          rw [maxLen_eq] at hmp
          clear hask hne hds hgt hgf hnd hx0 hx1 hn1 hS hq hgood hsum hat hatt hSF hS2
          go_wp2_with fail
          refine (isFleetI_c _ S _ HSZ.out HSI.out).mono ?_; rw [HGOOD.out]; rintro e w5 ⟨rfl, hb⟩
          replace HZ := Lib.hid (bel_then HZ.out hb)
          replace HT1 := Lib.hid (rd_below HT1.out hb)
          replace HF1 := Lib.hid (rd_below HF1.out hb)
          replace HQ1 := Lib.hid (rdi_below HQ1.out hb)
          replace K1 := Lib.hid (own_below K1.out hb)
          replace HSI := Lib.hid (rd_below HSI.out hb)
          replace HSS := Lib.hid (rd_below HSS.out hb)
          replace HqS := Lib.hid (rd_below HqS.out hb)
          clear hb
          go_wp2_with fail
          refine (pSum_c _ Q1 _ HQ1.out HQL.out HQB.out).mono ?_; rw [HS2.out]; rintro e w6 ⟨rfl, hb⟩
          replace HZ := Lib.hid (bel_then HZ.out hb)
          replace HT1 := Lib.hid (rd_below HT1.out hb)
          replace HF1 := Lib.hid (rd_below HF1.out hb)
          replace HQ1 := Lib.hid (rdi_below HQ1.out hb)
          replace K1 := Lib.hid (own_below K1.out hb)
          replace HSI := Lib.hid (rd_below HSI.out hb)
          replace HSS := Lib.hid (rd_below HSS.out hb)
          replace HqS := Lib.hid (rd_below HqS.out hb)
          clear hb
          obtain ⟨wU, hwU⟩ : ∃ x : World, w6 = x := ⟨_, rfl⟩
          rw [hwU] at HZ HT1 HF1 HQ1 K1 HSS HqS ⊢
          clear hwU
          go_upto_region 11 with fail
          clear e1 HQB HQL HS2 HSZ HGOOD HSI
          go_wp2_with fail
          go_loopw [119] (fun vi wr => ∃ j : Nat, j ≤ S.length ∧ vi = .int .i64 j ∧ Hid (Below wU.heap.size wU wr)) (fun vi _ => S.length - (intOf vi).toNat)
          case atStart => exact ⟨0, Nat.zero_le _, rfl, Lib.hid (Below.refl _ _)⟩
          case round =>
            obtain ⟨j, hjc, rfl, HB2⟩ := hrel
            obtain ⟨wI, rfl⟩ : ∃ wI : World, wI = wr := ⟨_, rfl⟩
            have jj0 : (0 : Int) ≤ (j : Int) := by omega
            by_cases hlj : j < S.length
            · have jj1 : (j : Int) < (S.length : Int) := by omega
              have hjF : j < F1.length := by have := HSF.out; omega
              have jj2 : (j : Int) < (F1.length : Int) := by omega
              obtain ⟨Ay, cy, hvy, -, -, hrd⟩ := rd_below HSS.out HB2.out
              injection hvy with hvy _ hvc
              subst hvy; subst hvc
              obtain ⟨bs, offs, rfl, hbs, hcl⟩ := hrd (by omega)
              obtain ⟨bnm, bkd, bnd, bcr, bsv, hx, d0, d1, d2, d3, d4⟩ := ap_at' hcl (Below.refl _ _) hbs hlj
              obtain ⟨a, ha⟩ : ∃ a, F1[j]? = some a := ⟨_, List.getElem?_eq_getElem hjF⟩
              have HREL := Lib.hid (HAT.out j a _ ha hx)
              have HA := Lib.hid ha
              clear hcl hrd hx ha
              go_upto_region 14 with fail
              generalize hW : World.alloc wI _ = wJ
              have x0 : wJ.cell? ⟨wI.heap.size, 0, none⟩ = some (.string bnm) := by subst hW; simp [go_sem]
              have x1 : wJ.cell? ⟨wI.heap.size, 1, none⟩ = some (.int .i64 bkd) := by subst hW; simp [go_sem]
              have x2 : wJ.cell? ⟨wI.heap.size, 2, none⟩ = some (.int .i64 bnd) := by subst hW; simp [go_sem]
              have x3 : wJ.cell? ⟨wI.heap.size, 3, none⟩ = some (.int .i64 bcr) := by subst hW; simp [go_sem]
              have x4 : wJ.cell? ⟨wI.heap.size, 4, none⟩ = some (.int .i64 bsv) := by subst hW; simp [go_sem]
              have hbJ : Below wI.heap.size wI wJ := by subst hW; exact bel_al (Below.refl _ _) _
              have hsJ : wI.heap.size < wJ.heap.size := by subst hW; simp
              have HB3 := Lib.hid (bel_then HB2.out hbJ)
              clear hW hbJ d0 d1 d2 d3 d4
              obtain ⟨cl, hcl⟩ : ∃ b, hasN q bnm = b := ⟨_, rfl⟩
              have HREL2 : Hid ((⟨bnm, bkd, bnd, bcr, bsv⟩ : Ap) = if cl = true then callA a else a) := Lib.hid (by have h := HREL.out; dsimp only at h; rw [hcl] at h; exact h)
              have HCL := Lib.hid hcl
              clear hcl HREL
              go_wp2_with fail
              refine (pHas_c _ q bnm _ (rd_below HqS.out HB3.out)).mono ?_; rw [HCL.out]; rintro e wK ⟨rfl, hb⟩
              have x0 := (hb.cell (p := ⟨wI.heap.size, 0, none⟩) hsJ).trans x0
              have x1 := (hb.cell (p := ⟨wI.heap.size, 1, none⟩) hsJ).trans x1
              have x2 := (hb.cell (p := ⟨wI.heap.size, 2, none⟩) hsJ).trans x2
              have x3 := (hb.cell (p := ⟨wI.heap.size, 3, none⟩) hsJ).trans x3
              have x4 := (hb.cell (p := ⟨wI.heap.size, 4, none⟩) hsJ).trans x4
              have HB4 := Lib.hid (bel_then HB3.out hb)
              clear hb
              obtain ⟨Az, cz, hvz, -, -, hrd⟩ := rd_below HF1.out HB4.out
              injection hvz with hvz _ hvc
              subst hvz; subst hvc
              obtain ⟨bf, off, rfl, hbf, hclf⟩ := hrd (by omega)
              obtain ⟨anm, akd, andd, acr, asv⟩ := a
              obtain ⟨z0, z1, z2, z3, z4⟩ := ap_at hclf (Below.refl _ _) hbf HA.out
              dsimp only at z0 z1 z2 z3 z4
              clear hclf hrd
              go_upto_region 15 with fail
              cases cl with
              | true =>
                have hh := HREL2.out
                rw [if_pos rfl] at hh
                injection hh with h1 h2 h3 h4 h5
                have h5 : bsv = 1 := h5
                subst h5
                clear HREL2 z0 z1 z2 z3 z4 h1 h2 h3 h4
                go_quiet (fail)
                go_wp2
                exact ⟨⟨j + 1, by omega, by go_num, Lib.hid (below_drewN HB4.out _)⟩, by simp [intOf]; omega⟩
              | false =>
                have hh := HREL2.out
                rw [if_neg (by simp)] at hh
                injection hh with h1 h2 h3 h4 h5
                subst h1; subst h2; subst h3; subst h4; subst h5
                clear HREL2
                go_quiet (fail)
                go_wp2
                exact ⟨⟨j + 1, by omega, by go_num, Lib.hid (below_drewN HB4.out _)⟩, by simp [intOf]; omega⟩
            · obtain rfl : j = S.length := by omega
              by_cases hq0 : 0 < q.length
              · obtain ⟨C, x, k, hC, hCk, hC12, hCx, hAt⟩ := HATT.out hq0
                have hq1 : (0 : Int) < (q.length : Int) := by omega
                have HAT2 := Lib.hid hAt
                have HC1 := Lib.hid (show (chooseForV N T1 F1 src Q1).1 = C by rw [hC])
                have HC2 := Lib.hid (show (chooseForV N T1 F1 src Q1).2 = true by rw [hC])
                have HCX := Lib.hid hCx
                have K2 := Lib.hid (own_below K1.out HB2.out)
                have t0 := K2.out.cellAt 0 (by omega)
                have t1 := K2.out.cellAt 1 (by omega)
                dsimp only [List.getElem?_cons_zero, List.getElem?_cons_succ] at t0 t1
                clear hC hCx hAt HATT HAT
                go_wp2_with fail
                refine (attendanceTimeI_c N _ T1 _ F1 src _ q _ (rd_below HT1.out HB2.out) HZ1.out (rd_below HF1.out HB2.out) (rd_below HqS.out HB2.out)).mono ?_; unfold AttIs; rw [HAT2.out]; rintro e wK ⟨rfl, hb⟩
                have HB3 := Lib.hid (bel_then HB2.out hb)
                clear hb t0 t1
                have K3 := Lib.hid (own_below K1.out HB3.out)
                have t0 := K3.out.cellAt 0 (by omega)
                have t1 := K3.out.cellAt 1 (by omega)
                dsimp only [List.getElem?_cons_zero, List.getElem?_cons_succ] at t0 t1
                go_wp2_with fail
                refine (attendanceTimeS_c N _ T1 _ F1 src _ q _ (rd_below HT1.out HB3.out) HZ1.out (rd_below HF1.out HB3.out) (rd_below HqS.out HB3.out)).mono ?_; unfold AttIs; rw [HAT2.out]; rintro e wL ⟨rfl, hb⟩
                have HB4 := Lib.hid (bel_then HB3.out hb)
                clear hb t0 t1
                have K4 := Lib.hid (own_below K1.out HB4.out)
                have t0 := K4.out.cellAt 0 (by omega)
                have t1 := K4.out.cellAt 1 (by omega)
                dsimp only [List.getElem?_cons_zero, List.getElem?_cons_succ] at t0 t1
                go_wp2_with fail
                refine (chooseForS_c N _ T1 _ F1 src _ Q1 _ (rd_below HT1.out HB4.out) HZ1.out (rd_below HF1.out HB4.out) (rdi_below HQ1.out HB4.out)).mono ?_; unfold OwnChB; rw [HC1.out, HC2.out]; rintro e wM ⟨vC, rfl, ho, hb⟩
                have HB5 := Lib.hid (bel_then HB4.out hb)
                obtain ⟨Ac, cc, rfl, -, -, hrd⟩ := own_rd ho
                obtain ⟨bc, offc, rfl, hbc, hcl⟩ := hrd (by omega)
                obtain ⟨y0, y1⟩ := ch_at hcl (Below.refl _ _) hbc HCX.out
                have hcn : (C.length : Int) = (k : Int) + 1 := by omega
                have g1 : ((C.length : Int) == 0) = false := beq_false_of_ne (by omega)
                have g2 : IntKind.i64.wrap ((C.length : Int) - 1) = (k : Int) := by rw [hcn]; rw [IntWalk.i64_in _ (by omega)]; omega
                have g3 : (x.cs != x.cs) = false := by simp
                have g4 : (0 : Int) ≤ (k : Int) := by omega
                have g5 : (k : Int) < (C.length : Int) := by omega
                have HK := Lib.hid hCk
                clear hcl hrd ho hb t0 t1 hcn hCk y0
                go_wp2_with fail
                go_meet
                exact bel_then HZ.out HB5.out
              · have hq1 : (q.length : Int) ≤ 0 := by omega
                go_wp2_with fail
                go_meet
                exact bel_then HZ.out HB2.out
      case rest => as_aux_lemma =>
        have hb := hcut
        clear hcut HT1 HF1 HQ1 K1 HSI HSS HqS SH qH okH
        replace HB := Lib.hid (bel_then HB.out hb)
        clear hb
        go_wp2_with fail
        refine (drawServedNodes_c _ l1 hn1 HO1.out _ (rd_below HR1.out HB.out)).mono ?_; rintro e w5 ⟨⟨n2, s2, T2, vf2, F2, vQ2, Q2, lim, rfl, hT2, hF2, hFl2, hFs2, hQ2, -⟩, hb⟩
        replace HB := Lib.hid (bel_then HB.out hb)
        clear hb
        have HT2 := Lib.hid hT2
        clear hT2
        have HF2 := Lib.hid hF2
        clear hF2
        have HQ2 := Lib.hid hQ2
        clear hQ2
        obtain ⟨As2, cs2, rfl, -⟩ := HT2.out
        obtain ⟨Af2, cf2, rfl, hcf2, hmf2, -⟩ := HF2.out
        rw [maxLen_eq] at hmf2
        have HZ2 : Hid (∀ x ∈ F2, x.nm.size ≤ 9223372036854775807) := Lib.hid (fun x hx => Nat.le_trans (hFs2 x hx) (by decide))
        clear hFs2
        go_upto_region 25 with fail
        generalize hW : World.alloc w5 _ = w6
        have hr0 : w6.ownsRow w5.heap.size 47 2 (.slice (some ⟨w5.heap.size, 0, none⟩) 1 1) 1 [.int .i64 n2, .slice As2 T2.length cs2] := by subst hW; exact row_new w5 [.int .i64 n2, .slice As2 T2.length cs2] _ 1 2 rfl (by omega) (by omega)
        have hb : Below w5.heap.size w5 w6 := by subst hW; exact bel_al (Below.refl _ _) _
        clear hW
        replace HB := Lib.hid (bel_then HB.out hb)
        replace HT2 := Lib.hid (rd_below HT2.out hb)
        replace HF2 := Lib.hid (rd_below HF2.out hb)
        replace HQ2 := Lib.hid (rdi_below HQ2.out hb)
        clear hb
        obtain ⟨RK2, hRK2⟩ : ∃ R, w5.heap.size = R := ⟨_, rfl⟩
        rw [hRK2] at hr0 ⊢
        clear hRK2
        have K2 := Lib.hid hr0
        clear hr0
        obtain ⟨D, hD⟩ : ∃ z, (servedNodesV n2 T2 F2 Q2 lim).1 = z := ⟨_, rfl⟩
        obtain ⟨one, hone⟩ : ∃ z, (servedNodesV n2 T2 F2 Q2 lim).2 = z := ⟨_, rfl⟩
        have t0 := K2.out.cellAt 0 (by omega)
        have t1 := K2.out.cellAt 1 (by omega)
        dsimp only [List.getElem?_cons_zero, List.getElem?_cons_succ] at t0 t1
        go_wp2_with fail
        refine (servedNodesI_c n2 _ T2 _ F2 _ Q2 lim _ HT2.out HZ2.out HF2.out HQ2.out).mono ?_; unfold OwnIB; rw [hD, hone]; rintro e w7 ⟨vHDI, rfl, ho, hb⟩
        clear t0 t1
        replace HB := Lib.hid (bel_then HB.out hb)
        replace HT2 := Lib.hid (rd_below HT2.out hb)
        replace HF2 := Lib.hid (rd_below HF2.out hb)
        replace HQ2 := Lib.hid (rdi_below HQ2.out hb)
        replace K2 := Lib.hid (own_below K2.out hb)
        clear hb
        have HDI := Lib.hid (rdi_own ho)
        clear ho
        have t0 := K2.out.cellAt 0 (by omega)
        have t1 := K2.out.cellAt 1 (by omega)
        dsimp only [List.getElem?_cons_zero, List.getElem?_cons_succ] at t0 t1
        go_wp2_with fail
        refine (servedNodesS_c n2 _ T2 _ F2 _ Q2 lim _ HT2.out HZ2.out HF2.out HQ2.out).mono ?_; unfold OwnIB; rw [hD, hone]; rintro e w8 ⟨vHDS, rfl, ho, hb⟩
        clear t0 t1
        replace HB := Lib.hid (bel_then HB.out hb)
        replace HT2 := Lib.hid (rd_below HT2.out hb)
        replace HF2 := Lib.hid (rd_below HF2.out hb)
        replace HQ2 := Lib.hid (rdi_below HQ2.out hb)
        replace K2 := Lib.hid (own_below K2.out hb)
        replace HDI := Lib.hid (rdi_below HDI.out hb)
        clear hb
        have HDS := Lib.hid (rdi_own ho)
        clear ho
        have DH := Lib.hid hD
        clear hD
        have oneH := Lib.hid hone
        clear hone
        have m1x : (one != one) = false := by simp
        obtain ⟨wN, rfl⟩ : ∃ x : World, x = w8 := ⟨_, rfl⟩
        go_upto_region 27 with fail
        go_cut [236] from 228 to 236 (fun v wx => v = .bool false ∧ Below wN.heap.size wN wx)
        case first =>
          have HZ := Lib.hid (Below.refl wN.heap.size wN)
          go_wp2_with fail
          refine (sameInts_c _ _ D D _ HDI.out HDS.out).mono ?_; rw [decide_eq_true rfl]; rintro e w9 ⟨rfl, hb⟩
          replace HZ := Lib.hid (bel_then HZ.out hb)
          replace HB := Lib.hid (bel_then HB.out hb)
          replace HT2 := Lib.hid (rd_below HT2.out hb)
          replace HF2 := Lib.hid (rd_below HF2.out hb)
          replace HQ2 := Lib.hid (rdi_below HQ2.out hb)
          replace K2 := Lib.hid (own_below K2.out hb)
          replace HDI := Lib.hid (rdi_below HDI.out hb)
          replace HDS := Lib.hid (rdi_below HDS.out hb)
          clear hb
          go_wp2_with fail
          go_meet
          exact ⟨rfl, HZ.out⟩
        case rest => as_aux_lemma =>
          obtain ⟨rfl, hb⟩ := hcut
          clear HDI m1x
          replace HB := Lib.hid (bel_then HB.out hb)
          replace HT2 := Lib.hid (rd_below HT2.out hb)
          replace HF2 := Lib.hid (rd_below HF2.out hb)
          replace HQ2 := Lib.hid (rdi_below HQ2.out hb)
          replace K2 := Lib.hid (own_below K2.out hb)
          replace HDS := Lib.hid (rdi_below HDS.out hb)
          clear hb
          obtain ⟨wX, rfl⟩ : ∃ x : World, x = wc := ⟨_, rfl⟩
          go_upto_if 237 with fail
          go_cut [305] from 32 to 305 (fun v wx => Below wX.heap.size wX wx)
          case first =>
            cases one with
            | false => go_wp2_with fail; go_meet; exact Below.refl _ _
            | true =>
              obtain ⟨hds, -, -⟩ := serv_ok oneH.out
              obtain ⟨hgt, -, -⟩ := goodDs_true hds
              obtain ⟨hn1, hn14, -, -⟩ := goodTown_true hgt
              obtain ⟨N, rfl⟩ := Int.eq_ofNat_of_zero_le (show 0 ≤ n2 by omega)
              have HLAW : Hid (∀ x : Nat, x < N → ∃ (C : List Ch) (M : List Int), chooseForV N T2 F2 x Q2 = (C, true) ∧ missingKindsV N T2 F2 x Q2 = (M, true) ∧ C.length ≤ 12 ∧ M.length = 4 ∧ (∀ y ∈ M, 0 ≤ y ∧ y ≤ 6) ∧ decide ((x : Int) ∈ D) = ((M.sum == 0) && C.all fun c => decide (c.cs ≤ lim))) := Lib.hid (fun x hx => by
                have h := serv_law oneH.out hx
                rw [DH.out] at h
                exact h)
              clear hds hgt hn1
              go_wp2_with fail
              go_loopw [32] (fun vi wr => ∃ k : Nat, k ≤ N ∧ vi = .int .i64 k ∧ Hid (Below wX.heap.size wX wr)) (fun vi _ => N - (intOf vi).toNat)
              case atStart => exact ⟨0, Nat.zero_le _, rfl, Lib.hid (Below.refl _ _)⟩
              case round =>
                obtain ⟨k, hk, rfl, HBL⟩ := hrel
                obtain ⟨wA, rfl⟩ : ∃ wA : World, wA = wr := ⟨_, rfl⟩
                have k0 : (0 : Int) ≤ (k : Int) := by omega
                have KA := Lib.hid (own_below K2.out HBL.out)
                have t0 := KA.out.cellAt 0 (by omega)
                have t1 := KA.out.cellAt 1 (by omega)
                dsimp only [List.getElem?_cons_zero, List.getElem?_cons_succ] at t0 t1
                by_cases hlt : k < N
                · have k1 : (k : Int) < (N : Int) := by omega
                  obtain ⟨C, M, hC, hM, hC12, hM4, hMb, hdec⟩ := HLAW.out k hlt
                  have HC1 := Lib.hid (show (chooseForV N T2 F2 k Q2).1 = C by rw [hC])
                  have HC2 := Lib.hid (show (chooseForV N T2 F2 k Q2).2 = true by rw [hC])
                  have HM1 := Lib.hid (show (missingKindsV N T2 F2 k Q2).1 = M by rw [hM])
                  have HM2 := Lib.hid (show (missingKindsV N T2 F2 k Q2).2 = true by rw [hM])
                  have HMB : Hid (∀ y ∈ M, 0 ≤ y ∧ y ≤ 1000) := Lib.hid (fun y hy => by have := hMb y hy; omega)
                  have HML : Hid (M.length ≤ 1000) := Lib.hid (by omega)
                  have HDEC := Lib.hid hdec
                  clear hC hM hM4 hMb hdec
                  go_wp2_with fail
                  refine (chooseForS_c N _ T2 _ F2 k _ Q2 _ (rd_below HT2.out HBL.out) HZ2.out (rd_below HF2.out HBL.out) (rdi_below HQ2.out HBL.out)).mono ?_; unfold OwnChB; rw [HC1.out, HC2.out]; rintro e wB ⟨vC, rfl, ho, hb⟩
                  have HOC := Lib.hid (own_rd ho)
                  have HB1 := Lib.hid (bel_then HBL.out hb)
                  clear ho hb t0 t1
                  have KB := Lib.hid (own_below K2.out HB1.out)
                  have t0 := KB.out.cellAt 0 (by omega)
                  have t1 := KB.out.cellAt 1 (by omega)
                  dsimp only [List.getElem?_cons_zero, List.getElem?_cons_succ] at t0 t1
                  go_wp2_with fail
                  refine (missingKindsI_c N _ T2 _ F2 k _ Q2 _ (rd_below HT2.out HB1.out) HZ2.out (rd_below HF2.out HB1.out) (rdi_below HQ2.out HB1.out)).mono ?_; unfold OwnIB; rw [HM1.out, HM2.out]; rintro e wC ⟨vM, rfl, ho, hb⟩
                  have HOM := Lib.hid (rdi_own ho)
                  have HOC := Lib.hid (rd_below HOC.out hb)
                  have HB2 := Lib.hid (bel_then HB1.out hb)
                  clear ho hb t0 t1
                  have KC := Lib.hid (own_below K2.out HB2.out)
                  have t0 := KC.out.cellAt 0 (by omega)
                  have t1 := KC.out.cellAt 1 (by omega)
                  dsimp only [List.getElem?_cons_zero, List.getElem?_cons_succ] at t0 t1
                  go_wp2_with fail
                  refine (missingKindsS_c N _ T2 _ F2 k _ Q2 _ (rd_below HT2.out HB2.out) HZ2.out (rd_below HF2.out HB2.out) (rdi_below HQ2.out HB2.out)).mono ?_; unfold OwnIB; rw [HM1.out, HM2.out]; rintro e wD ⟨vK, rfl, ho, hb⟩
                  have HOK := Lib.hid (rdi_own ho)
                  have HOM := Lib.hid (rdi_below HOM.out hb)
                  have HOC := Lib.hid (rd_below HOC.out hb)
                  have HB3 := Lib.hid (bel_then HB2.out hb)
                  clear ho hb t0 t1 KA KB KC HC1 HC2 HM1 HM2
                  go_wp2_with fail
                  refine (sameInts_c _ _ M M _ HOM.out HOK.out).mono ?_; rw [decide_eq_true rfl]; rintro e wE ⟨rfl, hb⟩
                  have HOK := Lib.hid (rdi_below HOK.out hb)
                  have HOC := Lib.hid (rd_below HOC.out hb)
                  have HB4 := Lib.hid (bel_then HB3.out hb)
                  clear hb HOM
                  obtain ⟨Ac, cc, hvc, hcc, hmc, -⟩ := HOC.out
                  subst hvc
                  rw [maxLen_eq] at hmc
                  obtain ⟨SM, hSM⟩ : ∃ z, M.sum = z := ⟨_, rfl⟩
                  have HSM := Lib.hid hSM
                  clear hSM
                  go_wp2_with fail
                  refine (pSum_c _ M _ HOK.out HML.out HMB.out).mono ?_; rw [HSM.out]; rintro e wF ⟨rfl, hb⟩
                  have HOC := Lib.hid (rd_below HOC.out hb)
                  have HB5 := Lib.hid (bel_then HB4.out hb)
                  clear hb HOK HMB HML
                  obtain ⟨g0, hg0⟩ : ∃ b : Bool, (SM == 0) = b := ⟨_, rfl⟩
                  obtain ⟨wG, hwG⟩ : ∃ x : World, wF = x := ⟨_, rfl⟩
                  have HG0 := Lib.hid hg0
                  rw [hwG] at HOC HB5 ⊢
                  clear hwG
                  go_wp2_with fail
                  go_loopw [39, 289] (fun vg vj wi => ∃ (j : Nat) (b : Bool), j ≤ C.length ∧ vj = .int .i64 j ∧ vg = .bool b ∧ Hid ((g0 && (C.take j).all fun c => decide (c.cs ≤ lim)) = b) ∧ Hid (Below wG.heap.size wG wi)) (fun _ vj _ => C.length - (intOf vj).toNat)
                  case atStart => exact ⟨0, g0, Nat.zero_le _, rfl, by first | rfl | simp [hg0], Lib.hid (by simp), Lib.hid (Below.refl _ _)⟩
                  case round =>
                    obtain ⟨j, b, hj, rfl, rfl, HACC, HBI⟩ := hrel
                    obtain ⟨wI, rfl⟩ : ∃ wI : World, wI = wr := ⟨_, rfl⟩
                    have jj0 : (0 : Int) ≤ (j : Int) := by omega
                    clear hg0
                    by_cases hlj : j < C.length
                    · have jj1 : (j : Int) < (C.length : Int) := by omega
                      obtain ⟨Ay, cy, hvy, -, -, hrd⟩ := rd_below HOC.out HBI.out
                      injection hvy with hvy _ hvc
                      subst hvy; subst hvc
                      obtain ⟨bc, offc, rfl, hbc, hcl⟩ := hrd (by omega)
                      obtain ⟨cn, cs, hx, d0, d1⟩ := ch_at' hcl (Below.refl _ _) hbc hlj
                      have HNX := Lib.hid (all_take1 (p := fun c : Ch => decide (c.cs ≤ lim)) hx HACC.out)
                      clear hcl hrd hx
                      go_upto_region 42 with fail
                      generalize hW : World.alloc wI _ = wJ
                      have x1 : wJ.cell? ⟨wI.heap.size, 1, none⟩ = some (.int .i64 cs) := by subst hW; simp [go_sem]
                      have hbJ : Below wI.heap.size wI wJ := by subst hW; exact bel_al (Below.refl _ _) _
                      have HBJ := Lib.hid (bel_then HBI.out hbJ)
                      clear hW hbJ d0 d1
                      cases b with
                      | false =>
                        go_wp2
                        exact ⟨⟨j + 1, false, by omega, by go_num, rfl, Lib.hid (by rw [HNX.out, Bool.false_and]), HBJ⟩, by simp [intOf]; omega⟩
                      | true =>
                        obtain ⟨dd, hdd⟩ : ∃ b : Bool, decide (cs ≤ lim) = b := ⟨_, rfl⟩
                        have HDD := Lib.hid (show (g0 && (C.take (j + 1)).all fun c => decide (c.cs ≤ lim)) = dd by rw [HNX.out, Bool.true_and]; exact hdd)
                        cases dd with
                        | true =>
                          have hle : cs ≤ lim := of_decide_eq_true hdd
                          clear hdd
                          go_wp2
                          exact ⟨⟨j + 1, true, by omega, by go_num, by first | rfl | simp [hle], HDD, HBJ⟩, by simp [intOf]; omega⟩
                        | false =>
                          have hle : ¬ cs ≤ lim := of_decide_eq_false hdd
                          have hlt2 : lim < cs := by omega
                          clear hdd
                          go_wp2
                          exact ⟨⟨j + 1, false, by omega, by go_num, by first | rfl | simp [hle] | simp [hlt2], HDD, HBJ⟩, by simp [intOf]; omega⟩
                    · obtain rfl : j = C.length := by omega
                      have HFIN := Lib.hid (show decide ((k : Int) ∈ D) = b by
                        have h := HACC.out
                        rw [List.take_length, ← HG0.out, ← HSM.out] at h
                        rw [HDEC.out]; exact h)
                      have HBT := Lib.hid (bel_then HB5.out HBI.out)
                      have nb : (b != b) = false := by simp
                      go_wp2_with fail
                      refine (pIn_c _ D (k : Int) _ (rdi_below HDS.out HBT.out)).mono ?_; rw [HFIN.out]; rintro e wP ⟨rfl, hb⟩
                      have HBP := Lib.hid (bel_then HBT.out hb)
                      clear hb
                      go_wp2
                      exact ⟨⟨k + 1, by omega, by go_num, HBP⟩, by simp [intOf]; omega⟩
                · obtain rfl : k = N := by omega
                  go_wp2_with fail
                  go_meet
                  exact HBL.out
          case rest => as_aux_lemma =>
            have hb := hcut
            clear hcut HT2 HF2 HQ2 K2 HDS DH oneH
            replace HB := Lib.hid (bel_then HB.out hb)
            clear hb
            go_wp2_with fail
            refine (drawWithinTime_c _ l1 hn1 HO1.out _ (rd_below HR1.out HB.out)).mono ?_; rintro e w9 ⟨⟨n3, s3, T3, vf3, F3, x3, lim3, rfl, hT3, hF3, hFl3, hFs3⟩, hb⟩
            replace HB := Lib.hid (bel_then HB.out hb)
            clear hb
            have HT3 := Lib.hid hT3
            clear hT3
            have HF3 := Lib.hid hF3
            clear hF3
            obtain ⟨As3, cs3, rfl, -⟩ := HT3.out
            obtain ⟨Af3, cf3, rfl, hcf3, hmf3, -⟩ := HF3.out
            rw [maxLen_eq] at hmf3
            have HZ3 : Hid (∀ x ∈ F3, x.nm.size ≤ 9223372036854775807) := Lib.hid (fun x hx => Nat.le_trans (hFs3 x hx) (by decide))
            clear hFs3
            go_upto_region 47 with fail
            generalize hW : World.alloc w9 _ = w10
            have hr0 : w10.ownsRow w9.heap.size 47 2 (.slice (some ⟨w9.heap.size, 0, none⟩) 1 1) 1 [.int .i64 n3, .slice As3 T3.length cs3] := by subst hW; exact row_new w9 [.int .i64 n3, .slice As3 T3.length cs3] _ 1 2 rfl (by omega) (by omega)
            have hb : Below w9.heap.size w9 w10 := by subst hW; exact bel_al (Below.refl _ _) _
            clear hW
            replace HB := Lib.hid (bel_then HB.out hb)
            replace HT3 := Lib.hid (rd_below HT3.out hb)
            replace HF3 := Lib.hid (rd_below HF3.out hb)
            clear hb
            obtain ⟨RK3, hRK3⟩ : ∃ R, w9.heap.size = R := ⟨_, rfl⟩
            rw [hRK3] at hr0 ⊢
            clear hRK3
            have K3 := Lib.hid hr0
            clear hr0
            obtain ⟨w1v, hw1v⟩ : ∃ z, (withinTimeV n3 T3 F3 x3 lim3).1 = z := ⟨_, rfl⟩
            obtain ⟨w2v, hw2v⟩ : ∃ z, (withinTimeV n3 T3 F3 x3 lim3).2 = z := ⟨_, rfl⟩
            have t0 := K3.out.cellAt 0 (by omega)
            have t1 := K3.out.cellAt 1 (by omega)
            dsimp only [List.getElem?_cons_zero, List.getElem?_cons_succ] at t0 t1
            go_wp2_with fail
            refine (withinTimeI_c n3 _ T3 _ F3 x3 lim3 _ HT3.out HZ3.out HF3.out).mono ?_; unfold OwnStB; rw [hw1v, hw2v]; rintro e w11 ⟨vWI, rfl, ho, hb⟩
            clear t0 t1
            replace HB := Lib.hid (bel_then HB.out hb)
            replace HT3 := Lib.hid (rd_below HT3.out hb)
            replace HF3 := Lib.hid (rd_below HF3.out hb)
            replace K3 := Lib.hid (own_below K3.out hb)
            clear hb
            have HWI := Lib.hid (own_rd ho)
            clear ho
            have t0 := K3.out.cellAt 0 (by omega)
            have t1 := K3.out.cellAt 1 (by omega)
            dsimp only [List.getElem?_cons_zero, List.getElem?_cons_succ] at t0 t1
            go_wp2_with fail
            refine (withinTimeS_c n3 _ T3 _ F3 x3 lim3 _ HT3.out HZ3.out HF3.out).mono ?_; unfold OwnStB; rw [hw1v, hw2v]; rintro e w12 ⟨vWS, rfl, ho, hb⟩
            clear t0 t1
            replace HB := Lib.hid (bel_then HB.out hb)
            replace HT3 := Lib.hid (rd_below HT3.out hb)
            replace HF3 := Lib.hid (rd_below HF3.out hb)
            replace K3 := Lib.hid (own_below K3.out hb)
            replace HWI := Lib.hid (rd_below HWI.out hb)
            clear hb
            have HWS := Lib.hid (own_rd ho)
            clear ho
            clear hw1v hw2v
            clear HT3 HF3 K3
            go_wp2_with fail
            refine (drawAttendanceTime_c _ l1 hn1 HO1.out _ (rd_below HR1.out HB.out)).mono ?_; rintro e w13 ⟨⟨n4, s4, T4, vf4, F4, x4, vq4, q4, rfl, hT4, hF4, hFl4, hFs4, hq4, -, -⟩, hb⟩
            replace HB := Lib.hid (bel_then HB.out hb)
            replace HWI := Lib.hid (rd_below HWI.out hb)
            replace HWS := Lib.hid (rd_below HWS.out hb)
            clear hb
            have HT4 := Lib.hid hT4
            clear hT4
            have HF4 := Lib.hid hF4
            clear hF4
            have Hq4 := Lib.hid hq4
            clear hq4
            obtain ⟨As4, cs4, rfl, -⟩ := HT4.out
            obtain ⟨Af4, cf4, rfl, hcf4, hmf4, -⟩ := HF4.out
            rw [maxLen_eq] at hmf4
            have HZ4 : Hid (∀ x ∈ F4, x.nm.size ≤ 9223372036854775807) := Lib.hid (fun x hx => Nat.le_trans (hFs4 x hx) (by decide))
            clear hFs4
            go_upto_region 50 with fail
            generalize hW : World.alloc w13 _ = w14
            have hr0 : w14.ownsRow w13.heap.size 47 2 (.slice (some ⟨w13.heap.size, 0, none⟩) 1 1) 1 [.int .i64 n4, .slice As4 T4.length cs4] := by subst hW; exact row_new w13 [.int .i64 n4, .slice As4 T4.length cs4] _ 1 2 rfl (by omega) (by omega)
            have hb : Below w13.heap.size w13 w14 := by subst hW; exact bel_al (Below.refl _ _) _
            clear hW
            replace HB := Lib.hid (bel_then HB.out hb)
            replace HWI := Lib.hid (rd_below HWI.out hb)
            replace HWS := Lib.hid (rd_below HWS.out hb)
            replace HT4 := Lib.hid (rd_below HT4.out hb)
            replace HF4 := Lib.hid (rd_below HF4.out hb)
            replace Hq4 := Lib.hid (rd_below Hq4.out hb)
            clear hb
            obtain ⟨RK4, hRK4⟩ : ∃ R, w13.heap.size = R := ⟨_, rfl⟩
            rw [hRK4] at hr0 ⊢
            clear hRK4
            have K4 := Lib.hid hr0
            clear hr0
            obtain ⟨a1v, ha1v⟩ : ∃ z, (attendanceTimeV n4 T4 F4 x4 q4).1 = z := ⟨_, rfl⟩
            obtain ⟨a2v, ha2v⟩ : ∃ z, (attendanceTimeV n4 T4 F4 x4 q4).2 = z := ⟨_, rfl⟩
            have t0 := K4.out.cellAt 0 (by omega)
            have t1 := K4.out.cellAt 1 (by omega)
            dsimp only [List.getElem?_cons_zero, List.getElem?_cons_succ] at t0 t1
            go_wp2_with fail
            refine (attendanceTimeI_c n4 _ T4 _ F4 x4 _ q4 _ HT4.out HZ4.out HF4.out Hq4.out).mono ?_; unfold AttIs; rw [ha1v, ha2v]; rintro e w15 ⟨rfl, hb⟩
            clear t0 t1
            replace HB := Lib.hid (bel_then HB.out hb)
            replace HWI := Lib.hid (rd_below HWI.out hb)
            replace HWS := Lib.hid (rd_below HWS.out hb)
            replace HT4 := Lib.hid (rd_below HT4.out hb)
            replace HF4 := Lib.hid (rd_below HF4.out hb)
            replace Hq4 := Lib.hid (rd_below Hq4.out hb)
            replace K4 := Lib.hid (own_below K4.out hb)
            clear hb
            have t0 := K4.out.cellAt 0 (by omega)
            have t1 := K4.out.cellAt 1 (by omega)
            dsimp only [List.getElem?_cons_zero, List.getElem?_cons_succ] at t0 t1
            go_wp2_with fail
            refine (attendanceTimeS_c n4 _ T4 _ F4 x4 _ q4 _ HT4.out HZ4.out HF4.out Hq4.out).mono ?_; unfold AttIs; rw [ha1v, ha2v]; rintro e w16 ⟨rfl, hb⟩
            clear t0 t1
            replace HB := Lib.hid (bel_then HB.out hb)
            replace HWI := Lib.hid (rd_below HWI.out hb)
            replace HWS := Lib.hid (rd_below HWS.out hb)
            replace HT4 := Lib.hid (rd_below HT4.out hb)
            replace HF4 := Lib.hid (rd_below HF4.out hb)
            replace Hq4 := Lib.hid (rd_below Hq4.out hb)
            replace K4 := Lib.hid (own_below K4.out hb)
            clear hb
            clear ha1v ha2v
            clear HT4 HF4 K4 Hq4
            go_wp2_with fail
            refine (drawChoiceText_c _ l1 hn1 HO1.out _ (rd_below HR1.out HB.out)).mono ?_; rintro e w17 ⟨⟨vL, L, rfl, hL, -, hLs⟩, hb⟩
            replace HB := Lib.hid (bel_then HB.out hb)
            replace HWI := Lib.hid (rd_below HWI.out hb)
            replace HWS := Lib.hid (rd_below HWS.out hb)
            clear hb
            have HL := Lib.hid hL
            clear hL
            have HLS : Hid (∀ x ∈ L, x.cn.size ≤ 9223372036854775807) := Lib.hid (fun x hx => Nat.le_trans (hLs x hx) (by decide))
            clear hLs
            obtain ⟨c1v, hc1v⟩ : ∃ z, (choiceTextV L).1 = z := ⟨_, rfl⟩
            obtain ⟨c2v, hc2v⟩ : ∃ z, (choiceTextV L).2 = z := ⟨_, rfl⟩
            go_wp2_with fail
            refine (choiceTextI_c _ L _ HLS.out HL.out (powTab_below HTAB.out HB.out)).mono ?_; unfold ChTextIs; rw [hc1v, hc2v]; rintro e w18 ⟨rfl, hb⟩
            replace HB := Lib.hid (bel_then HB.out hb)
            replace HWI := Lib.hid (rd_below HWI.out hb)
            replace HWS := Lib.hid (rd_below HWS.out hb)
            replace HL := Lib.hid (rd_below HL.out hb)
            clear hb
            go_wp2_with fail
            refine (choiceTextS_c _ L _ HLS.out HL.out).mono ?_; unfold ChTextIs; rw [hc1v, hc2v]; rintro e w19 ⟨rfl, hb⟩
            replace HB := Lib.hid (bel_then HB.out hb)
            replace HWI := Lib.hid (rd_below HWI.out hb)
            replace HWS := Lib.hid (rd_below HWS.out hb)
            replace HL := Lib.hid (rd_below HL.out hb)
            clear hb
            clear hc1v hc2v
            have e1 : (w2v == w2v) = true := by simp
            have e2 : (a2v == a2v) = true := by simp
            have e3 : (a1v == a1v) = true := by simp
            have e4 : (c2v == c2v) = true := by simp
            have e5 : (c1v.toList == c1v.toList) = true := by simp
            go_wp2_with fail
            refine (pSameTexts_c _ _ w1v _ HWI.out HWS.out).mono ?_; rintro e w20 ⟨rfl, hb⟩
            replace HB := Lib.hid (bel_then HB.out hb)
            replace HWI := Lib.hid (rd_below HWI.out hb)
            replace HWS := Lib.hid (rd_below HWS.out hb)
            replace HL := Lib.hid (rd_below HL.out hb)
            clear hb
            go_wp2
            go_ret
            exact ⟨by first | rfl | simp, HB.out⟩
end Go.Proofs.YthgegghdkoeofaaGreatDoor
