/-
  The walk of FnMoves (printed by gen_mvw.py). (joined by pack.py: MovesW)
-/
import Derived.Test.YtahehdgkbhjpoaaK14
import Derived.Test.YtahehdgkbhjpoaaK22
import Derived.Test.YtahehdgkbhjpoaaK5
import Derived.Test.YtahehdgkbhjpoaaK7
import Derived.BigRegion
import Derived.Deep.CutRange
namespace Go.Proofs.Ytahehdgkbhjpoaa
set_option linter.unusedVariables false
set_option linter.unusedSimpArgs false
open Go.RowKit

theorem cells_below {w w' : World} {A : Option Addr} {n : Nat} {l : List Int} (h : 0 < n → ∃ b off, A = some ⟨b, off, none⟩ ∧ b < w.heap.size ∧ ∀ j u, (ints l)[j]? = some u → w.cell? ⟨b, off + j, none⟩ = some u) (hb : Below w.heap.size w w') : 0 < n → ∃ b off, A = some ⟨b, off, none⟩ ∧ b < w'.heap.size ∧ ∀ j u, (ints l)[j]? = some u → w'.cell? ⟨b, off + j, none⟩ = some u := fun h0 => by
  obtain ⟨b, off, e, hl, hc⟩ := h h0
  exact ⟨b, off, e, Nat.lt_of_lt_of_le hl hb.size, fun j u hu => (hb.cell (p := ⟨b, off + j, none⟩) hl).trans (hc j u hu)⟩
set_option maxRecDepth 100000 in
set_option maxHeartbeats 4000000 in
theorem walk_FnMoves (w : World) (v0 : Value) (l0 : List Int) (hr0 : Rd w v0 l0.length (bys l0)) (hw0 : BytesOk l0 ∧ l0.length ≤ 9223372036854775807) (v1 : Value) (l1 : List Int) (hr1 : Rd w v1 l1.length (bys l1)) (hw1 : BytesOk l1 ∧ l1.length ≤ 9223372036854775807) :
    Calls Try.prog 5 #[v0, v1] w fun en w' => en = .returned (.bool true) ∧ Below w.heap.size w w' := by
  obtain ⟨ho0, hn0⟩ := hw0
  obtain ⟨ho1, hn1⟩ := hw1
  have HR0 := Lib.hid hr0
  have HR1 := Lib.hid hr1
  have HO0 := Lib.hid ho0
  have HO1 := Lib.hid ho1
  have HB := Lib.hid (Below.refl w.heap.size w)
  obtain ⟨A0, c0, rfl, -⟩ := hr0
  obtain ⟨A1, c1, rfl, -⟩ := hr1
  clear ho0 ho1
  obtain ⟨X, hX⟩ : ∃ X, IntKind.i64.wrap ((l0.length : Int) + (l1.length : Int)) = X := ⟨_, rfl⟩
  by_cases hbig : 1048576 < X
  · go_enter Try.func5, Try.ntmps5
    go_wp2
    go_ret
    exact ⟨rfl, Below.refl _ _⟩
  have hbig2 : X ≤ 1048576 := by omega
  clear hbig
  go_enter Try.func5, Try.ntmps5
  go_wp2_with fail
  refine (drawFillStations_c _ l0 hn0 HO0.out _ (rd_below HR0.out HB.out)).mono ?_; rintro e w1 ⟨⟨n1, s1, T1, vP1, P1, vQ1, Q1, a1, rfl, hT1, hP1, hQ1⟩, hb⟩
  replace HB := Lib.hid (bel_then HB.out hb)
  clear hb
  have HT1 := Lib.hid hT1
  clear hT1
  have HP1 := Lib.hid hP1
  clear hP1
  have HQ1 := Lib.hid hQ1
  clear hQ1
  obtain ⟨As1, cs1, rfl, -⟩ := HT1.out
  obtain ⟨Aq, cq, rfl, -⟩ := HQ1.out
  go_upto_region 4 with fail
  generalize hW : World.alloc w1 _ = w2
  have hr0 : w2.ownsRow w1.heap.size 26 2 (.slice (some ⟨w1.heap.size, 0, none⟩) 1 1) 1 [.int .i64 n1, .slice As1 T1.length cs1] := by subst hW; exact row_new w1 [.int .i64 n1, .slice As1 T1.length cs1] _ 1 2 rfl (by omega) (by omega)
  have hb : Below w1.heap.size w1 w2 := by subst hW; exact bel_al (Below.refl _ _) _
  clear hW
  replace HB := Lib.hid (bel_then HB.out hb)
  replace HT1 := Lib.hid (rd_below HT1.out hb)
  replace HP1 := Lib.hid (rdi_below HP1.out hb)
  replace HQ1 := Lib.hid (rdi_below HQ1.out hb)
  clear hb
  obtain ⟨RK1, hRK1⟩ : ∃ R, w1.heap.size = R := ⟨_, rfl⟩
  rw [hRK1] at hr0 ⊢
  clear hRK1
  have K1 := Lib.hid hr0
  clear hr0
  obtain ⟨ok, hok⟩ : ∃ b, askM n1 T1 P1 Q1 a1 = b := ⟨_, rfl⟩
  obtain ⟨F, hF⟩ : ∃ z, (fillStationsV n1 T1 P1 Q1 a1).1 = z := ⟨_, rfl⟩
  have hF2 : (fillStationsV n1 T1 P1 Q1 a1).2 = ok := by rw [fill_snd, hok]
  obtain ⟨mo, hmo⟩ : ∃ z, (mostFilledV n1 T1 P1 Q1 a1).1 = z := ⟨_, rfl⟩
  have hmo2 : (mostFilledV n1 T1 P1 Q1 a1).2 = ok := by rw [most_snd, hok]
  obtain ⟨BL, hBL⟩ : ∃ z, (blockedStationsV n1 T1 P1 Q1 a1).1 = z := ⟨_, rfl⟩
  obtain ⟨th, hth⟩ : ∃ z, (blockedStationsV n1 T1 P1 Q1 a1).2 = z := ⟨_, rfl⟩
  obtain ⟨TB, hTB⟩ : ∃ z, (reachTableV n1 T1 P1 Q1 a1).1 = z := ⟨_, rfl⟩
  have hTB2 : (reachTableV n1 T1 P1 Q1 a1).2 = ok := by rw [table_snd, hok]
  have t0 := K1.out.cellAt 0 (by omega)
  have t1 := K1.out.cellAt 1 (by omega)
  dsimp only [List.getElem?_cons_zero, List.getElem?_cons_succ] at t0 t1
  go_wp2_with fail
  refine (fillStationsI_c n1 _ T1 vP1 P1 _ Q1 a1 _ HT1.out HP1.out HQ1.out).mono ?_; unfold OwnIB; rw [hF, hF2]; rintro e w3 ⟨vHFI, rfl, ho, hb⟩
  clear t0 t1
  replace HB := Lib.hid (bel_then HB.out hb)
  replace HT1 := Lib.hid (rd_below HT1.out hb)
  replace HP1 := Lib.hid (rdi_below HP1.out hb)
  replace HQ1 := Lib.hid (rdi_below HQ1.out hb)
  replace K1 := Lib.hid (own_below K1.out hb)
  clear hb
  have HFI := Lib.hid (rdi_own ho)
  clear ho
  have t0 := K1.out.cellAt 0 (by omega)
  have t1 := K1.out.cellAt 1 (by omega)
  dsimp only [List.getElem?_cons_zero, List.getElem?_cons_succ] at t0 t1
  go_wp2_with fail
  refine (fillStationsS_c n1 _ T1 vP1 P1 _ Q1 a1 _ HT1.out HP1.out HQ1.out).mono ?_; unfold OwnIB; rw [hF, hF2]; rintro e w4 ⟨vHFS, rfl, ho, hb⟩
  clear t0 t1
  replace HB := Lib.hid (bel_then HB.out hb)
  replace HT1 := Lib.hid (rd_below HT1.out hb)
  replace HP1 := Lib.hid (rdi_below HP1.out hb)
  replace HQ1 := Lib.hid (rdi_below HQ1.out hb)
  replace K1 := Lib.hid (own_below K1.out hb)
  replace HFI := Lib.hid (rdi_below HFI.out hb)
  clear hb
  have HFS := Lib.hid (rdi_own ho)
  clear ho
  have t0 := K1.out.cellAt 0 (by omega)
  have t1 := K1.out.cellAt 1 (by omega)
  dsimp only [List.getElem?_cons_zero, List.getElem?_cons_succ] at t0 t1
  go_wp2_with fail
  refine (mostFilledI_c n1 _ T1 vP1 P1 _ Q1 a1 _ HT1.out HP1.out HQ1.out).mono ?_; rw [hmo, hmo2]; rintro e w5 ⟨rfl, hb⟩
  clear t0 t1
  replace HB := Lib.hid (bel_then HB.out hb)
  replace HT1 := Lib.hid (rd_below HT1.out hb)
  replace HP1 := Lib.hid (rdi_below HP1.out hb)
  replace HQ1 := Lib.hid (rdi_below HQ1.out hb)
  replace K1 := Lib.hid (own_below K1.out hb)
  replace HFI := Lib.hid (rdi_below HFI.out hb)
  replace HFS := Lib.hid (rdi_below HFS.out hb)
  clear hb
  have t0 := K1.out.cellAt 0 (by omega)
  have t1 := K1.out.cellAt 1 (by omega)
  dsimp only [List.getElem?_cons_zero, List.getElem?_cons_succ] at t0 t1
  go_wp2_with fail
  refine (mostFilledS_c n1 _ T1 vP1 P1 _ Q1 a1 _ HT1.out HP1.out HQ1.out).mono ?_; rw [hmo, hmo2]; rintro e w6 ⟨rfl, hb⟩
  clear t0 t1
  replace HB := Lib.hid (bel_then HB.out hb)
  replace HT1 := Lib.hid (rd_below HT1.out hb)
  replace HP1 := Lib.hid (rdi_below HP1.out hb)
  replace HQ1 := Lib.hid (rdi_below HQ1.out hb)
  replace K1 := Lib.hid (own_below K1.out hb)
  replace HFI := Lib.hid (rdi_below HFI.out hb)
  replace HFS := Lib.hid (rdi_below HFS.out hb)
  clear hb
  have t0 := K1.out.cellAt 0 (by omega)
  have t1 := K1.out.cellAt 1 (by omega)
  dsimp only [List.getElem?_cons_zero, List.getElem?_cons_succ] at t0 t1
  go_wp2_with fail
  refine (blockedStationsI_c n1 _ T1 vP1 P1 _ Q1 a1 _ HT1.out HP1.out HQ1.out).mono ?_; unfold OwnIB; rw [hBL, hth]; rintro e w7 ⟨vHBI, rfl, ho, hb⟩
  clear t0 t1
  replace HB := Lib.hid (bel_then HB.out hb)
  replace HT1 := Lib.hid (rd_below HT1.out hb)
  replace HP1 := Lib.hid (rdi_below HP1.out hb)
  replace HQ1 := Lib.hid (rdi_below HQ1.out hb)
  replace K1 := Lib.hid (own_below K1.out hb)
  replace HFI := Lib.hid (rdi_below HFI.out hb)
  replace HFS := Lib.hid (rdi_below HFS.out hb)
  clear hb
  have HBI := Lib.hid (rdi_own ho)
  clear ho
  have t0 := K1.out.cellAt 0 (by omega)
  have t1 := K1.out.cellAt 1 (by omega)
  dsimp only [List.getElem?_cons_zero, List.getElem?_cons_succ] at t0 t1
  go_wp2_with fail
  refine (blockedStationsS_c n1 _ T1 vP1 P1 _ Q1 a1 _ HT1.out HP1.out HQ1.out).mono ?_; unfold OwnIB; rw [hBL, hth]; rintro e w8 ⟨vHBS, rfl, ho, hb⟩
  clear t0 t1
  replace HB := Lib.hid (bel_then HB.out hb)
  replace HT1 := Lib.hid (rd_below HT1.out hb)
  replace HP1 := Lib.hid (rdi_below HP1.out hb)
  replace HQ1 := Lib.hid (rdi_below HQ1.out hb)
  replace K1 := Lib.hid (own_below K1.out hb)
  replace HFI := Lib.hid (rdi_below HFI.out hb)
  replace HFS := Lib.hid (rdi_below HFS.out hb)
  replace HBI := Lib.hid (rdi_below HBI.out hb)
  clear hb
  have HBS := Lib.hid (rdi_own ho)
  clear ho
  have t0 := K1.out.cellAt 0 (by omega)
  have t1 := K1.out.cellAt 1 (by omega)
  dsimp only [List.getElem?_cons_zero, List.getElem?_cons_succ] at t0 t1
  go_wp2_with fail
  refine (reachTableI_c n1 _ T1 vP1 P1 _ Q1 a1 _ HT1.out HP1.out HQ1.out).mono ?_; unfold OwnSB; rw [hTB, hTB2]; rintro e w9 ⟨vHRI, rfl, ho, hb⟩
  clear t0 t1
  replace HB := Lib.hid (bel_then HB.out hb)
  replace HT1 := Lib.hid (rd_below HT1.out hb)
  replace HP1 := Lib.hid (rdi_below HP1.out hb)
  replace HQ1 := Lib.hid (rdi_below HQ1.out hb)
  replace K1 := Lib.hid (own_below K1.out hb)
  replace HFI := Lib.hid (rdi_below HFI.out hb)
  replace HFS := Lib.hid (rdi_below HFS.out hb)
  replace HBI := Lib.hid (rdi_below HBI.out hb)
  replace HBS := Lib.hid (rdi_below HBS.out hb)
  clear hb
  have HRI := Lib.hid (ho.rd)
  clear ho
  have t0 := K1.out.cellAt 0 (by omega)
  have t1 := K1.out.cellAt 1 (by omega)
  dsimp only [List.getElem?_cons_zero, List.getElem?_cons_succ] at t0 t1
  go_wp2_with fail
  refine (reachTableS_c n1 _ T1 vP1 P1 _ Q1 a1 _ HT1.out HP1.out HQ1.out).mono ?_; unfold OwnSB; rw [hTB, hTB2]; rintro e w10 ⟨vHRS, rfl, ho, hb⟩
  clear t0 t1
  replace HB := Lib.hid (bel_then HB.out hb)
  replace HT1 := Lib.hid (rd_below HT1.out hb)
  replace HP1 := Lib.hid (rdi_below HP1.out hb)
  replace HQ1 := Lib.hid (rdi_below HQ1.out hb)
  replace K1 := Lib.hid (own_below K1.out hb)
  replace HFI := Lib.hid (rdi_below HFI.out hb)
  replace HFS := Lib.hid (rdi_below HFS.out hb)
  replace HBI := Lib.hid (rdi_below HBI.out hb)
  replace HBS := Lib.hid (rdi_below HBS.out hb)
  replace HRI := Lib.hid (RdSS.below HRI.out hb)
  clear hb
  have HRS := Lib.hid (ho.rd)
  clear ho
  have HOKH := Lib.hid hok
  clear hok
  have HFH := Lib.hid hF
  clear hF
  have HF2H := Lib.hid hF2
  clear hF2
  have HMOH := Lib.hid hmo
  clear hmo
  have HMO2H := Lib.hid hmo2
  clear hmo2
  have HBLH := Lib.hid hBL
  clear hBL
  have HTHH := Lib.hid hth
  clear hth
  have HTBH := Lib.hid hTB
  clear hTB
  have HTB2H := Lib.hid hTB2
  clear hTB2
  have n1x : ∀ b : Bool, (b != b) = false := by simp
  have n2x := n1x ok
  have n3x := n1x th
  have n4x : (mo != mo) = false := by simp
  clear n1x
  obtain ⟨wN, rfl⟩ : ∃ x : World, x = w10 := ⟨_, rfl⟩
  go_upto_region 12 with fail
  go_cut [181] from 120 to 181 (fun v wx => v = .bool false ∧ Below wN.heap.size wN wx)
  case first =>
    have HZ := Lib.hid (Below.refl wN.heap.size wN)
    cases ok with
    | false =>
      obtain rfl : th = false := by rw [← HTHH.out]; exact blk_no HOKH.out
      go_wp2_with fail
      refine (qInts_c _ _ F F _ HFI.out HFS.out).mono ?_; rw [decide_eq_true rfl]; rintro e w11 ⟨rfl, hb⟩
      replace HZ := Lib.hid (bel_then HZ.out hb)
      replace HB := Lib.hid (bel_then HB.out hb)
      replace HT1 := Lib.hid (rd_below HT1.out hb)
      replace HP1 := Lib.hid (rdi_below HP1.out hb)
      replace HQ1 := Lib.hid (rdi_below HQ1.out hb)
      replace K1 := Lib.hid (own_below K1.out hb)
      replace HFI := Lib.hid (rdi_below HFI.out hb)
      replace HFS := Lib.hid (rdi_below HFS.out hb)
      replace HBI := Lib.hid (rdi_below HBI.out hb)
      replace HBS := Lib.hid (rdi_below HBS.out hb)
      replace HRI := Lib.hid (RdSS.below HRI.out hb)
      replace HRS := Lib.hid (RdSS.below HRS.out hb)
      clear hb
      go_wp2_with fail
      refine (qInts_c _ _ BL BL _ HBI.out HBS.out).mono ?_; rw [decide_eq_true rfl]; rintro e w12 ⟨rfl, hb⟩
      replace HZ := Lib.hid (bel_then HZ.out hb)
      replace HB := Lib.hid (bel_then HB.out hb)
      replace HT1 := Lib.hid (rd_below HT1.out hb)
      replace HP1 := Lib.hid (rdi_below HP1.out hb)
      replace HQ1 := Lib.hid (rdi_below HQ1.out hb)
      replace K1 := Lib.hid (own_below K1.out hb)
      replace HFI := Lib.hid (rdi_below HFI.out hb)
      replace HFS := Lib.hid (rdi_below HFS.out hb)
      replace HBI := Lib.hid (rdi_below HBI.out hb)
      replace HBS := Lib.hid (rdi_below HBS.out hb)
      replace HRI := Lib.hid (RdSS.below HRI.out hb)
      replace HRS := Lib.hid (RdSS.below HRS.out hb)
      clear hb
      go_wp2_with fail
      refine (qLists_c _ _ TB TB _ HRI.out HRS.out).mono ?_; rw [decide_eq_true rfl]; rintro e w13 ⟨rfl, hb⟩
      replace HZ := Lib.hid (bel_then HZ.out hb)
      replace HB := Lib.hid (bel_then HB.out hb)
      replace HT1 := Lib.hid (rd_below HT1.out hb)
      replace HP1 := Lib.hid (rdi_below HP1.out hb)
      replace HQ1 := Lib.hid (rdi_below HQ1.out hb)
      replace K1 := Lib.hid (own_below K1.out hb)
      replace HFI := Lib.hid (rdi_below HFI.out hb)
      replace HFS := Lib.hid (rdi_below HFS.out hb)
      replace HBI := Lib.hid (rdi_below HBI.out hb)
      replace HBS := Lib.hid (rdi_below HBS.out hb)
      replace HRI := Lib.hid (RdSS.below HRI.out hb)
      replace HRS := Lib.hid (RdSS.below HRS.out hb)
      clear hb
      go_wp2_with fail
      go_meet
      exact ⟨rfl, HZ.out⟩
    | true =>
      obtain ⟨m, rfl⟩ := nat_of (goodTown_true (goodMv_true (askM_true HOKH.out).1).1).1
      have hbk := blocked_is HOKH.out
      rw [HTHH.out, HMOH.out] at hbk
      by_cases hlt : mo < (Q1.length : Int)
      · rw [decide_eq_true hlt] at hbk
        subst hbk
        go_wp2_with fail
        refine (qInts_c _ _ F F _ HFI.out HFS.out).mono ?_; rw [decide_eq_true rfl]; rintro e w11 ⟨rfl, hb⟩
        replace HZ := Lib.hid (bel_then HZ.out hb)
        replace HB := Lib.hid (bel_then HB.out hb)
        replace HT1 := Lib.hid (rd_below HT1.out hb)
        replace HP1 := Lib.hid (rdi_below HP1.out hb)
        replace HQ1 := Lib.hid (rdi_below HQ1.out hb)
        replace K1 := Lib.hid (own_below K1.out hb)
        replace HFI := Lib.hid (rdi_below HFI.out hb)
        replace HFS := Lib.hid (rdi_below HFS.out hb)
        replace HBI := Lib.hid (rdi_below HBI.out hb)
        replace HBS := Lib.hid (rdi_below HBS.out hb)
        replace HRI := Lib.hid (RdSS.below HRI.out hb)
        replace HRS := Lib.hid (RdSS.below HRS.out hb)
        clear hb
        go_wp2_with fail
        refine (qInts_c _ _ BL BL _ HBI.out HBS.out).mono ?_; rw [decide_eq_true rfl]; rintro e w12 ⟨rfl, hb⟩
        replace HZ := Lib.hid (bel_then HZ.out hb)
        replace HB := Lib.hid (bel_then HB.out hb)
        replace HT1 := Lib.hid (rd_below HT1.out hb)
        replace HP1 := Lib.hid (rdi_below HP1.out hb)
        replace HQ1 := Lib.hid (rdi_below HQ1.out hb)
        replace K1 := Lib.hid (own_below K1.out hb)
        replace HFI := Lib.hid (rdi_below HFI.out hb)
        replace HFS := Lib.hid (rdi_below HFS.out hb)
        replace HBI := Lib.hid (rdi_below HBI.out hb)
        replace HBS := Lib.hid (rdi_below HBS.out hb)
        replace HRI := Lib.hid (RdSS.below HRI.out hb)
        replace HRS := Lib.hid (RdSS.below HRS.out hb)
        clear hb
        go_wp2_with fail
        refine (qLists_c _ _ TB TB _ HRI.out HRS.out).mono ?_; rw [decide_eq_true rfl]; rintro e w13 ⟨rfl, hb⟩
        replace HZ := Lib.hid (bel_then HZ.out hb)
        replace HB := Lib.hid (bel_then HB.out hb)
        replace HT1 := Lib.hid (rd_below HT1.out hb)
        replace HP1 := Lib.hid (rdi_below HP1.out hb)
        replace HQ1 := Lib.hid (rdi_below HQ1.out hb)
        replace K1 := Lib.hid (own_below K1.out hb)
        replace HFI := Lib.hid (rdi_below HFI.out hb)
        replace HFS := Lib.hid (rdi_below HFS.out hb)
        replace HBI := Lib.hid (rdi_below HBI.out hb)
        replace HBS := Lib.hid (rdi_below HBS.out hb)
        replace HRI := Lib.hid (RdSS.below HRI.out hb)
        replace HRS := Lib.hid (RdSS.below HRS.out hb)
        clear hb
        go_wp2_with fail
        go_meet
        exact ⟨rfl, HZ.out⟩
      · rw [decide_eq_false hlt] at hbk
        subst hbk
        have hge : (Q1.length : Int) ≤ mo := by omega
        have hd : decide (mo < (Q1.length : Int)) = false := decide_eq_false hlt
        clear hlt
        go_wp2_with fail
        refine (qInts_c _ _ F F _ HFI.out HFS.out).mono ?_; rw [decide_eq_true rfl]; rintro e w11 ⟨rfl, hb⟩
        replace HZ := Lib.hid (bel_then HZ.out hb)
        replace HB := Lib.hid (bel_then HB.out hb)
        replace HT1 := Lib.hid (rd_below HT1.out hb)
        replace HP1 := Lib.hid (rdi_below HP1.out hb)
        replace HQ1 := Lib.hid (rdi_below HQ1.out hb)
        replace K1 := Lib.hid (own_below K1.out hb)
        replace HFI := Lib.hid (rdi_below HFI.out hb)
        replace HFS := Lib.hid (rdi_below HFS.out hb)
        replace HBI := Lib.hid (rdi_below HBI.out hb)
        replace HBS := Lib.hid (rdi_below HBS.out hb)
        replace HRI := Lib.hid (RdSS.below HRI.out hb)
        replace HRS := Lib.hid (RdSS.below HRS.out hb)
        clear hb
        go_wp2_with fail
        refine (qInts_c _ _ BL BL _ HBI.out HBS.out).mono ?_; rw [decide_eq_true rfl]; rintro e w12 ⟨rfl, hb⟩
        replace HZ := Lib.hid (bel_then HZ.out hb)
        replace HB := Lib.hid (bel_then HB.out hb)
        replace HT1 := Lib.hid (rd_below HT1.out hb)
        replace HP1 := Lib.hid (rdi_below HP1.out hb)
        replace HQ1 := Lib.hid (rdi_below HQ1.out hb)
        replace K1 := Lib.hid (own_below K1.out hb)
        replace HFI := Lib.hid (rdi_below HFI.out hb)
        replace HFS := Lib.hid (rdi_below HFS.out hb)
        replace HBI := Lib.hid (rdi_below HBI.out hb)
        replace HBS := Lib.hid (rdi_below HBS.out hb)
        replace HRI := Lib.hid (RdSS.below HRI.out hb)
        replace HRS := Lib.hid (RdSS.below HRS.out hb)
        clear hb
        go_wp2_with fail
        refine (qLists_c _ _ TB TB _ HRI.out HRS.out).mono ?_; rw [decide_eq_true rfl]; rintro e w13 ⟨rfl, hb⟩
        replace HZ := Lib.hid (bel_then HZ.out hb)
        replace HB := Lib.hid (bel_then HB.out hb)
        replace HT1 := Lib.hid (rd_below HT1.out hb)
        replace HP1 := Lib.hid (rdi_below HP1.out hb)
        replace HQ1 := Lib.hid (rdi_below HQ1.out hb)
        replace K1 := Lib.hid (own_below K1.out hb)
        replace HFI := Lib.hid (rdi_below HFI.out hb)
        replace HFS := Lib.hid (rdi_below HFS.out hb)
        replace HBI := Lib.hid (rdi_below HBI.out hb)
        replace HBS := Lib.hid (rdi_below HBS.out hb)
        replace HRI := Lib.hid (RdSS.below HRI.out hb)
        replace HRS := Lib.hid (RdSS.below HRS.out hb)
        clear hb
        go_wp2_with fail
        go_meet
        exact ⟨rfl, HZ.out⟩
  case rest => as_aux_lemma =>
    obtain ⟨rfl, hb⟩ := hcut
    clear HBI HRI n2x n3x n4x
    replace HB := Lib.hid (bel_then HB.out hb)
    replace HT1 := Lib.hid (rd_below HT1.out hb)
    replace HP1 := Lib.hid (rdi_below HP1.out hb)
    replace HQ1 := Lib.hid (rdi_below HQ1.out hb)
    replace K1 := Lib.hid (own_below K1.out hb)
    replace HFI := Lib.hid (rdi_below HFI.out hb)
    replace HFS := Lib.hid (rdi_below HFS.out hb)
    replace HBS := Lib.hid (rdi_below HBS.out hb)
    replace HRS := Lib.hid (RdSS.below HRS.out hb)
    clear hb
    cases ok with
    | false =>
      go_wp2
      go_ret
      exact ⟨rfl, HB.out⟩
    | true =>
      obtain ⟨m, rfl⟩ := nat_of (goodTown_true (goodMv_true (askM_true HOKH.out).1).1).1
      obtain ⟨hi1, ⟨z, hz, hza⟩, hv2, hcn⟩ := moves_is HOKH.out
      rw [HFH.out] at hi1 hz hv2 hcn
      rw [HMOH.out] at hcn
      have HI1 : Hid ((isFillingV m T1 P1 Q1 a1 F).1 = true) := Lib.hid (by rw [hi1])
      have HI2 : Hid ((isFillingV m T1 P1 Q1 a1 F).2 = true) := Lib.hid (by rw [hi1])
      have HZ1 : Hid ((slowestMoveV m T1 P1 Q1 F).1 = z) := Lib.hid (by rw [hz])
      have HZ2 : Hid ((slowestMoveV m T1 P1 Q1 F).2 = true) := Lib.hid (by rw [hz])
      obtain ⟨V, hV⟩ : ∃ x, (coveredAfterV m T1 P1 Q1 a1 F).1 = x := ⟨_, rfl⟩
      have HV1 := Lib.hid hV
      have HV2 := Lib.hid hv2
      have HCN := Lib.hid hcn
      clear hi1 hz hv2 hcn hV
      have t0 := K1.out.cellAt 0 (by omega)
      have t1 := K1.out.cellAt 1 (by omega)
      dsimp only [List.getElem?_cons_zero, List.getElem?_cons_succ] at t0 t1
      go_wp2_with fail
      refine (isFillingI_c m _ T1 vP1 P1 _ Q1 a1 _ F _ HT1.out HP1.out HQ1.out HFI.out).mono ?_; rw [HI1.out, HI2.out]; rintro e w11 ⟨rfl, hb⟩
      clear t0 t1
      replace HB := Lib.hid (bel_then HB.out hb)
      replace HT1 := Lib.hid (rd_below HT1.out hb)
      replace HP1 := Lib.hid (rdi_below HP1.out hb)
      replace HQ1 := Lib.hid (rdi_below HQ1.out hb)
      replace K1 := Lib.hid (own_below K1.out hb)
      replace HFI := Lib.hid (rdi_below HFI.out hb)
      replace HFS := Lib.hid (rdi_below HFS.out hb)
      replace HBS := Lib.hid (rdi_below HBS.out hb)
      replace HRS := Lib.hid (RdSS.below HRS.out hb)
      clear hb
      have t0 := K1.out.cellAt 0 (by omega)
      have t1 := K1.out.cellAt 1 (by omega)
      dsimp only [List.getElem?_cons_zero, List.getElem?_cons_succ] at t0 t1
      go_wp2_with fail
      refine (slowestMoveI_c m _ T1 vP1 P1 _ Q1 _ F _ HT1.out HP1.out HQ1.out HFI.out).mono ?_; rw [HZ1.out, HZ2.out]; rintro e w12 ⟨rfl, hb⟩
      clear t0 t1
      replace HB := Lib.hid (bel_then HB.out hb)
      replace HT1 := Lib.hid (rd_below HT1.out hb)
      replace HP1 := Lib.hid (rdi_below HP1.out hb)
      replace HQ1 := Lib.hid (rdi_below HQ1.out hb)
      replace K1 := Lib.hid (own_below K1.out hb)
      replace HFI := Lib.hid (rdi_below HFI.out hb)
      replace HFS := Lib.hid (rdi_below HFS.out hb)
      replace HBS := Lib.hid (rdi_below HBS.out hb)
      replace HRS := Lib.hid (RdSS.below HRS.out hb)
      clear hb
      have t0 := K1.out.cellAt 0 (by omega)
      have t1 := K1.out.cellAt 1 (by omega)
      dsimp only [List.getElem?_cons_zero, List.getElem?_cons_succ] at t0 t1
      go_wp2_with fail
      refine (slowestMoveS_c m _ T1 vP1 P1 _ Q1 _ F _ HT1.out HP1.out HQ1.out HFS.out).mono ?_; rw [HZ1.out, HZ2.out]; rintro e w13 ⟨rfl, hb⟩
      clear t0 t1
      replace HB := Lib.hid (bel_then HB.out hb)
      replace HT1 := Lib.hid (rd_below HT1.out hb)
      replace HP1 := Lib.hid (rdi_below HP1.out hb)
      replace HQ1 := Lib.hid (rdi_below HQ1.out hb)
      replace K1 := Lib.hid (own_below K1.out hb)
      replace HFI := Lib.hid (rdi_below HFI.out hb)
      replace HFS := Lib.hid (rdi_below HFS.out hb)
      replace HBS := Lib.hid (rdi_below HBS.out hb)
      replace HRS := Lib.hid (RdSS.below HRS.out hb)
      clear hb
      have t0 := K1.out.cellAt 0 (by omega)
      have t1 := K1.out.cellAt 1 (by omega)
      dsimp only [List.getElem?_cons_zero, List.getElem?_cons_succ] at t0 t1
      go_wp2_with fail
      refine (coveredAfterI_c m _ T1 vP1 P1 _ Q1 a1 _ F _ HT1.out HP1.out HQ1.out HFI.out).mono ?_; unfold OwnIB; rw [HV1.out, HV2.out]; rintro e w14 ⟨vHVI, rfl, ho, hb⟩
      clear t0 t1
      replace HB := Lib.hid (bel_then HB.out hb)
      replace HT1 := Lib.hid (rd_below HT1.out hb)
      replace HP1 := Lib.hid (rdi_below HP1.out hb)
      replace HQ1 := Lib.hid (rdi_below HQ1.out hb)
      replace K1 := Lib.hid (own_below K1.out hb)
      replace HFI := Lib.hid (rdi_below HFI.out hb)
      replace HFS := Lib.hid (rdi_below HFS.out hb)
      replace HBS := Lib.hid (rdi_below HBS.out hb)
      replace HRS := Lib.hid (RdSS.below HRS.out hb)
      clear hb
      have HVI := Lib.hid (rdi_own ho)
      clear ho
      have t0 := K1.out.cellAt 0 (by omega)
      have t1 := K1.out.cellAt 1 (by omega)
      dsimp only [List.getElem?_cons_zero, List.getElem?_cons_succ] at t0 t1
      go_wp2_with fail
      refine (coveredAfterS_c m _ T1 vP1 P1 _ Q1 a1 _ F _ HT1.out HP1.out HQ1.out HFS.out).mono ?_; unfold OwnIB; rw [HV1.out, HV2.out]; rintro e w15 ⟨vHVS, rfl, ho, hb⟩
      clear t0 t1
      replace HB := Lib.hid (bel_then HB.out hb)
      replace HT1 := Lib.hid (rd_below HT1.out hb)
      replace HP1 := Lib.hid (rdi_below HP1.out hb)
      replace HQ1 := Lib.hid (rdi_below HQ1.out hb)
      replace K1 := Lib.hid (own_below K1.out hb)
      replace HFI := Lib.hid (rdi_below HFI.out hb)
      replace HFS := Lib.hid (rdi_below HFS.out hb)
      replace HBS := Lib.hid (rdi_below HBS.out hb)
      replace HRS := Lib.hid (RdSS.below HRS.out hb)
      replace HVI := Lib.hid (rdi_below HVI.out hb)
      clear hb
      have HVS := Lib.hid (rdi_own ho)
      clear ho
      have n1x : (z != z) = false := by simp
      obtain ⟨wN, rfl⟩ : ∃ x : World, x = w15 := ⟨_, rfl⟩
      go_upto_region 21 with fail
      go_cut [264] from 227 to 264 (fun v wx => v = .bool false ∧ Below wN.heap.size wN wx)
      case first =>
        have HZ := Lib.hid (Below.refl wN.heap.size wN)
        go_wp2_with fail
        refine (qInts_c _ _ V V _ HVI.out HVS.out).mono ?_; rw [decide_eq_true rfl]; rintro e w16 ⟨rfl, hb⟩
        replace HZ := Lib.hid (bel_then HZ.out hb)
        replace HB := Lib.hid (bel_then HB.out hb)
        replace HT1 := Lib.hid (rd_below HT1.out hb)
        replace HP1 := Lib.hid (rdi_below HP1.out hb)
        replace HQ1 := Lib.hid (rdi_below HQ1.out hb)
        replace K1 := Lib.hid (own_below K1.out hb)
        replace HFI := Lib.hid (rdi_below HFI.out hb)
        replace HFS := Lib.hid (rdi_below HFS.out hb)
        replace HBS := Lib.hid (rdi_below HBS.out hb)
        replace HRS := Lib.hid (RdSS.below HRS.out hb)
        replace HVI := Lib.hid (rdi_below HVI.out hb)
        replace HVS := Lib.hid (rdi_below HVS.out hb)
        clear hb
        go_wp2_with fail
        go_meet
        exact ⟨rfl, HZ.out⟩
      case rest => as_aux_lemma =>
        obtain ⟨rfl, hb⟩ := hcut
        clear HVI HVS HFI HT1 HP1 HQ1 K1 n1x hza HI1 HI2 HZ1 HZ2 HV1 HV2
        replace HB := Lib.hid (bel_then HB.out hb)
        replace HFS := Lib.hid (rdi_below HFS.out hb)
        replace HBS := Lib.hid (rdi_below HBS.out hb)
        replace HRS := Lib.hid (RdSS.below HRS.out hb)
        clear hb
        obtain ⟨wY, rfl⟩ : ∃ x : World, x = wc := ⟨_, rfl⟩
        obtain ⟨Af, cf, rfl, hcf, hmf, hclf⟩ := HFS.out
        obtain ⟨Ab, cb, rfl, hcb, hmb, hclb⟩ := HBS.out
        rw [maxLen_eq] at hmf hmb
        have HCF := Lib.hid hclf
        have HCB := Lib.hid hclb
        clear hclf hclb
        go_wp2_with fail
        go_loopw [35, 267] (fun vn vi wr => ∃ j N : Nat, j ≤ F.length ∧ N ≤ j ∧ vi = .int .i64 j ∧ vn = .int .i64 N ∧ Hid (cntR (F.take j) = N) ∧ Hid (Below wY.heap.size wY wr)) (fun _ vi _ => F.length - (intOf vi).toNat)
        case atStart => exact ⟨0, 0, Nat.zero_le _, Nat.le_refl _, rfl, rfl, Lib.hid rfl, Lib.hid (Below.refl _ _)⟩
        case round =>
          obtain ⟨j, N, hj, hNj, rfl, rfl, HN, HBL⟩ := hrel
          obtain ⟨wA, rfl⟩ : ∃ wA : World, wA = wr := ⟨_, rfl⟩
          have i0 : (0 : Int) ≤ (j : Int) := by omega
          by_cases hlt : j < F.length
          · obtain ⟨bF, offF, rfl, hbF, hclF⟩ := HCF.out (by omega)
            obtain ⟨x, hx⟩ : ∃ x, F[j]? = some x := ⟨_, List.getElem?_eq_getElem hlt⟩
            have cx := cell_at hclF HBL.out hbF (ints_get hx)
            have i1 : (j : Int) < (F.length : Int) := by omega
            have HS := Lib.hid (cntR_snoc hx)
            clear hx hclF
            by_cases h0 : 0 ≤ x
            · go_wp2
              exact ⟨⟨j + 1, N + 1, by omega, by omega, by go_num, by go_num, Lib.hid (by rw [HS.out, HN.out, if_pos h0]), HBL⟩, by simp [intOf]; omega⟩
            · have h1 : x < 0 := by omega
              go_wp2
              exact ⟨⟨j + 1, N, by omega, by omega, by go_num, by go_num, Lib.hid (by rw [HS.out, HN.out, if_neg h0]; rfl), HBL⟩, by simp [intOf]; omega⟩
          · obtain rfl : j = F.length := by omega
            have e1 : ((N : Int) != mo) = false := by
              have h := HN.out
              rw [List.take_length] at h
              rw [← h, HCN.out]; simp
            replace HB := Lib.hid (bel_then HB.out HBL.out)
            replace HBS := Lib.hid (rdi_below HBS.out HBL.out)
            replace HRS := Lib.hid (RdSS.below HRS.out HBL.out)
            replace HCB := Lib.hid (cells_below HCB.out HBL.out)
            clear HN HBL HCN HFS HCF i0 hlt
            cases th with
            | false =>
              go_wp2
              go_ret
              exact ⟨rfl, HB.out⟩
            | true =>
              obtain ⟨hless, h7⟩ := movL_less HTHH.out
              rw [HTBH.out, HBLH.out] at hless h7
              have HIN : Hid (∀ x ∈ BL, ∃ i : Nat, x = (i : Int) ∧ i < TB.length) := Lib.hid (by have h := @blk_in m T1 P1 Q1 a1; rw [HTBH.out, HBLH.out] at h; exact h)
              have HM7 : Hid (Mov7 TB) := Lib.hid (by have h := @mov7_V m T1 P1 Q1 a1; rw [HTBH.out] at h; exact h)
              obtain ⟨vs, hsv⟩ := HRS.out
              have HSV := Lib.hid hsv
              obtain ⟨At, ct, rfl, hct, hmt, hclt⟩ := hsv.outer
              rw [maxLen_eq] at hmt
              have HCT := Lib.hid hclt
              have hvl := hsv.len
              clear hsv hclt hct
              obtain ⟨i0, hi, hz0, hz1, hz2⟩ := info_parts Try.infoInt
              obtain ⟨wQ, rfl⟩ : ∃ x : World, x = wA := ⟨_, rfl⟩
              go_upto_region 34 with fail
              clear e1
              go_wp2_with fail
              go_loopw [38, 282] (fun vm vi wr => ∃ (k : Nat) (M : List Int) (A : Option Addr) (c : Nat), k ≤ BL.length ∧ vi = .int .i64 k ∧ vm = .slice A M.length c ∧ Hid (movL TB (BL.take k) = M) ∧ Hid (wr.ownsRow wQ.heap.size 3 1 (.slice A M.length c) M.length (ints M)) ∧ Hid (Below wQ.heap.size wQ wr)) (fun _ vi _ => BL.length - (intOf vi).toNat)
              case atStart => exact ⟨0, [], none, 0, Nat.zero_le _, rfl, rfl, Lib.hid rfl, Lib.hid (World.ownsRow_nil _ _ _ _), Lib.hid (Below.refl _ _)⟩
              case round =>
                obtain ⟨k, M, A, c, hk, rfl, rfl, HM, HOW, HBL⟩ := hrel
                obtain ⟨wB, rfl⟩ : ∃ wB : World, wB = wr := ⟨_, rfl⟩
                have k0 : (0 : Int) ≤ (k : Int) := by omega
                by_cases hlt : k < BL.length
                · obtain ⟨bB, offB, rfl, hbB, hclB⟩ := HCB.out (by omega)
                  obtain ⟨x, hx⟩ : ∃ x, BL[k]? = some x := ⟨_, List.getElem?_eq_getElem hlt⟩
                  obtain ⟨i, rfl, hiT⟩ := HIN.out x (List.mem_of_getElem? hx)
                  have cx := cell_at hclB HBL.out hbB (ints_get hx)
                  have k1 : (k : Int) < (BL.length : Int) := by omega
                  obtain ⟨bT, offT, rfl, hbT, hclT⟩ := HCT.out (by omega)
                  obtain ⟨u, hu⟩ : ∃ u, vs[i]? = some u := ⟨_, List.getElem?_eq_getElem (by omega)⟩
                  obtain ⟨row, hrow⟩ : ∃ row, TB[i]? = some row := ⟨_, List.getElem?_eq_getElem hiT⟩
                  have cu := cell_at hclT HBL.out hbT hu
                  have x0 : (0 : Int) ≤ (i : Int) := by omega
                  have x1 : (i : Int) < (TB.length : Int) := by omega
                  obtain ⟨Ar, cr, rfl, hcr, hmr, hclr⟩ := HSV.out.inner i u row hu hrow
                  rw [maxLen_eq] at hmr
                  have HCR := Lib.hid hclr
                  have HSN := Lib.hid (mov_snoc hx hrow)
                  have HMI := Lib.hid (List.mem_of_getElem? hrow)
                  clear hclB hclT hclr hx hu hrow
                  go_wp2_with fail
                  clear cx cu
                  go_loopw [38, 291] (fun vm vi wr => ∃ (j : Nat) (M' : List Int) (A : Option Addr) (c : Nat), j ≤ row.length ∧ vi = .int .i64 j ∧ vm = .slice A M'.length c ∧ Hid ((row.take j).foldl addU M = M') ∧ Hid (wr.ownsRow wQ.heap.size 3 1 (.slice A M'.length c) M'.length (ints M')) ∧ Hid (Below wQ.heap.size wQ wr)) (fun _ vi _ => row.length - (intOf vi).toNat)
                  case atStart => exact ⟨0, M, A, c, Nat.zero_le _, rfl, rfl, Lib.hid rfl, HOW, HBL⟩
                  case round =>
                    obtain ⟨j, M', A', c', hj, rfl, rfl, HM', HOW', HBL'⟩ := hrel
                    obtain ⟨wC, rfl⟩ : ∃ wC : World, wC = wr := ⟨_, rfl⟩
                    have j0 : (0 : Int) ≤ (j : Int) := by omega
                    have hM7 : M'.length ≤ 7 := by rw [← HM'.out, ← HM.out]; exact mov_len HM7.out _ row HMI.out j
                    by_cases hltj : j < row.length
                    · obtain ⟨bR, offR, rfl, hbR, hclR⟩ := HCR.out (by omega)
                      obtain ⟨y, hy⟩ : ∃ y, row[j]? = some y := ⟨_, List.getElem?_eq_getElem hltj⟩
                      have cy := cell_at hclR HBL'.out hbR (ints_get hy)
                      have j1 : (j : Int) < (row.length : Int) := by omega
                      have HSJ := Lib.hid (show (row.take (j + 1)).foldl addU M = addU M' y by rw [take_succ_of hy, List.foldl_append, HM'.out]; rfl)
                      clear hclR hy
                      cases hq : decide (y ∈ M') with
                      | true =>
                        have HQ := Lib.hid hq
                        clear hq
                        go_wp2_with fail
                        refine (qHas_c _ M' y _ (rdi_own HOW'.out)).mono ?_; rw [HQ.out]; rintro e wK ⟨rfl, hb⟩
                        replace HOW' := Lib.hid (own_below HOW'.out hb)
                        replace HBL' := Lib.hid (bel_then HBL'.out hb)
                        clear hb
                        go_wp2
                        exact ⟨⟨j + 1, M', A', c', by omega, by go_num, rfl, Lib.hid (by rw [HSJ.out, addU_yes HQ.out]), HOW', HBL'⟩, by simp [intOf]; omega⟩
                      | false =>
                        have HQ := Lib.hid hq
                        clear hq
                        go_wp2_with fail
                        refine (qHas_c _ M' y _ (rdi_own HOW'.out)).mono ?_; rw [HQ.out]; rintro e wK ⟨rfl, hb⟩
                        replace HOW' := Lib.hid (own_below HOW'.out hb)
                        replace HBL' := Lib.hid (bel_then HBL'.out hb)
                        clear hb
                        have hlow := HOW'.out.lt
                        have hsz := HBL'.out.size
                        go_wp2_with (at_builtin; refine wpList_app_rd _ rfl _ _ 27 rfl wQ.heap.size 3 i0 (.int .i64 0) 1 8 Try.underlying27 hi hz0 hz1 hz2 rfl (by decide) _ _ _ rfl (HOW'.out.alloc _) _ 1 [.int .i64 y] rfl (rd_new _ rfl (Nat.le_refl _) (by rw [maxLen_eq]; omega)) rfl (ints_one [y]) (by rw [maxLen_eq]; omega) (by omega) (by simp; omega) ?_; intro v7 w7 hown7 hgrow7 _)
                        obtain ⟨A7, c7, rfl, _⟩ := own_rd hown7
                        have hg7 : Below wQ.heap.size wQ w7 := bel_grown (bel_al HBL'.out _) hgrow7 (fun q e => (hlow q e).1)
                        refine ⟨⟨j + 1, M' ++ [y], A7, c7, by omega, by go_num, by simp, Lib.hid (by rw [HSJ.out, addU_no HQ.out]), Lib.hid ?_, Lib.hid hg7⟩, by simp [intOf]; omega⟩
                        rw [ints_append, List.length_append]; exact hown7
                    · obtain rfl : j = row.length := by omega
                      go_wp2
                      exact ⟨⟨k + 1, M', A', c', by omega, by go_num, rfl, Lib.hid (by rw [HSN.out, HM.out, ← HM'.out, List.take_length]), HOW', HBL'⟩, by simp [intOf]; omega⟩
                · obtain rfl : k = BL.length := by omega
                  have hMl : M.length < BL.length := by rw [← HM.out, List.take_length]; exact hless
                  have hMi : (M.length : Int) < (BL.length : Int) := by omega
                  replace HB := Lib.hid (bel_then HB.out HBL.out)
                  go_wp2
                  go_ret
                  exact ⟨rfl, HB.out⟩
end Go.Proofs.Ytahehdgkbhjpoaa
