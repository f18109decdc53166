/-
  The walk of FnFillings (printed by gen_filw.py). (joined by pack.py: FilW)
-/
import Derived.Test.YtahehdgkbhjpoaaGreatDoorK14
import Derived.Test.YtahehdgkbhjpoaaGreatDoorK23
import Derived.Test.YtahehdgkbhjpoaaGreatDoorK5
import Derived.Test.YtahehdgkbhjpoaaGreatDoorK26
import Derived.Test.YtahehdgkbhjpoaaGreatDoorK29
import Derived.Test.YtahehdgkbhjpoaaGreatDoorK13
import Derived.Test.YtahehdgkbhjpoaaGreatDoorK11
import Derived.BigRegion
import Derived.Deep.CutRange
namespace Go.Proofs.YtahehdgkbhjpoaaGreatDoor
set_option linter.unusedVariables false
set_option linter.unusedSimpArgs false
open Go.RowKit

set_option maxRecDepth 100000 in
set_option maxHeartbeats 4000000 in
theorem walk_FnFillings (w : World) (v0 : Value) (l0 : List Int) (hr0 : Rd w v0 l0.length (bys l0)) (hw0 : BytesOk l0 ∧ l0.length ≤ 9223372036854775807) (v1 : Value) (l1 : List Int) (hr1 : Rd w v1 l1.length (bys l1)) (hw1 : BytesOk l1 ∧ l1.length ≤ 9223372036854775807) :
    Calls Tryz.prog 3 #[v0, v1] w fun en w' => en = .returned (.bool true) ∧ Below w.heap.size w w' := by
  obtain ⟨ho0, hn0⟩ := hw0
  obtain ⟨ho1, hn1⟩ := hw1
  have HR0 := Lib.hid hr0
  have HR1 := Lib.hid hr1
  have HO0 := Lib.hid ho0
  have HO1 := Lib.hid ho1
  have HB := Lib.hid (Below.refl w.heap.size w)
  obtain ⟨A0, c0, rfl, -⟩ := hr0
  obtain ⟨A1, c1, rfl, -⟩ := hr1
  clear ho0 ho1
  obtain ⟨X, hX⟩ : ∃ X, IntKind.i64.wrap ((l0.length : Int) + (l1.length : Int)) = X := ⟨_, rfl⟩
  by_cases hbig : 1048576 < X
  · go_enter Tryz.func3, Tryz.ntmps3
    go_wp2
    go_ret
    exact ⟨rfl, Below.refl _ _⟩
  have hbig2 : X ≤ 1048576 := by omega
  clear hbig
  go_enter Tryz.func3, Tryz.ntmps3
  go_wp2_with fail
  refine (drawLeastFillLimit_c _ l0 hn0 HO0.out _ (rd_below HR0.out HB.out)).mono ?_; rintro e w1 ⟨⟨n1, s1, T1, vP1, P1, vQ1, Q1, rfl, hT1, hP1, hQ1⟩, hb⟩
  replace HB := Lib.hid (bel_then HB.out hb)
  clear hb
  have HT1 := Lib.hid hT1
  clear hT1
  have HP1 := Lib.hid hP1
  clear hP1
  have HQ1 := Lib.hid hQ1
  clear hQ1
  obtain ⟨As1, cs1, rfl, -⟩ := HT1.out
  obtain ⟨Aq, cq, rfl, -⟩ := HQ1.out
  go_upto_region 4 with fail
  generalize hW : World.alloc w1 _ = w2
  have hr0 : w2.ownsRow w1.heap.size 25 2 (.slice (some ⟨w1.heap.size, 0, none⟩) 1 1) 1 [.int .i64 n1, .slice As1 T1.length cs1] := by subst hW; exact row_new w1 [.int .i64 n1, .slice As1 T1.length cs1] _ 1 2 rfl (by omega) (by omega)
  have hb : Below w1.heap.size w1 w2 := by subst hW; exact bel_al (Below.refl _ _) _
  clear hW
  replace HB := Lib.hid (bel_then HB.out hb)
  replace HT1 := Lib.hid (rd_below HT1.out hb)
  replace HP1 := Lib.hid (rdi_below HP1.out hb)
  replace HQ1 := Lib.hid (rdi_below HQ1.out hb)
  clear hb
  obtain ⟨RK1, hRK1⟩ : ∃ R, w1.heap.size = R := ⟨_, rfl⟩
  rw [hRK1] at hr0 ⊢
  clear hRK1
  have K1 := Lib.hid hr0
  clear hr0
  obtain ⟨LL, hLL⟩ : ∃ z, (leastFillLimitV n1 T1 P1 Q1).1 = z := ⟨_, rfl⟩
  obtain ⟨ok, hok⟩ : ∃ z, (leastFillLimitV n1 T1 P1 Q1).2 = z := ⟨_, rfl⟩
  have t0 := K1.out.cellAt 0 (by omega)
  have t1 := K1.out.cellAt 1 (by omega)
  dsimp only [List.getElem?_cons_zero, List.getElem?_cons_succ] at t0 t1
  go_wp2_with fail
  refine (leastFillLimitI_c n1 _ T1 vP1 P1 _ Q1 _ HT1.out HP1.out HQ1.out).mono ?_; rw [hLL, hok]; rintro e w3 ⟨rfl, hb⟩
  clear t0 t1
  replace HB := Lib.hid (bel_then HB.out hb)
  replace HT1 := Lib.hid (rd_below HT1.out hb)
  replace HP1 := Lib.hid (rdi_below HP1.out hb)
  replace HQ1 := Lib.hid (rdi_below HQ1.out hb)
  replace K1 := Lib.hid (own_below K1.out hb)
  clear hb
  have t0 := K1.out.cellAt 0 (by omega)
  have t1 := K1.out.cellAt 1 (by omega)
  dsimp only [List.getElem?_cons_zero, List.getElem?_cons_succ] at t0 t1
  go_wp2_with fail
  refine (leastFillLimitS_c n1 _ T1 vP1 P1 _ Q1 _ HT1.out HP1.out HQ1.out).mono ?_; rw [hLL, hok]; rintro e w4 ⟨rfl, hb⟩
  clear t0 t1
  replace HB := Lib.hid (bel_then HB.out hb)
  replace HT1 := Lib.hid (rd_below HT1.out hb)
  replace HP1 := Lib.hid (rdi_below HP1.out hb)
  replace HQ1 := Lib.hid (rdi_below HQ1.out hb)
  replace K1 := Lib.hid (own_below K1.out hb)
  clear hb
  have HLLH := Lib.hid hLL
  clear hLL
  have HOKH := Lib.hid hok
  clear hok
  go_wp2_with fail
  refine (drawIsFilling_c _ l1 hn1 HO1.out _ (rd_below HR1.out HB.out)).mono ?_; rintro e w5 ⟨⟨n2, s2, T2, vP2, P2, vQ2, Q2, a2, vX2, X2, rfl, hT2, hP2, hQ2, hX2⟩, hb⟩
  replace HB := Lib.hid (bel_then HB.out hb)
  replace HT1 := Lib.hid (rd_below HT1.out hb)
  replace HP1 := Lib.hid (rdi_below HP1.out hb)
  replace HQ1 := Lib.hid (rdi_below HQ1.out hb)
  replace K1 := Lib.hid (own_below K1.out hb)
  clear hb
  have HT2 := Lib.hid hT2
  clear hT2
  have HP2 := Lib.hid hP2
  clear hP2
  have HQ2 := Lib.hid hQ2
  clear hQ2
  have HX2 := Lib.hid hX2
  clear hX2
  obtain ⟨As2, cs2, rfl, -⟩ := HT2.out
  go_upto_region 7 with fail
  generalize hW : World.alloc w5 _ = w6
  have hr0 : w6.ownsRow w5.heap.size 25 2 (.slice (some ⟨w5.heap.size, 0, none⟩) 1 1) 1 [.int .i64 n2, .slice As2 T2.length cs2] := by subst hW; exact row_new w5 [.int .i64 n2, .slice As2 T2.length cs2] _ 1 2 rfl (by omega) (by omega)
  have hb : Below w5.heap.size w5 w6 := by subst hW; exact bel_al (Below.refl _ _) _
  clear hW
  replace HB := Lib.hid (bel_then HB.out hb)
  replace HT1 := Lib.hid (rd_below HT1.out hb)
  replace HP1 := Lib.hid (rdi_below HP1.out hb)
  replace HQ1 := Lib.hid (rdi_below HQ1.out hb)
  replace K1 := Lib.hid (own_below K1.out hb)
  replace HT2 := Lib.hid (rd_below HT2.out hb)
  replace HP2 := Lib.hid (rdi_below HP2.out hb)
  replace HQ2 := Lib.hid (rdi_below HQ2.out hb)
  replace HX2 := Lib.hid (rdi_below HX2.out hb)
  clear hb
  obtain ⟨RK2, hRK2⟩ : ∃ R, w5.heap.size = R := ⟨_, rfl⟩
  rw [hRK2] at hr0 ⊢
  clear hRK2
  have K2 := Lib.hid hr0
  clear hr0
  obtain ⟨is, his⟩ : ∃ z, (isFillingV n2 T2 P2 Q2 a2 X2).1 = z := ⟨_, rfl⟩
  obtain ⟨one, hone⟩ : ∃ z, (isFillingV n2 T2 P2 Q2 a2 X2).2 = z := ⟨_, rfl⟩
  obtain ⟨z, hz⟩ : ∃ z, (slowestMoveV n2 T2 P2 Q2 X2).1 = z := ⟨_, rfl⟩
  obtain ⟨three, hthree⟩ : ∃ z, (slowestMoveV n2 T2 P2 Q2 X2).2 = z := ⟨_, rfl⟩
  obtain ⟨C, hC⟩ : ∃ z, (coveredAfterV n2 T2 P2 Q2 a2 X2).1 = z := ⟨_, rfl⟩
  have hfive : (coveredAfterV n2 T2 P2 Q2 a2 X2).2 = (one && is) := by rw [after_snd, his, hone]
  have t0 := K2.out.cellAt 0 (by omega)
  have t1 := K2.out.cellAt 1 (by omega)
  dsimp only [List.getElem?_cons_zero, List.getElem?_cons_succ] at t0 t1
  go_wp2_with fail
  refine (isFillingI_c n2 _ T2 vP2 P2 _ Q2 a2 _ X2 _ HT2.out HP2.out HQ2.out HX2.out).mono ?_; rw [his, hone]; rintro e w7 ⟨rfl, hb⟩
  clear t0 t1
  replace HB := Lib.hid (bel_then HB.out hb)
  replace HT1 := Lib.hid (rd_below HT1.out hb)
  replace HP1 := Lib.hid (rdi_below HP1.out hb)
  replace HQ1 := Lib.hid (rdi_below HQ1.out hb)
  replace K1 := Lib.hid (own_below K1.out hb)
  replace HT2 := Lib.hid (rd_below HT2.out hb)
  replace HP2 := Lib.hid (rdi_below HP2.out hb)
  replace HQ2 := Lib.hid (rdi_below HQ2.out hb)
  replace HX2 := Lib.hid (rdi_below HX2.out hb)
  replace K2 := Lib.hid (own_below K2.out hb)
  clear hb
  have t0 := K2.out.cellAt 0 (by omega)
  have t1 := K2.out.cellAt 1 (by omega)
  dsimp only [List.getElem?_cons_zero, List.getElem?_cons_succ] at t0 t1
  go_wp2_with fail
  refine (isFillingS_c n2 _ T2 vP2 P2 _ Q2 a2 _ X2 _ HT2.out HP2.out HQ2.out HX2.out).mono ?_; rw [his, hone]; rintro e w8 ⟨rfl, hb⟩
  clear t0 t1
  replace HB := Lib.hid (bel_then HB.out hb)
  replace HT1 := Lib.hid (rd_below HT1.out hb)
  replace HP1 := Lib.hid (rdi_below HP1.out hb)
  replace HQ1 := Lib.hid (rdi_below HQ1.out hb)
  replace K1 := Lib.hid (own_below K1.out hb)
  replace HT2 := Lib.hid (rd_below HT2.out hb)
  replace HP2 := Lib.hid (rdi_below HP2.out hb)
  replace HQ2 := Lib.hid (rdi_below HQ2.out hb)
  replace HX2 := Lib.hid (rdi_below HX2.out hb)
  replace K2 := Lib.hid (own_below K2.out hb)
  clear hb
  have t0 := K2.out.cellAt 0 (by omega)
  have t1 := K2.out.cellAt 1 (by omega)
  dsimp only [List.getElem?_cons_zero, List.getElem?_cons_succ] at t0 t1
  go_wp2_with fail
  refine (slowestMoveI_c n2 _ T2 vP2 P2 _ Q2 _ X2 _ HT2.out HP2.out HQ2.out HX2.out).mono ?_; rw [hz, hthree]; rintro e w9 ⟨rfl, hb⟩
  clear t0 t1
  replace HB := Lib.hid (bel_then HB.out hb)
  replace HT1 := Lib.hid (rd_below HT1.out hb)
  replace HP1 := Lib.hid (rdi_below HP1.out hb)
  replace HQ1 := Lib.hid (rdi_below HQ1.out hb)
  replace K1 := Lib.hid (own_below K1.out hb)
  replace HT2 := Lib.hid (rd_below HT2.out hb)
  replace HP2 := Lib.hid (rdi_below HP2.out hb)
  replace HQ2 := Lib.hid (rdi_below HQ2.out hb)
  replace HX2 := Lib.hid (rdi_below HX2.out hb)
  replace K2 := Lib.hid (own_below K2.out hb)
  clear hb
  have t0 := K2.out.cellAt 0 (by omega)
  have t1 := K2.out.cellAt 1 (by omega)
  dsimp only [List.getElem?_cons_zero, List.getElem?_cons_succ] at t0 t1
  go_wp2_with fail
  refine (slowestMoveS_c n2 _ T2 vP2 P2 _ Q2 _ X2 _ HT2.out HP2.out HQ2.out HX2.out).mono ?_; rw [hz, hthree]; rintro e w10 ⟨rfl, hb⟩
  clear t0 t1
  replace HB := Lib.hid (bel_then HB.out hb)
  replace HT1 := Lib.hid (rd_below HT1.out hb)
  replace HP1 := Lib.hid (rdi_below HP1.out hb)
  replace HQ1 := Lib.hid (rdi_below HQ1.out hb)
  replace K1 := Lib.hid (own_below K1.out hb)
  replace HT2 := Lib.hid (rd_below HT2.out hb)
  replace HP2 := Lib.hid (rdi_below HP2.out hb)
  replace HQ2 := Lib.hid (rdi_below HQ2.out hb)
  replace HX2 := Lib.hid (rdi_below HX2.out hb)
  replace K2 := Lib.hid (own_below K2.out hb)
  clear hb
  have t0 := K2.out.cellAt 0 (by omega)
  have t1 := K2.out.cellAt 1 (by omega)
  dsimp only [List.getElem?_cons_zero, List.getElem?_cons_succ] at t0 t1
  go_wp2_with fail
  refine (coveredAfterI_c n2 _ T2 vP2 P2 _ Q2 a2 _ X2 _ HT2.out HP2.out HQ2.out HX2.out).mono ?_; unfold OwnIB; rw [hC, hfive]; rintro e w11 ⟨vHCI, rfl, ho, hb⟩
  clear t0 t1
  replace HB := Lib.hid (bel_then HB.out hb)
  replace HT1 := Lib.hid (rd_below HT1.out hb)
  replace HP1 := Lib.hid (rdi_below HP1.out hb)
  replace HQ1 := Lib.hid (rdi_below HQ1.out hb)
  replace K1 := Lib.hid (own_below K1.out hb)
  replace HT2 := Lib.hid (rd_below HT2.out hb)
  replace HP2 := Lib.hid (rdi_below HP2.out hb)
  replace HQ2 := Lib.hid (rdi_below HQ2.out hb)
  replace HX2 := Lib.hid (rdi_below HX2.out hb)
  replace K2 := Lib.hid (own_below K2.out hb)
  clear hb
  have HCI := Lib.hid (rdi_own ho)
  clear ho
  have t0 := K2.out.cellAt 0 (by omega)
  have t1 := K2.out.cellAt 1 (by omega)
  dsimp only [List.getElem?_cons_zero, List.getElem?_cons_succ] at t0 t1
  go_wp2_with fail
  refine (coveredAfterS_c n2 _ T2 vP2 P2 _ Q2 a2 _ X2 _ HT2.out HP2.out HQ2.out HX2.out).mono ?_; unfold OwnIB; rw [hC, hfive]; rintro e w12 ⟨vHCS, rfl, ho, hb⟩
  clear t0 t1
  replace HB := Lib.hid (bel_then HB.out hb)
  replace HT1 := Lib.hid (rd_below HT1.out hb)
  replace HP1 := Lib.hid (rdi_below HP1.out hb)
  replace HQ1 := Lib.hid (rdi_below HQ1.out hb)
  replace K1 := Lib.hid (own_below K1.out hb)
  replace HT2 := Lib.hid (rd_below HT2.out hb)
  replace HP2 := Lib.hid (rdi_below HP2.out hb)
  replace HQ2 := Lib.hid (rdi_below HQ2.out hb)
  replace HX2 := Lib.hid (rdi_below HX2.out hb)
  replace K2 := Lib.hid (own_below K2.out hb)
  replace HCI := Lib.hid (rdi_below HCI.out hb)
  clear hb
  have HCS := Lib.hid (rdi_own ho)
  clear ho
  have HISH := Lib.hid his
  clear his
  have HONEH := Lib.hid hone
  clear hone
  have HZH := Lib.hid hz
  clear hz
  have HTHREEH := Lib.hid hthree
  clear hthree
  have HCH := Lib.hid hC
  clear hC
  have HFIVEH := Lib.hid hfive
  clear hfive
  go_wp2_with fail
  refine (drawMovesText_c _ l1 hn1 HO1.out _ (rd_below HR1.out HB.out)).mono ?_; rintro e w13 ⟨⟨vA, PA, vB, PB, vD, PD, rfl, hA, hB9, hD⟩, hb⟩
  replace HB := Lib.hid (bel_then HB.out hb)
  replace HT1 := Lib.hid (rd_below HT1.out hb)
  replace HP1 := Lib.hid (rdi_below HP1.out hb)
  replace HQ1 := Lib.hid (rdi_below HQ1.out hb)
  replace K1 := Lib.hid (own_below K1.out hb)
  replace HT2 := Lib.hid (rd_below HT2.out hb)
  replace HP2 := Lib.hid (rdi_below HP2.out hb)
  replace HQ2 := Lib.hid (rdi_below HQ2.out hb)
  replace HX2 := Lib.hid (rdi_below HX2.out hb)
  replace K2 := Lib.hid (own_below K2.out hb)
  replace HCI := Lib.hid (rdi_below HCI.out hb)
  replace HCS := Lib.hid (rdi_below HCS.out hb)
  clear hb
  have HA := Lib.hid hA
  clear hA
  have HB9 := Lib.hid hB9
  clear hB9
  have HD9 := Lib.hid hD
  clear hD
  obtain ⟨S, hS⟩ : ∃ z, (movesTextV PA PB PD).1 = z := ⟨_, rfl⟩
  obtain ⟨sev, hsev⟩ : ∃ z, (movesTextV PA PB PD).2 = z := ⟨_, rfl⟩
  go_wp2_with fail
  refine (movesTextI_c _ PA _ PB _ PD _ HA.out HB9.out HD9.out).mono ?_; unfold MovesIs; rw [hS, hsev]; rintro e w14 ⟨rfl, hb⟩
  replace HB := Lib.hid (bel_then HB.out hb)
  replace HT1 := Lib.hid (rd_below HT1.out hb)
  replace HP1 := Lib.hid (rdi_below HP1.out hb)
  replace HQ1 := Lib.hid (rdi_below HQ1.out hb)
  replace K1 := Lib.hid (own_below K1.out hb)
  replace HT2 := Lib.hid (rd_below HT2.out hb)
  replace HP2 := Lib.hid (rdi_below HP2.out hb)
  replace HQ2 := Lib.hid (rdi_below HQ2.out hb)
  replace HX2 := Lib.hid (rdi_below HX2.out hb)
  replace K2 := Lib.hid (own_below K2.out hb)
  replace HCI := Lib.hid (rdi_below HCI.out hb)
  replace HCS := Lib.hid (rdi_below HCS.out hb)
  replace HA := Lib.hid (rdi_below HA.out hb)
  replace HB9 := Lib.hid (rdi_below HB9.out hb)
  replace HD9 := Lib.hid (rdi_below HD9.out hb)
  clear hb
  go_wp2_with fail
  refine (movesTextS_c _ PA _ PB _ PD _ HA.out HB9.out HD9.out).mono ?_; unfold MovesIs; rw [hS, hsev]; rintro e w15 ⟨rfl, hb⟩
  replace HB := Lib.hid (bel_then HB.out hb)
  replace HT1 := Lib.hid (rd_below HT1.out hb)
  replace HP1 := Lib.hid (rdi_below HP1.out hb)
  replace HQ1 := Lib.hid (rdi_below HQ1.out hb)
  replace K1 := Lib.hid (own_below K1.out hb)
  replace HT2 := Lib.hid (rd_below HT2.out hb)
  replace HP2 := Lib.hid (rdi_below HP2.out hb)
  replace HQ2 := Lib.hid (rdi_below HQ2.out hb)
  replace HX2 := Lib.hid (rdi_below HX2.out hb)
  replace K2 := Lib.hid (own_below K2.out hb)
  replace HCI := Lib.hid (rdi_below HCI.out hb)
  replace HCS := Lib.hid (rdi_below HCS.out hb)
  replace HA := Lib.hid (rdi_below HA.out hb)
  replace HB9 := Lib.hid (rdi_below HB9.out hb)
  replace HD9 := Lib.hid (rdi_below HD9.out hb)
  clear hb
  have HSH := Lib.hid hS
  clear hS
  have HSEVH := Lib.hid hsev
  clear hsev
  clear HA HB9 HD9
  have n1x : ∀ b : Bool, (b != b) = false := by simp
  have n2x := n1x ok
  have n3x := n1x three
  have n4x := n1x sev
  have n5x : (LL != LL) = false := by simp
  have n6x : (z != z) = false := by simp
  clear n1x
  obtain ⟨wN, rfl⟩ : ∃ x : World, x = w15 := ⟨_, rfl⟩
  go_upto_region 16 with fail
  go_cut [207] from 151 to 207 (fun v wx => v = .bool false ∧ Below wN.heap.size wN wx)
  case first =>
    have HZ := Lib.hid (Below.refl wN.heap.size wN)
    cases one with
    | false =>
      go_wp2_with fail
      refine (qInts_c _ _ C C _ HCI.out HCS.out).mono ?_; rw [decide_eq_true rfl]; rintro e w16 ⟨rfl, hb⟩
      replace HZ := Lib.hid (bel_then HZ.out hb)
      replace HB := Lib.hid (bel_then HB.out hb)
      replace HT1 := Lib.hid (rd_below HT1.out hb)
      replace HP1 := Lib.hid (rdi_below HP1.out hb)
      replace HQ1 := Lib.hid (rdi_below HQ1.out hb)
      replace K1 := Lib.hid (own_below K1.out hb)
      replace HT2 := Lib.hid (rd_below HT2.out hb)
      replace HP2 := Lib.hid (rdi_below HP2.out hb)
      replace HQ2 := Lib.hid (rdi_below HQ2.out hb)
      replace HX2 := Lib.hid (rdi_below HX2.out hb)
      replace K2 := Lib.hid (own_below K2.out hb)
      replace HCI := Lib.hid (rdi_below HCI.out hb)
      replace HCS := Lib.hid (rdi_below HCS.out hb)
      clear hb
      go_wp2_with fail
      go_meet
      exact ⟨rfl, HZ.out⟩
    | true =>
      cases is with
      | false =>
        go_wp2_with fail
        refine (qInts_c _ _ C C _ HCI.out HCS.out).mono ?_; rw [decide_eq_true rfl]; rintro e w16 ⟨rfl, hb⟩
        replace HZ := Lib.hid (bel_then HZ.out hb)
        replace HB := Lib.hid (bel_then HB.out hb)
        replace HT1 := Lib.hid (rd_below HT1.out hb)
        replace HP1 := Lib.hid (rdi_below HP1.out hb)
        replace HQ1 := Lib.hid (rdi_below HQ1.out hb)
        replace K1 := Lib.hid (own_below K1.out hb)
        replace HT2 := Lib.hid (rd_below HT2.out hb)
        replace HP2 := Lib.hid (rdi_below HP2.out hb)
        replace HQ2 := Lib.hid (rdi_below HQ2.out hb)
        replace HX2 := Lib.hid (rdi_below HX2.out hb)
        replace K2 := Lib.hid (own_below K2.out hb)
        replace HCI := Lib.hid (rdi_below HCI.out hb)
        replace HCS := Lib.hid (rdi_below HCS.out hb)
        clear hb
        go_wp2_with fail
        go_meet
        exact ⟨rfl, HZ.out⟩
      | true =>
        go_wp2_with fail
        refine (qInts_c _ _ C C _ HCI.out HCS.out).mono ?_; rw [decide_eq_true rfl]; rintro e w16 ⟨rfl, hb⟩
        replace HZ := Lib.hid (bel_then HZ.out hb)
        replace HB := Lib.hid (bel_then HB.out hb)
        replace HT1 := Lib.hid (rd_below HT1.out hb)
        replace HP1 := Lib.hid (rdi_below HP1.out hb)
        replace HQ1 := Lib.hid (rdi_below HQ1.out hb)
        replace K1 := Lib.hid (own_below K1.out hb)
        replace HT2 := Lib.hid (rd_below HT2.out hb)
        replace HP2 := Lib.hid (rdi_below HP2.out hb)
        replace HQ2 := Lib.hid (rdi_below HQ2.out hb)
        replace HX2 := Lib.hid (rdi_below HX2.out hb)
        replace K2 := Lib.hid (own_below K2.out hb)
        replace HCI := Lib.hid (rdi_below HCI.out hb)
        replace HCS := Lib.hid (rdi_below HCS.out hb)
        clear hb
        go_wp2_with fail
        go_meet
        exact ⟨rfl, HZ.out⟩
  case rest => as_aux_lemma =>
    obtain ⟨rfl, hb⟩ := hcut
    clear HCI HCS n2x n3x n4x n5x n6x
    replace HB := Lib.hid (bel_then HB.out hb)
    replace HT1 := Lib.hid (rd_below HT1.out hb)
    replace HP1 := Lib.hid (rdi_below HP1.out hb)
    replace HQ1 := Lib.hid (rdi_below HQ1.out hb)
    replace K1 := Lib.hid (own_below K1.out hb)
    replace HT2 := Lib.hid (rd_below HT2.out hb)
    replace HP2 := Lib.hid (rdi_below HP2.out hb)
    replace HQ2 := Lib.hid (rdi_below HQ2.out hb)
    replace HX2 := Lib.hid (rdi_below HX2.out hb)
    replace K2 := Lib.hid (own_below K2.out hb)
    clear hb
    obtain ⟨wY, rfl⟩ : ∃ x : World, x = wc := ⟨_, rfl⟩
    go_upto_if 208 with fail
    go_cut [243] from 36 to 243 (fun v wx => Below wY.heap.size wY wx)
    case first =>
      cases ok with
      | false => go_wp2_with fail; go_meet; exact Below.refl _ _
      | true =>
        have hgm : goodMv n1 T1 P1 Q1 = true := by
          have h := HOKH.out
          unfold leastFillLimitV at h
          split at h
          · assumption
          · cases h
        obtain ⟨m, rfl⟩ := nat_of (goodTown_true (goodMv_true hgm).1).1
        obtain ⟨hask, hmost, hL0, hL1, hless⟩ := fleast_is (Prod.ext HLLH.out HOKH.out : leastFillLimitV m T1 P1 Q1 = (LL, true))
        have HM1 := Lib.hid hmost
        have HM2 := Lib.hid (show (mostFilledV m T1 P1 Q1 LL).2 = true by rw [most_snd, hask])
        have HLESS := Lib.hid hless
        have HZ := Lib.hid (Below.refl wY.heap.size wY)
        have n1x : ((Q1.length : Int) != (Q1.length : Int)) = false := by simp
        clear hask hmost hless hgm
        have t0 := K1.out.cellAt 0 (by omega)
        have t1 := K1.out.cellAt 1 (by omega)
        dsimp only [List.getElem?_cons_zero, List.getElem?_cons_succ] at t0 t1
        go_wp2_with fail
        refine (mostFilledI_c m _ T1 vP1 P1 _ Q1 LL _ HT1.out HP1.out HQ1.out).mono ?_; rw [HM1.out, HM2.out]; rintro e w16 ⟨rfl, hb⟩
        clear t0 t1
        replace HZ := Lib.hid (bel_then HZ.out hb)
        replace HB := Lib.hid (bel_then HB.out hb)
        replace HT1 := Lib.hid (rd_below HT1.out hb)
        replace HP1 := Lib.hid (rdi_below HP1.out hb)
        replace HQ1 := Lib.hid (rdi_below HQ1.out hb)
        replace K1 := Lib.hid (own_below K1.out hb)
        replace HT2 := Lib.hid (rd_below HT2.out hb)
        replace HP2 := Lib.hid (rdi_below HP2.out hb)
        replace HQ2 := Lib.hid (rdi_below HQ2.out hb)
        replace HX2 := Lib.hid (rdi_below HX2.out hb)
        replace K2 := Lib.hid (own_below K2.out hb)
        clear hb
        by_cases hpos : 0 < LL
        · obtain ⟨hk1, hk2⟩ := HLESS.out hpos
          have s1 : IntKind.i64.wrap (LL - 1) = LL - 1 := IntWalk.i64_in _ (by omega)
          obtain ⟨Z, hZ⟩ : ∃ x, (mostFilledV m T1 P1 Q1 (LL - 1)).1 = x := ⟨_, rfl⟩
          rw [hZ] at hk2
          have HZZ := Lib.hid hZ
          have HZZ2 := Lib.hid (show (mostFilledV m T1 P1 Q1 (LL - 1)).2 = true by rw [most_snd, hk1])
          clear hk1 hZ
          have t0 := K1.out.cellAt 0 (by omega)
          have t1 := K1.out.cellAt 1 (by omega)
          dsimp only [List.getElem?_cons_zero, List.getElem?_cons_succ] at t0 t1
          go_wp2_with fail
          refine (mostFilledI_c m _ T1 vP1 P1 _ Q1 (LL - 1) _ HT1.out HP1.out HQ1.out).mono ?_; rw [HZZ.out, HZZ2.out]; rintro e w17 ⟨rfl, hb⟩
          clear t0 t1
          replace HZ := Lib.hid (bel_then HZ.out hb)
          replace HB := Lib.hid (bel_then HB.out hb)
          replace HT1 := Lib.hid (rd_below HT1.out hb)
          replace HP1 := Lib.hid (rdi_below HP1.out hb)
          replace HQ1 := Lib.hid (rdi_below HQ1.out hb)
          replace K1 := Lib.hid (own_below K1.out hb)
          replace HT2 := Lib.hid (rd_below HT2.out hb)
          replace HP2 := Lib.hid (rdi_below HP2.out hb)
          replace HQ2 := Lib.hid (rdi_below HQ2.out hb)
          replace HX2 := Lib.hid (rdi_below HX2.out hb)
          replace K2 := Lib.hid (own_below K2.out hb)
          clear hb
          go_wp2_with fail
          go_meet
          exact HZ.out
        · have hle : LL ≤ 0 := by omega
          go_wp2_with fail
          go_meet
          exact HZ.out
    case rest => as_aux_lemma =>
      have hb := hcut
      clear hcut HT1 HP1 HQ1 K1 HLLH HOKH
      replace HB := Lib.hid (bel_then HB.out hb)
      replace HT2 := Lib.hid (rd_below HT2.out hb)
      replace HP2 := Lib.hid (rdi_below HP2.out hb)
      replace HQ2 := Lib.hid (rdi_below HQ2.out hb)
      replace HX2 := Lib.hid (rdi_below HX2.out hb)
      replace K2 := Lib.hid (own_below K2.out hb)
      clear hb
      obtain ⟨wX, rfl⟩ : ∃ x : World, x = wc := ⟨_, rfl⟩
      cases one with
      | false =>
        go_wp2
        go_ret
        exact ⟨rfl, HB.out⟩
      | true =>
        cases is with
        | false =>
          go_wp2
          go_ret
          exact ⟨rfl, HB.out⟩
        | true =>
          have hfi : askM n2 T2 P2 Q2 a2 = true := by rw [← filling_snd n2 T2 P2 Q2 a2 X2]; exact HONEH.out
          obtain ⟨m, rfl⟩ := nat_of (goodTown_true (goodMv_true (askM_true hfi).1).1).1
          obtain ⟨hask, hfil⟩ := filling_true HISH.out
          obtain ⟨⟨z', hz', hza⟩, hcn⟩ := fil_is hask hfil
          have ez : z = z' := by rw [← HZH.out, hz']
          have e3 : three = true := by rw [← HTHREEH.out, hz']
          subst ez
          subst e3
          obtain ⟨mo, hmo⟩ : ∃ x, (mostFilledV m T2 P2 Q2 a2).1 = x := ⟨_, rfl⟩
          rw [hmo] at hcn
          have HMO := Lib.hid hmo
          have HMO2 := Lib.hid (show (mostFilledV m T2 P2 Q2 a2).2 = true by rw [most_snd, hask])
          have HCN := Lib.hid hcn
          clear hfi hask hfil hz' hmo hcn
          have t0 := K2.out.cellAt 0 (by omega)
          have t1 := K2.out.cellAt 1 (by omega)
          dsimp only [List.getElem?_cons_zero, List.getElem?_cons_succ] at t0 t1
          go_wp2_with fail
          refine (mostFilledI_c m _ T2 vP2 P2 _ Q2 a2 _ HT2.out HP2.out HQ2.out).mono ?_; rw [HMO.out, HMO2.out]; rintro e w16 ⟨rfl, hb⟩
          clear t0 t1
          replace HB := Lib.hid (bel_then HB.out hb)
          replace HT2 := Lib.hid (rd_below HT2.out hb)
          replace HP2 := Lib.hid (rdi_below HP2.out hb)
          replace HQ2 := Lib.hid (rdi_below HQ2.out hb)
          replace HX2 := Lib.hid (rdi_below HX2.out hb)
          replace K2 := Lib.hid (own_below K2.out hb)
          clear hb
          obtain ⟨wQ, rfl⟩ : ∃ x : World, x = w16 := ⟨_, rfl⟩
          obtain ⟨Af, cf, rfl, hcf, hmf, hclf⟩ := HX2.out
          rw [maxLen_eq] at hmf
          have HCF := Lib.hid hclf
          clear hclf
          go_upto_region 29 with fail
          go_wp2_with fail
          go_loopw [42, 258] (fun vn vi wr => ∃ j N : Nat, j ≤ X2.length ∧ N ≤ j ∧ vi = .int .i64 j ∧ vn = .int .i64 N ∧ Hid (cntR (X2.take j) = N) ∧ Hid (Below wQ.heap.size wQ wr)) (fun _ vi _ => X2.length - (intOf vi).toNat)
          case atStart => exact ⟨0, 0, Nat.zero_le _, Nat.le_refl _, rfl, rfl, Lib.hid rfl, Lib.hid (Below.refl _ _)⟩
          case round =>
            obtain ⟨j, N, hj, hNj, rfl, rfl, HN, HBL⟩ := hrel
            obtain ⟨wA, rfl⟩ : ∃ wA : World, wA = wr := ⟨_, rfl⟩
            have i0 : (0 : Int) ≤ (j : Int) := by omega
            by_cases hlt : j < X2.length
            · obtain ⟨bF, offF, rfl, hbF, hclF⟩ := HCF.out (by omega)
              obtain ⟨x, hx⟩ : ∃ x, X2[j]? = some x := ⟨_, List.getElem?_eq_getElem hlt⟩
              have cx := cell_at hclF HBL.out hbF (ints_get hx)
              have i1 : (j : Int) < (X2.length : Int) := by omega
              have HS := Lib.hid (cntR_snoc hx)
              clear hx hclF
              by_cases h0 : 0 ≤ x
              · go_wp2
                exact ⟨⟨j + 1, N + 1, by omega, by omega, by go_num, by go_num, Lib.hid (by rw [HS.out, HN.out, if_pos h0]), HBL⟩, by simp [intOf]; omega⟩
              · have h1 : x < 0 := by omega
                go_wp2
                exact ⟨⟨j + 1, N, by omega, by omega, by go_num, by go_num, Lib.hid (by rw [HS.out, HN.out, if_neg h0]; rfl), HBL⟩, by simp [intOf]; omega⟩
            · obtain rfl : j = X2.length := by omega
              have e1 : (N : Int) ≤ mo := by
                have h := HN.out
                rw [List.take_length] at h
                rw [← h]; exact HCN.out
              replace HB := Lib.hid (bel_then HB.out HBL.out)
              clear HN HBL HCN
              go_wp2
              go_ret
              exact ⟨rfl, HB.out⟩
end Go.Proofs.YtahehdgkbhjpoaaGreatDoor
