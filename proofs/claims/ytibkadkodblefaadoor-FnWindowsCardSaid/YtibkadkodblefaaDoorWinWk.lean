/-
  The walk of FnWindows (printed by gen_winw.py).
-/
import Derived.Test.YtibkadkodblefaaDoorWinLaw
import Derived.Test.YtibkadkodblefaaDoorDrawV
import Derived.Test.YtibkadkodblefaaDoorQHas
import Derived.BigRegion
import Derived.Deep.CutRange
namespace Go.Proofs.YtibkadkodblefaaDoor
open Go.RowKit

set_option maxRecDepth 100000 in
set_option maxHeartbeats 4000000 in
theorem walk_FnWindows (w : World) (v0 : Value) (l0 : List Int) (hr0 : Rd w v0 l0.length (bys l0)) (hw0 : BytesOk l0 ∧ l0.length ≤ 9223372036854775807) (v1 : Value) (l1 : List Int) (hr1 : Rd w v1 l1.length (bys l1)) (hw1 : BytesOk l1 ∧ l1.length ≤ 9223372036854775807) (hs : SinTab w) :
    Calls Tryd.prog 13 #[v0, v1] w fun en w' => en = .returned (.bool true) ∧ Below w.heap.size w w' := by
  obtain ⟨ho0, hn0⟩ := hw0
  obtain ⟨ho1, hn1⟩ := hw1
  have HR0 := Lib.hid hr0
  have HR1 := Lib.hid hr1
  have HO0 := Lib.hid ho0
  have HO1 := Lib.hid ho1
  have HS := Lib.hid hs
  have HB := Lib.hid (Below.refl w.heap.size w)
  obtain ⟨A0, c0, rfl, -⟩ := hr0
  obtain ⟨A1, c1, rfl, -⟩ := hr1
  obtain ⟨X, hX⟩ : ∃ X, IntKind.i64.wrap ((l0.length : Int) + (l1.length : Int)) = X := ⟨_, rfl⟩
  clear ho0 ho1 hs
  by_cases hbig : 1048576 < X
  · go_enter Tryd.func13, Tryd.ntmps13
    go_wp2
    go_ret
    exact ⟨rfl, Below.refl _ _⟩
  have hbig2 : X ≤ 1048576 := by omega
  clear hbig
  go_enter Tryd.func13, Tryd.ntmps13
  go_wp2_with fail
  refine (drawBestPlace_c _ l0 hn0 HO0.out _ (rd_below HR0.out HB.out)).mono ?_; rintro e w1 ⟨⟨b1, n1, o1, s1, m1, y1, vT1, T1, vQ1, Q1, rfl, hT1, hl1, hQ1⟩, hb⟩
  replace HB := Lib.hid (bel_then HB.out hb)
  replace HS := Lib.hid (sinTab_below HS.out hb)
  clear hb
  have HT1 := Lib.hid hT1
  clear hT1
  have HQ1 := Lib.hid hQ1
  clear hQ1
  go_upto_region 4 with fail
  generalize hW : World.alloc w1 _ = w2
  have hr0 : w2.ownsRow w1.heap.size 31 5 (.slice (some ⟨w1.heap.size, 0, none⟩) 1 1) 1 [.int .i64 b1, .int .i64 n1, .int .i64 o1, .int .i64 s1, .int .i64 m1] := by subst hW; exact row_new w1 _ _ 1 5 rfl (by omega) (by omega)
  have hb : Below w1.heap.size w1 w2 := by subst hW; exact bel_al (Below.refl _ _) _
  clear hW
  replace HB := Lib.hid (bel_then HB.out hb)
  replace HS := Lib.hid (sinTab_below HS.out hb)
  replace HT1 := Lib.hid (rd_below HT1.out hb)
  replace HQ1 := Lib.hid (rdi_below HQ1.out hb)
  clear hb
  obtain ⟨RK1, hRK1⟩ : ∃ R, w1.heap.size = R := ⟨_, rfl⟩
  rw [hRK1] at hr0 ⊢
  clear hRK1
  have K1 := Lib.hid hr0
  clear hr0
  obtain ⟨p1, hp1⟩ : ∃ z, (bestPlaceV b1 n1 o1 s1 m1 y1 T1 Q1).1 = z := ⟨_, rfl⟩
  obtain ⟨p2, hp2⟩ : ∃ z, (bestPlaceV b1 n1 o1 s1 m1 y1 T1 Q1).2.1 = z := ⟨_, rfl⟩
  obtain ⟨p3, hp3⟩ : ∃ z, (bestPlaceV b1 n1 o1 s1 m1 y1 T1 Q1).2.2 = z := ⟨_, rfl⟩
  have t0 := K1.out.cellAt 0 (by omega)
  have t1 := K1.out.cellAt 1 (by omega)
  have t2 := K1.out.cellAt 2 (by omega)
  have t3 := K1.out.cellAt 3 (by omega)
  have t4 := K1.out.cellAt 4 (by omega)
  dsimp only [List.getElem?_cons_zero, List.getElem?_cons_succ] at t0 t1 t2 t3 t4
  go_wp2_with fail
  refine (bestPlaceI_c b1 n1 o1 s1 m1 y1 vT1 T1 vQ1 Q1 _ HT1.out HQ1.out HS.out).mono ?_; rw [hp1, hp2, hp3]; rintro e w3 ⟨rfl, hb⟩
  clear t0 t1 t2 t3 t4
  replace HB := Lib.hid (bel_then HB.out hb)
  replace HS := Lib.hid (sinTab_below HS.out hb)
  replace HT1 := Lib.hid (rd_below HT1.out hb)
  replace HQ1 := Lib.hid (rdi_below HQ1.out hb)
  replace K1 := Lib.hid (own_below K1.out hb)
  clear hb
  have t0 := K1.out.cellAt 0 (by omega)
  have t1 := K1.out.cellAt 1 (by omega)
  have t2 := K1.out.cellAt 2 (by omega)
  have t3 := K1.out.cellAt 3 (by omega)
  have t4 := K1.out.cellAt 4 (by omega)
  dsimp only [List.getElem?_cons_zero, List.getElem?_cons_succ] at t0 t1 t2 t3 t4
  go_wp2_with fail
  refine (bestPlaceS_c b1 n1 o1 s1 m1 y1 vT1 T1 vQ1 Q1 _ HT1.out HQ1.out).mono ?_; rw [hp1, hp2, hp3]; rintro e w4 ⟨rfl, hb⟩
  clear t0 t1 t2 t3 t4
  replace HB := Lib.hid (bel_then HB.out hb)
  replace HS := Lib.hid (sinTab_below HS.out hb)
  replace HT1 := Lib.hid (rd_below HT1.out hb)
  replace HQ1 := Lib.hid (rdi_below HQ1.out hb)
  replace K1 := Lib.hid (own_below K1.out hb)
  clear hb
  have Hp1 := Lib.hid hp1
  have Hp2 := Lib.hid hp2
  have Hp3 := Lib.hid hp3
  clear hp1 hp2 hp3
  go_wp2_with fail
  refine (drawFewestPlaces_c _ l1 hn1 HO1.out _ (rd_below HR1.out HB.out)).mono ?_; rintro e w5 ⟨⟨b2, n2, o2, s2, m2, y2, vT2, T2, rfl, hT2, hl2⟩, hb⟩
  replace HB := Lib.hid (bel_then HB.out hb)
  replace HS := Lib.hid (sinTab_below HS.out hb)
  replace HT1 := Lib.hid (rd_below HT1.out hb)
  replace HQ1 := Lib.hid (rdi_below HQ1.out hb)
  replace K1 := Lib.hid (own_below K1.out hb)
  clear hb
  have HT2 := Lib.hid hT2
  clear hT2
  go_upto_region 7 with fail
  generalize hW : World.alloc w5 _ = w6
  have hr0 : w6.ownsRow w5.heap.size 31 5 (.slice (some ⟨w5.heap.size, 0, none⟩) 1 1) 1 [.int .i64 b2, .int .i64 n2, .int .i64 o2, .int .i64 s2, .int .i64 m2] := by subst hW; exact row_new w5 _ _ 1 5 rfl (by omega) (by omega)
  have hb : Below w5.heap.size w5 w6 := by subst hW; exact bel_al (Below.refl _ _) _
  clear hW
  replace HB := Lib.hid (bel_then HB.out hb)
  replace HS := Lib.hid (sinTab_below HS.out hb)
  replace HT1 := Lib.hid (rd_below HT1.out hb)
  replace HQ1 := Lib.hid (rdi_below HQ1.out hb)
  replace K1 := Lib.hid (own_below K1.out hb)
  replace HT2 := Lib.hid (rd_below HT2.out hb)
  clear hb
  obtain ⟨RK2, hRK2⟩ : ∃ R, w5.heap.size = R := ⟨_, rfl⟩
  rw [hRK2] at hr0 ⊢
  clear hRK2
  have K2 := Lib.hid hr0
  clear hr0
  obtain ⟨F, hF⟩ : ∃ z, (fewestPlacesV b2 n2 o2 s2 m2 y2 T2).1 = z := ⟨_, rfl⟩
  obtain ⟨f2, hf2⟩ : ∃ z, (fewestPlacesV b2 n2 o2 s2 m2 y2 T2).2 = z := ⟨_, rfl⟩
  have t0 := K2.out.cellAt 0 (by omega)
  have t1 := K2.out.cellAt 1 (by omega)
  have t2 := K2.out.cellAt 2 (by omega)
  have t3 := K2.out.cellAt 3 (by omega)
  have t4 := K2.out.cellAt 4 (by omega)
  dsimp only [List.getElem?_cons_zero, List.getElem?_cons_succ] at t0 t1 t2 t3 t4
  go_wp2_with fail
  refine (fewestPlacesI_c b2 n2 o2 s2 m2 y2 vT2 T2 _ HT2.out HS.out).mono ?_; unfold OwnIB; rw [hF, hf2]; rintro e w7 ⟨vHF1, rfl, ho, hb⟩
  clear t0 t1 t2 t3 t4
  replace HB := Lib.hid (bel_then HB.out hb)
  replace HS := Lib.hid (sinTab_below HS.out hb)
  replace HT1 := Lib.hid (rd_below HT1.out hb)
  replace HQ1 := Lib.hid (rdi_below HQ1.out hb)
  replace K1 := Lib.hid (own_below K1.out hb)
  replace HT2 := Lib.hid (rd_below HT2.out hb)
  replace K2 := Lib.hid (own_below K2.out hb)
  clear hb
  have HF1 := Lib.hid (rdi_own ho)
  clear ho
  have t0 := K2.out.cellAt 0 (by omega)
  have t1 := K2.out.cellAt 1 (by omega)
  have t2 := K2.out.cellAt 2 (by omega)
  have t3 := K2.out.cellAt 3 (by omega)
  have t4 := K2.out.cellAt 4 (by omega)
  dsimp only [List.getElem?_cons_zero, List.getElem?_cons_succ] at t0 t1 t2 t3 t4
  go_wp2_with fail
  refine (fewestPlacesS_c b2 n2 o2 s2 m2 y2 vT2 T2 _ HT2.out).mono ?_; unfold OwnIB; rw [hF, hf2]; rintro e w8 ⟨vHF2, rfl, ho, hb⟩
  clear t0 t1 t2 t3 t4
  replace HB := Lib.hid (bel_then HB.out hb)
  replace HS := Lib.hid (sinTab_below HS.out hb)
  replace HT1 := Lib.hid (rd_below HT1.out hb)
  replace HQ1 := Lib.hid (rdi_below HQ1.out hb)
  replace K1 := Lib.hid (own_below K1.out hb)
  replace HT2 := Lib.hid (rd_below HT2.out hb)
  replace K2 := Lib.hid (own_below K2.out hb)
  replace HF1 := Lib.hid (rdi_below HF1.out hb)
  clear hb
  have HF2 := Lib.hid (rdi_own ho)
  clear ho
  have HF := Lib.hid hF
  have Hf2 := Lib.hid hf2
  clear hF hf2
  go_wp2_with fail
  refine (drawReachedFrom_c _ l1 hn1 HO1.out _ (rd_below HR1.out HB.out)).mono ?_; rintro e w9 ⟨⟨b3, n3, o3, s3, m3, y3, z3, vT3, T3, rfl, hT3, hl3⟩, hb⟩
  replace HB := Lib.hid (bel_then HB.out hb)
  replace HS := Lib.hid (sinTab_below HS.out hb)
  replace HT1 := Lib.hid (rd_below HT1.out hb)
  replace HQ1 := Lib.hid (rdi_below HQ1.out hb)
  replace K1 := Lib.hid (own_below K1.out hb)
  replace HT2 := Lib.hid (rd_below HT2.out hb)
  replace K2 := Lib.hid (own_below K2.out hb)
  replace HF1 := Lib.hid (rdi_below HF1.out hb)
  replace HF2 := Lib.hid (rdi_below HF2.out hb)
  clear hb
  have HT3 := Lib.hid hT3
  clear hT3
  go_upto_region 10 with fail
  generalize hW : World.alloc w9 _ = w10
  have hr0 : w10.ownsRow w9.heap.size 31 5 (.slice (some ⟨w9.heap.size, 0, none⟩) 1 1) 1 [.int .i64 b3, .int .i64 n3, .int .i64 o3, .int .i64 s3, .int .i64 m3] := by subst hW; exact row_new w9 _ _ 1 5 rfl (by omega) (by omega)
  have hb : Below w9.heap.size w9 w10 := by subst hW; exact bel_al (Below.refl _ _) _
  clear hW
  replace HB := Lib.hid (bel_then HB.out hb)
  replace HS := Lib.hid (sinTab_below HS.out hb)
  replace HT1 := Lib.hid (rd_below HT1.out hb)
  replace HQ1 := Lib.hid (rdi_below HQ1.out hb)
  replace K1 := Lib.hid (own_below K1.out hb)
  replace HT2 := Lib.hid (rd_below HT2.out hb)
  replace K2 := Lib.hid (own_below K2.out hb)
  replace HF1 := Lib.hid (rdi_below HF1.out hb)
  replace HF2 := Lib.hid (rdi_below HF2.out hb)
  replace HT3 := Lib.hid (rd_below HT3.out hb)
  clear hb
  obtain ⟨RK3, hRK3⟩ : ∃ R, w9.heap.size = R := ⟨_, rfl⟩
  rw [hRK3] at hr0 ⊢
  clear hRK3
  have K3 := Lib.hid hr0
  clear hr0
  obtain ⟨G, hG⟩ : ∃ z, (reachedFromV b3 n3 o3 s3 m3 y3 z3 T3).1 = z := ⟨_, rfl⟩
  obtain ⟨g2, hg2⟩ : ∃ z, (reachedFromV b3 n3 o3 s3 m3 y3 z3 T3).2 = z := ⟨_, rfl⟩
  have t0 := K3.out.cellAt 0 (by omega)
  have t1 := K3.out.cellAt 1 (by omega)
  have t2 := K3.out.cellAt 2 (by omega)
  have t3 := K3.out.cellAt 3 (by omega)
  have t4 := K3.out.cellAt 4 (by omega)
  dsimp only [List.getElem?_cons_zero, List.getElem?_cons_succ] at t0 t1 t2 t3 t4
  go_wp2_with fail
  refine (reachedFromI_c b3 n3 o3 s3 m3 y3 z3 vT3 T3 _ HT3.out HS.out).mono ?_; unfold OwnIB; rw [hG, hg2]; rintro e w11 ⟨vHG1, rfl, ho, hb⟩
  clear t0 t1 t2 t3 t4
  replace HB := Lib.hid (bel_then HB.out hb)
  replace HS := Lib.hid (sinTab_below HS.out hb)
  replace HT1 := Lib.hid (rd_below HT1.out hb)
  replace HQ1 := Lib.hid (rdi_below HQ1.out hb)
  replace K1 := Lib.hid (own_below K1.out hb)
  replace HT2 := Lib.hid (rd_below HT2.out hb)
  replace K2 := Lib.hid (own_below K2.out hb)
  replace HF1 := Lib.hid (rdi_below HF1.out hb)
  replace HF2 := Lib.hid (rdi_below HF2.out hb)
  replace HT3 := Lib.hid (rd_below HT3.out hb)
  replace K3 := Lib.hid (own_below K3.out hb)
  clear hb
  have HG1 := Lib.hid (rdi_own ho)
  clear ho
  have t0 := K3.out.cellAt 0 (by omega)
  have t1 := K3.out.cellAt 1 (by omega)
  have t2 := K3.out.cellAt 2 (by omega)
  have t3 := K3.out.cellAt 3 (by omega)
  have t4 := K3.out.cellAt 4 (by omega)
  dsimp only [List.getElem?_cons_zero, List.getElem?_cons_succ] at t0 t1 t2 t3 t4
  go_wp2_with fail
  refine (reachedFromS_c b3 n3 o3 s3 m3 y3 z3 vT3 T3 _ HT3.out).mono ?_; unfold OwnIB; rw [hG, hg2]; rintro e w12 ⟨vHG2, rfl, ho, hb⟩
  clear t0 t1 t2 t3 t4
  replace HB := Lib.hid (bel_then HB.out hb)
  replace HS := Lib.hid (sinTab_below HS.out hb)
  replace HT1 := Lib.hid (rd_below HT1.out hb)
  replace HQ1 := Lib.hid (rdi_below HQ1.out hb)
  replace K1 := Lib.hid (own_below K1.out hb)
  replace HT2 := Lib.hid (rd_below HT2.out hb)
  replace K2 := Lib.hid (own_below K2.out hb)
  replace HF1 := Lib.hid (rdi_below HF1.out hb)
  replace HF2 := Lib.hid (rdi_below HF2.out hb)
  replace HT3 := Lib.hid (rd_below HT3.out hb)
  replace K3 := Lib.hid (own_below K3.out hb)
  replace HG1 := Lib.hid (rdi_below HG1.out hb)
  clear hb
  have HG2 := Lib.hid (rdi_own ho)
  clear ho
  have HG := Lib.hid hG
  have Hg2 := Lib.hid hg2
  clear hG hg2
  have n1 : (p3 != p3) = false := by simp
  have n2 : (p1 != p1) = false := by simp
  have n3 : (p2 != p2) = false := by simp
  have n4 : (f2 != f2) = false := by simp
  have n5 : (g2 != g2) = false := by simp
  clear hl1 hl2 hl3
  go_wp2_with fail
  refine (qInts_c _ _ F F _ HF1.out HF2.out).mono ?_; rw [decide_eq_true rfl]; rintro e wq ⟨rfl, hb⟩
  replace HB := Lib.hid (bel_then HB.out hb)
  replace HS := Lib.hid (sinTab_below HS.out hb)
  replace HT1 := Lib.hid (rd_below HT1.out hb)
  replace HQ1 := Lib.hid (rdi_below HQ1.out hb)
  replace K1 := Lib.hid (own_below K1.out hb)
  replace HT2 := Lib.hid (rd_below HT2.out hb)
  replace K2 := Lib.hid (own_below K2.out hb)
  replace HF1 := Lib.hid (rdi_below HF1.out hb)
  replace HF2 := Lib.hid (rdi_below HF2.out hb)
  replace HT3 := Lib.hid (rd_below HT3.out hb)
  replace K3 := Lib.hid (own_below K3.out hb)
  replace HG1 := Lib.hid (rdi_below HG1.out hb)
  replace HG2 := Lib.hid (rdi_below HG2.out hb)
  clear hb
  go_wp2_with fail
  refine (qInts_c _ _ G G _ HG1.out HG2.out).mono ?_; rw [decide_eq_true rfl]; rintro e wr0 ⟨rfl, hb⟩
  replace HB := Lib.hid (bel_then HB.out hb)
  replace HS := Lib.hid (sinTab_below HS.out hb)
  replace HT1 := Lib.hid (rd_below HT1.out hb)
  replace HQ1 := Lib.hid (rdi_below HQ1.out hb)
  replace K1 := Lib.hid (own_below K1.out hb)
  replace HT2 := Lib.hid (rd_below HT2.out hb)
  replace K2 := Lib.hid (own_below K2.out hb)
  replace HF1 := Lib.hid (rdi_below HF1.out hb)
  replace HF2 := Lib.hid (rdi_below HF2.out hb)
  replace HT3 := Lib.hid (rd_below HT3.out hb)
  replace K3 := Lib.hid (own_below K3.out hb)
  replace HG1 := Lib.hid (rdi_below HG1.out hb)
  replace HG2 := Lib.hid (rdi_below HG2.out hb)
  clear hb
  clear n1 n2 n3 n4 n5 HF1 HG1
  obtain ⟨wY, rfl⟩ : ∃ wY : World, wY = wr0 := ⟨_, rfl⟩
  go_upto_if 157 with fail
  go_cut [230] from 30 to 230 (fun v wx => Below wY.heap.size wY wx)
  case first =>
    clear HT2 HT3 K2 K3 HF2 HG2
    cases p3 with
    | false => go_wp2_with fail; go_meet; exact Below.refl _ _
    | true =>
      obtain ⟨⟨a1, a2, a3, a4⟩, ⟨a5, a6⟩, a7⟩ := best_is Hp3.out
      rw [Hp1.out] at a1 a2 a3 a4 a5 a6
      simp only [Hp2.out] at a6 a7
      have HALL := Lib.hid a7
      obtain ⟨U, hU⟩ : ∃ U, (reachedFromV b1 n1 o1 s1 m1 y1 p1 T1).1 = U := ⟨_, rfl⟩
      rw [hU] at a6
      have HA5 := Lib.hid a5
      have HU := Lib.hid hU
      have HNQ := Lib.hid (decide_eq_false a4)
      have e1 : ((U.length : Int) != p2) = false := by rw [a6]; simp
      rw [Int.tmod_eq_emod_of_nonneg a1] at a3
      have e2 : (p1 % 10 != 0) = false := by rw [a3]; rfl
      have HBx := Lib.hid (Below.refl wY.heap.size wY)
      clear a3 a4 a5 a6 a7 hU
      have t0 := K1.out.cellAt 0 (by omega)
      have t1 := K1.out.cellAt 1 (by omega)
      have t2 := K1.out.cellAt 2 (by omega)
      have t3 := K1.out.cellAt 3 (by omega)
      have t4 := K1.out.cellAt 4 (by omega)
      dsimp only [List.getElem?_cons_zero, List.getElem?_cons_succ] at t0 t1 t2 t3 t4
      go_wp2_with fail
      refine (reachedFromI_c b1 n1 o1 s1 m1 y1 p1 vT1 T1 _ HT1.out HS.out).mono ?_; unfold OwnIB; rw [HA5.out, HU.out]; rintro e wP ⟨vHV1, rfl, ho, hb⟩
      clear t0 t1 t2 t3 t4
      replace HBx := Lib.hid (bel_then HBx.out hb)
      replace HS := Lib.hid (sinTab_below HS.out hb)
      replace HT1 := Lib.hid (rd_below HT1.out hb)
      replace HQ1 := Lib.hid (rdi_below HQ1.out hb)
      replace K1 := Lib.hid (own_below K1.out hb)
      clear hb
      have HV1 := Lib.hid (rdi_own ho)
      clear ho
      obtain ⟨AV1, cV1, rfl, _, _, -⟩ := HV1.out
      go_wp2_with fail
      refine (qHas_c _ Q1 p1 _ HQ1.out).mono ?_; rw [HNQ.out]; rintro e wq ⟨rfl, hb⟩
      replace HBx := Lib.hid (bel_then HBx.out hb)
      replace HS := Lib.hid (sinTab_below HS.out hb)
      replace HT1 := Lib.hid (rd_below HT1.out hb)
      replace HQ1 := Lib.hid (rdi_below HQ1.out hb)
      replace K1 := Lib.hid (own_below K1.out hb)
      clear hb
      clear HV1
      go_wp2_with fail
      generalize hW : World.alloc wq _ = wL
      have hlit : wL.ownsRow wq.heap.size 3 1 (.slice (some ⟨wq.heap.size, 0, none⟩) 4 4) 4 (ints [0, 100, 300, 600]) := by subst hW; exact row_new wq _ _ 4 1 rfl (by omega) (by omega)
      have hb : Below wq.heap.size wq wL := by subst hW; exact bel_al (Below.refl _ _) _
      clear hW
      replace HBx := Lib.hid (bel_then HBx.out hb)
      replace HS := Lib.hid (sinTab_below HS.out hb)
      replace HT1 := Lib.hid (rd_below HT1.out hb)
      replace HQ1 := Lib.hid (rdi_below HQ1.out hb)
      replace K1 := Lib.hid (own_below K1.out hb)
      clear hb
      obtain ⟨BL, hBL⟩ : ∃ BL, wq.heap.size = BL := ⟨_, rfl⟩
      rw [hBL] at hlit ⊢
      clear hBL
      have HLIT := Lib.hid hlit
      clear hlit
      go_loopw [186] (fun vi wr => ∃ k : Nat, k ≤ 4 ∧ vi = .int .i64 k ∧ Hid (Below wL.heap.size wL wr)) (fun vi _ => 4 - (intOf vi).toNat)
      case atStart => exact ⟨0, Nat.zero_le _, rfl, Lib.hid (Below.refl _ _)⟩
      case round =>
        obtain ⟨k, hk, rfl, HBL⟩ := hrel
        obtain ⟨wA, rfl⟩ : ∃ wA : World, wA = wr := ⟨_, rfl⟩
        have hb := HBL.out
        replace HS := Lib.hid (sinTab_below HS.out hb)
        replace HT1 := Lib.hid (rd_below HT1.out hb)
        replace HQ1 := Lib.hid (rdi_below HQ1.out hb)
        replace K1 := Lib.hid (own_below K1.out hb)
        replace HLIT := Lib.hid (own_below HLIT.out hb)
        clear hb
        by_cases hlt : k < 4
        · obtain ⟨x, hx⟩ : ∃ x, ([0, 100, 300, 600] : List Int)[k]? = some x := ⟨_, List.getElem?_eq_getElem (by simpa using hlt)⟩
          obtain ⟨j, hj, hxj⟩ : ∃ j : Nat, j < 61 ∧ x = 10 * (j : Int) := by
            rcases (show k = 0 ∨ k = 1 ∨ k = 2 ∨ k = 3 by omega) with rfl | rfl | rfl | rfl <;> simp at hx <;> subst hx
            · exact ⟨0, by omega, by omega⟩
            · exact ⟨10, by omega, by omega⟩
            · exact ⟨30, by omega, by omega⟩
            · exact ⟨60, by omega, by omega⟩
          obtain ⟨q1, q2⟩ := HALL.out j hj
          rw [← hxj] at q1 q2
          obtain ⟨R, hR⟩ : ∃ R, (reachedFromV b1 n1 o1 s1 m1 y1 x T1).1 = R := ⟨_, rfl⟩
          rw [hR] at q2
          have c0 := HLIT.out.cellAt k (by omega)
          rw [ints_get hx] at c0
          have i0 : (0 : Int) ≤ (k : Int) := by omega
          have i1 : (k : Int) < 4 := by omega
          have HR := Lib.hid hR
          have HX1 := Lib.hid q1
          have HX2 := Lib.hid q2
          clear hx hxj q1 q2 hR hj
          have t0 := K1.out.cellAt 0 (by omega)
          have t1 := K1.out.cellAt 1 (by omega)
          have t2 := K1.out.cellAt 2 (by omega)
          have t3 := K1.out.cellAt 3 (by omega)
          have t4 := K1.out.cellAt 4 (by omega)
          dsimp only [List.getElem?_cons_zero, List.getElem?_cons_succ] at t0 t1 t2 t3 t4
          go_wp2_with fail
          refine (reachedFromI_c b1 n1 o1 s1 m1 y1 x vT1 T1 _ HT1.out HS.out).mono ?_; unfold OwnIB; rw [HX1.out, HR.out]; rintro e wB ⟨vHU1, rfl, ho, hb⟩
          clear t0 t1 t2 t3 t4
          replace HBL := Lib.hid (bel_then HBL.out hb)
          replace HS := Lib.hid (sinTab_below HS.out hb)
          replace HT1 := Lib.hid (rd_below HT1.out hb)
          replace HQ1 := Lib.hid (rdi_below HQ1.out hb)
          replace K1 := Lib.hid (own_below K1.out hb)
          clear hb
          have HU1 := Lib.hid (rdi_own ho)
          clear ho
          have t0 := K1.out.cellAt 0 (by omega)
          have t1 := K1.out.cellAt 1 (by omega)
          have t2 := K1.out.cellAt 2 (by omega)
          have t3 := K1.out.cellAt 3 (by omega)
          have t4 := K1.out.cellAt 4 (by omega)
          dsimp only [List.getElem?_cons_zero, List.getElem?_cons_succ] at t0 t1 t2 t3 t4
          go_wp2_with fail
          refine (reachedFromS_c b1 n1 o1 s1 m1 y1 x vT1 T1 _ HT1.out).mono ?_; unfold OwnIB; rw [HX1.out, HR.out]; rintro e wC ⟨vHU2, rfl, ho, hb⟩
          clear t0 t1 t2 t3 t4
          replace HBL := Lib.hid (bel_then HBL.out hb)
          replace HS := Lib.hid (sinTab_below HS.out hb)
          replace HT1 := Lib.hid (rd_below HT1.out hb)
          replace HQ1 := Lib.hid (rdi_below HQ1.out hb)
          replace K1 := Lib.hid (own_below K1.out hb)
          replace HU1 := Lib.hid (rdi_below HU1.out hb)
          clear hb
          have HU2 := Lib.hid (rdi_own ho)
          clear ho
          obtain ⟨AU2, cU2, rfl, _, _, -⟩ := HU2.out
          go_wp2_with fail
          refine (qInts_c _ _ R R _ HU1.out HU2.out).mono ?_; rw [decide_eq_true rfl]; rintro e wD ⟨rfl, hb⟩
          replace HBL := Lib.hid (bel_then HBL.out hb)
          replace HS := Lib.hid (sinTab_below HS.out hb)
          replace HT1 := Lib.hid (rd_below HT1.out hb)
          replace HQ1 := Lib.hid (rdi_below HQ1.out hb)
          replace K1 := Lib.hid (own_below K1.out hb)
          replace HU1 := Lib.hid (rdi_below HU1.out hb)
          clear hb
          by_cases hq : x ∈ Q1
          · have HQ := Lib.hid (decide_eq_true hq)
            clear hq
            go_wp2_with fail
            refine (qHas_c _ Q1 x _ HQ1.out).mono ?_; rw [HQ.out]; rintro e wE ⟨rfl, hb⟩
            replace HBL := Lib.hid (bel_then HBL.out hb)
            clear hb
            go_wp2
            exact ⟨⟨k + 1, by omega, by go_num, HBL⟩, by simp [intOf]; omega⟩
          · have hle := HX2.out hq
            have HQ := Lib.hid (decide_eq_false hq)
            clear hq
            go_wp2_with fail
            refine (qHas_c _ Q1 x _ HQ1.out).mono ?_; rw [HQ.out]; rintro e wE ⟨rfl, hb⟩
            replace HBL := Lib.hid (bel_then HBL.out hb)
            clear hb
            go_wp2
            exact ⟨⟨k + 1, by omega, by go_num, HBL⟩, by simp [intOf]; omega⟩
        · obtain rfl : k = 4 := by omega
          go_wp2_with fail
          go_meet
          exact bel_then HBx.out HBL.out
  case rest => as_aux_lemma =>
    have hb := hcut
    clear hcut HT1 HQ1 K1 Hp1 Hp2 Hp3
    replace HB := Lib.hid (bel_then HB.out hb)
    replace HS := Lib.hid (sinTab_below HS.out hb)
    replace HT2 := Lib.hid (rd_below HT2.out hb)
    replace K2 := Lib.hid (own_below K2.out hb)
    replace HF2 := Lib.hid (rdi_below HF2.out hb)
    replace HT3 := Lib.hid (rd_below HT3.out hb)
    replace K3 := Lib.hid (own_below K3.out hb)
    replace HG2 := Lib.hid (rdi_below HG2.out hb)
    clear hb
    obtain ⟨wX, rfl⟩ : ∃ wX : World, wX = wc := ⟨_, rfl⟩
    go_upto_if 231 with fail
    go_cut [301] from 30 to 301 (fun v wx => Below wX.heap.size wX wx)
    case first =>
      clear HT3 K3 HG2
      cases f2 with
      | false => go_wp2_with fail; go_meet; exact Below.refl _ _
      | true =>
        obtain ⟨z1, z2, z3, z4, z5⟩ := few_is Hf2.out
        rw [HF.out] at z1 z2 z3 z4
        have HAT := Lib.hid z2
        have HST := Lib.hid z3
        have HALL := Lib.hid z4
        have hle3 : (F.length : Int) ≤ 3 := by omega
        have hF3 : F.length ≤ 3 := z1
        have hT12 : T2.length ≤ 12 := z5
        obtain ⟨i0, hi, hz0, hz1, hz2⟩ := info_parts Tryd.infoInt
        obtain ⟨AF, cF, rfl, hcF, hmF, hclF0⟩ := HF2.out
        have HCF := Lib.hid hclF0
        obtain ⟨AT, cT, rfl, hcT, hmT, -⟩ := HT2.out
        rw [maxLen_eq] at hmF hmT
        clear z1 z2 z3 z4 z5 hclF0 HF2
        go_wp2_with fail
        go_loopw [38, 234] (fun va vi wr => ∃ (k : Nat) (L : List Int) (A : Option Addr) (c : Nat), k ≤ F.length ∧ vi = .int .i64 k ∧ va = .slice A L.length c ∧ Hid (allF b2 n2 o2 s2 m2 y2 T2 (F.take k) = L) ∧ L.length ≤ 12 * k ∧ Hid (wr.ownsRow wX.heap.size 3 1 (.slice A L.length c) L.length (ints L)) ∧ Hid (Below wX.heap.size wX wr)) (fun _ vi _ => F.length - (intOf vi).toNat)
        case atStart => exact ⟨0, [], none, 0, Nat.zero_le _, rfl, rfl, Lib.hid rfl, Nat.zero_le _, Lib.hid (World.ownsRow_nil _ _ _ _), Lib.hid (Below.refl _ _)⟩
        case round =>
          obtain ⟨k, L, A, c, hk, rfl, rfl, HL, hL12, HOW, HBL⟩ := hrel
          obtain ⟨wA, rfl⟩ : ∃ wA : World, wA = wr := ⟨_, rfl⟩
          have hb := HBL.out
          replace HS := Lib.hid (sinTab_below HS.out hb)
          replace HT2 := Lib.hid (rd_below HT2.out hb)
          replace K2 := Lib.hid (own_below K2.out hb)
          clear hb
          by_cases hlt : k < F.length
          · obtain ⟨x, hx⟩ : ∃ x, F[k]? = some x := ⟨_, List.getElem?_eq_getElem hlt⟩
            obtain ⟨bF, offF, rfl, hbF, hclF⟩ := HCF.out (by omega)
            obtain ⟨a1, a2, a3, a4, a5⟩ := HAT.out k x hx
            have HSN := Lib.hid (allF_snoc b2 n2 o2 s2 m2 y2 T2 F hx)
            rcases k with _ | kp
            · skip
              obtain ⟨R, hR⟩ : ∃ R, (reachedFromV b2 n2 o2 s2 m2 y2 x T2).1 = R := ⟨_, rfl⟩
              rw [hR] at a5
              have HR := Lib.hid hR
              have HX1 := Lib.hid a4
              have c0 := cell_at hclF HBL.out hbF (ints_get hx)
              rw [Int.tmod_eq_emod_of_nonneg a1] at a3
              have e2 : (x % 50 != 0) = false := by rw [a3]; rfl
              have HX := Lib.hid hx
              clear hR a3 a4
              rw [Nat.add_zero] at c0
              have i0' : (0 : Int) < (F.length : Int) := by omega
              clear hx
              clear hclF
              have t0 := K2.out.cellAt 0 (by omega)
              have t1 := K2.out.cellAt 1 (by omega)
              have t2 := K2.out.cellAt 2 (by omega)
              have t3 := K2.out.cellAt 3 (by omega)
              have t4 := K2.out.cellAt 4 (by omega)
              dsimp only [List.getElem?_cons_zero, List.getElem?_cons_succ] at t0 t1 t2 t3 t4
              go_wp2_with fail
              refine (reachedFromI_c b2 n2 o2 s2 m2 y2 x _ T2 _ HT2.out HS.out).mono ?_; unfold OwnIB; rw [HX1.out, HR.out]; rintro e wB ⟨vHU1, rfl, ho, hb⟩
              clear t0 t1 t2 t3 t4
              replace HBL := Lib.hid (bel_then HBL.out hb)
              replace HS := Lib.hid (sinTab_below HS.out hb)
              replace HT2 := Lib.hid (rd_below HT2.out hb)
              replace K2 := Lib.hid (own_below K2.out hb)
              replace HOW := Lib.hid (own_below HOW.out hb)
              clear hb
              have HU1 := Lib.hid (rdi_own ho)
              clear ho
              have t0 := K2.out.cellAt 0 (by omega)
              have t1 := K2.out.cellAt 1 (by omega)
              have t2 := K2.out.cellAt 2 (by omega)
              have t3 := K2.out.cellAt 3 (by omega)
              have t4 := K2.out.cellAt 4 (by omega)
              dsimp only [List.getElem?_cons_zero, List.getElem?_cons_succ] at t0 t1 t2 t3 t4
              go_wp2_with fail
              refine (reachedFromS_c b2 n2 o2 s2 m2 y2 x _ T2 _ HT2.out).mono ?_; unfold OwnIB; rw [HX1.out, HR.out]; rintro e wC ⟨vHU2, rfl, ho, hb⟩
              clear t0 t1 t2 t3 t4
              replace HBL := Lib.hid (bel_then HBL.out hb)
              replace HS := Lib.hid (sinTab_below HS.out hb)
              replace HT2 := Lib.hid (rd_below HT2.out hb)
              replace K2 := Lib.hid (own_below K2.out hb)
              replace HU1 := Lib.hid (rdi_below HU1.out hb)
              replace HOW := Lib.hid (own_below HOW.out hb)
              clear hb
              have HU2 := Lib.hid (rdi_own ho)
              clear ho
              go_wp2_with fail
              refine (qInts_c _ _ R R _ HU1.out HU2.out).mono ?_; rw [decide_eq_true rfl]; rintro e wD ⟨rfl, hb⟩
              replace HBL := Lib.hid (bel_then HBL.out hb)
              replace HU2 := Lib.hid (rdi_below HU2.out hb)
              replace HOW := Lib.hid (own_below HOW.out hb)
              clear hb
              have hlow := HOW.out.lt
              have hsz := HBL.out.size
              go_wp2_with (at_builtin; refine wpList_app_rd _ rfl _ _ 22 rfl wX.heap.size 3 i0 (.int .i64 0) 1 8 Tryd.underlying22 hi hz0 hz1 hz2 rfl (by decide) _ _ _ rfl HOW.out _ R.length (ints R) rfl HU2.out (by rw [ints_len]; omega) (ints_one R) (by rw [maxLen_eq]; omega) (by omega) (by omega) ?_; intro v7 w7 hown7 hgrow7 _)
              obtain ⟨A7, c7, rfl, _⟩ := own_rd hown7
              have hg7 : Below wX.heap.size wX w7 := bel_grown HBL.out hgrow7 (fun q e => (hlow q e).1)
              refine ⟨⟨1, L ++ R, A7, c7, by omega, by go_num, by rw [List.length_append], Lib.hid (by rw [HSN.out, HL.out, HR.out]), by rw [List.length_append]; omega, Lib.hid ?_, Lib.hid hg7⟩, by simp [intOf]; omega⟩
              rw [List.length_append, ints_append]; exact hown7
            · skip
              obtain ⟨R, hR⟩ : ∃ R, (reachedFromV b2 n2 o2 s2 m2 y2 x T2).1 = R := ⟨_, rfl⟩
              rw [hR] at a5
              have HR := Lib.hid hR
              have HX1 := Lib.hid a4
              have c0 := cell_at hclF HBL.out hbF (ints_get hx)
              rw [Int.tmod_eq_emod_of_nonneg a1] at a3
              have e2 : (x % 50 != 0) = false := by rw [a3]; rfl
              have HX := Lib.hid hx
              clear hR a3 a4
              obtain ⟨z, hz⟩ : ∃ z, F[kp]? = some z := ⟨_, List.getElem?_eq_getElem (by omega)⟩
              have hzx := HST.out kp z x hz hx
              have HZ := Lib.hid hz
              have HCLF := Lib.hid hclF
              have i0' : (0 : Int) ≤ (kp : Int) := by omega
              have i1' : (kp : Int) < (F.length : Int) := by omega
              have i2' : (kp : Int) + 1 < (F.length : Int) := by omega
              have i3' : (0 : Int) < (kp : Int) + 1 := by omega
              have s9 : IntKind.i64.wrap (kp : Int) = (kp : Int) := by rw [IntKind.wrap_i64]; omega
              clear hx hz
              clear hclF
              have t0 := K2.out.cellAt 0 (by omega)
              have t1 := K2.out.cellAt 1 (by omega)
              have t2 := K2.out.cellAt 2 (by omega)
              have t3 := K2.out.cellAt 3 (by omega)
              have t4 := K2.out.cellAt 4 (by omega)
              dsimp only [List.getElem?_cons_zero, List.getElem?_cons_succ] at t0 t1 t2 t3 t4
              go_wp2_with fail
              refine (reachedFromI_c b2 n2 o2 s2 m2 y2 x _ T2 _ HT2.out HS.out).mono ?_; unfold OwnIB; rw [HX1.out, HR.out]; rintro e wB ⟨vHU1, rfl, ho, hb⟩
              clear t0 t1 t2 t3 t4
              replace HBL := Lib.hid (bel_then HBL.out hb)
              replace HS := Lib.hid (sinTab_below HS.out hb)
              replace HT2 := Lib.hid (rd_below HT2.out hb)
              replace K2 := Lib.hid (own_below K2.out hb)
              replace HOW := Lib.hid (own_below HOW.out hb)
              clear hb
              have HU1 := Lib.hid (rdi_own ho)
              clear ho
              have t0 := K2.out.cellAt 0 (by omega)
              have t1 := K2.out.cellAt 1 (by omega)
              have t2 := K2.out.cellAt 2 (by omega)
              have t3 := K2.out.cellAt 3 (by omega)
              have t4 := K2.out.cellAt 4 (by omega)
              dsimp only [List.getElem?_cons_zero, List.getElem?_cons_succ] at t0 t1 t2 t3 t4
              go_wp2_with fail
              refine (reachedFromS_c b2 n2 o2 s2 m2 y2 x _ T2 _ HT2.out).mono ?_; unfold OwnIB; rw [HX1.out, HR.out]; rintro e wC ⟨vHU2, rfl, ho, hb⟩
              clear t0 t1 t2 t3 t4
              replace HBL := Lib.hid (bel_then HBL.out hb)
              replace HS := Lib.hid (sinTab_below HS.out hb)
              replace HT2 := Lib.hid (rd_below HT2.out hb)
              replace K2 := Lib.hid (own_below K2.out hb)
              replace HU1 := Lib.hid (rdi_below HU1.out hb)
              replace HOW := Lib.hid (own_below HOW.out hb)
              clear hb
              have HU2 := Lib.hid (rdi_own ho)
              clear ho
              go_wp2_with fail
              refine (qInts_c _ _ R R _ HU1.out HU2.out).mono ?_; rw [decide_eq_true rfl]; rintro e wD ⟨rfl, hb⟩
              replace HBL := Lib.hid (bel_then HBL.out hb)
              replace HU2 := Lib.hid (rdi_below HU2.out hb)
              replace HOW := Lib.hid (own_below HOW.out hb)
              clear hb
              have cz := cell_at HCLF.out HBL.out hbF (ints_get HZ.out)
              have hlow := HOW.out.lt
              have hsz := HBL.out.size
              go_wp2_with (at_builtin; refine wpList_app_rd _ rfl _ _ 22 rfl wX.heap.size 3 i0 (.int .i64 0) 1 8 Tryd.underlying22 hi hz0 hz1 hz2 rfl (by decide) _ _ _ rfl HOW.out _ R.length (ints R) rfl HU2.out (by rw [ints_len]; omega) (ints_one R) (by rw [maxLen_eq]; omega) (by omega) (by omega) ?_; intro v7 w7 hown7 hgrow7 _)
              obtain ⟨A7, c7, rfl, _⟩ := own_rd hown7
              have hg7 : Below wX.heap.size wX w7 := bel_grown HBL.out hgrow7 (fun q e => (hlow q e).1)
              refine ⟨⟨kp + 1 + 1, L ++ R, A7, c7, by omega, by go_num, by rw [List.length_append], Lib.hid (by rw [HSN.out, HL.out, HR.out]), by rw [List.length_append]; omega, Lib.hid ?_, Lib.hid hg7⟩, by simp [intOf]; omega⟩
              rw [List.length_append, ints_append]; exact hown7
          · obtain rfl : k = F.length := by omega
            have hLF := HL.out
            rw [List.take_of_length_le (Nat.le_refl _)] at hLF
            have hin := HALL.out
            rw [hLF] at hin
            have HIN := Lib.hid hin
            clear hLF hin
            go_wp2_with fail
            go_loopw [294] (fun vi wr => ∃ j : Nat, j ≤ T2.length ∧ vi = .int .i64 j ∧ Hid (Below wA.heap.size wA wr)) (fun vi _ => T2.length - (intOf vi).toNat)
            case atStart => exact ⟨0, Nat.zero_le _, rfl, Lib.hid (Below.refl _ _)⟩
            case round =>
              obtain ⟨j, hj, rfl, HB2⟩ := hrel
              obtain ⟨wJ, rfl⟩ : ∃ wJ : World, wJ = wr := ⟨_, rfl⟩
              have i0 : (0 : Int) ≤ (j : Int) := by omega
              by_cases hlt2 : j < T2.length
              · have i1 : (j : Int) < (T2.length : Int) := by omega
                have HQ := Lib.hid (decide_eq_true (HIN.out j hlt2))
                go_wp2_with fail
                refine (qHas_c _ L (j : Int) _ (rdi_below (rdi_own HOW.out) HB2.out)).mono ?_; rw [HQ.out]; rintro e wK ⟨rfl, hb⟩
                replace HB2 := Lib.hid (bel_then HB2.out hb)
                clear hb
                go_wp2
                exact ⟨⟨j + 1, by omega, by go_num, HB2⟩, by simp [intOf]; omega⟩
              · obtain rfl : j = T2.length := by omega
                go_wp2_with fail
                go_meet
                exact bel_then HBL.out HB2.out
    case rest => as_aux_lemma =>
      have hb := hcut
      clear hcut HT2 HF2 K2 HF Hf2
      replace HB := Lib.hid (bel_then HB.out hb)
      replace HS := Lib.hid (sinTab_below HS.out hb)
      replace HT3 := Lib.hid (rd_below HT3.out hb)
      replace K3 := Lib.hid (own_below K3.out hb)
      replace HG2 := Lib.hid (rdi_below HG2.out hb)
      clear hb
      obtain ⟨wV, rfl⟩ : ∃ wV : World, wV = wc := ⟨_, rfl⟩
      cases g2 with
      | false =>
        go_wp2
        go_ret
        exact ⟨rfl, HB.out⟩
      | true =>
        have hin := reach_in Hg2.out
        rw [HG.out] at hin
        have HIN := Lib.hid hin
        obtain ⟨AG, cG, rfl, hcG, hmG, hclG⟩ := HG2.out
        have HCG := Lib.hid hclG
        obtain ⟨AT, cT, rfl, hcT, hmT, -⟩ := HT3.out
        rw [maxLen_eq] at hmG hmT
        clear hin hclG HG2
        go_wp2_with fail
        go_loopw [305] (fun vi wr => ∃ k : Nat, k ≤ G.length ∧ vi = .int .i64 k ∧ Hid (Below wV.heap.size wV wr)) (fun vi _ => G.length - (intOf vi).toNat)
        case atStart => exact ⟨0, Nat.zero_le _, rfl, Lib.hid (Below.refl _ _)⟩
        case round =>
          obtain ⟨k, hk, rfl, HBL⟩ := hrel
          obtain ⟨wA, rfl⟩ : ∃ wA : World, wA = wr := ⟨_, rfl⟩
          have i0 : (0 : Int) ≤ (k : Int) := by omega
          by_cases hlt : k < G.length
          · obtain ⟨x, hx⟩ : ∃ x, G[k]? = some x := ⟨_, List.getElem?_eq_getElem hlt⟩
            obtain ⟨bG, offG, rfl, hbG, hclG⟩ := HCG.out (by omega)
            have c0 := cell_at hclG HBL.out hbG (ints_get hx)
            obtain ⟨q1, q2⟩ := HIN.out x (List.mem_of_getElem? hx)
            have i1 : (k : Int) < (G.length : Int) := by omega
            clear hx hclG
            go_wp2
            exact ⟨⟨k + 1, by omega, by go_num, HBL⟩, by simp [intOf]; omega⟩
          · obtain rfl : k = G.length := by omega
            go_wp2
            go_ret
            exact ⟨rfl, bel_then HB.out HBL.out⟩
end Go.Proofs.YtibkadkodblefaaDoor
