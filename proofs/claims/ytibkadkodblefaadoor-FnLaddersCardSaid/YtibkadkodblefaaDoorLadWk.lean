/-
  The walk of FnLadders (printed by gen_ladw.py).
-/
import Derived.Test.YtibkadkodblefaaDoorLadLaw
import Derived.Test.YtibkadkodblefaaDoorDrawQ
import Derived.Test.YtibkadkodblefaaDoorQInts
import Derived.BigRegion
import Derived.Deep.CutRange
namespace Go.Proofs.YtibkadkodblefaaDoor
open Go.RowKit

set_option maxRecDepth 100000 in
set_option maxHeartbeats 4000000 in
theorem walk_FnLadders (w : World) (v0 : Value) (l0 : List Int) (hr0 : Rd w v0 l0.length (bys l0)) (hw0 : BytesOk l0 ∧ l0.length ≤ 9223372036854775807) (v1 : Value) (l1 : List Int) (hr1 : Rd w v1 l1.length (bys l1)) (hw1 : BytesOk l1 ∧ l1.length ≤ 9223372036854775807) (hs : SinTab w) :
    Calls Tryd.prog 11 #[v0, v1] w fun en w' => en = .returned (.bool true) ∧ Below w.heap.size w w' := by
  obtain ⟨ho0, hn0⟩ := hw0
  obtain ⟨ho1, hn1⟩ := hw1
  have HR0 := Lib.hid hr0
  have HR1 := Lib.hid hr1
  have HO0 := Lib.hid ho0
  have HO1 := Lib.hid ho1
  have HS := Lib.hid hs
  have HB := Lib.hid (Below.refl w.heap.size w)
  obtain ⟨A0, c0, rfl, _⟩ := hr0
  obtain ⟨A1, c1, rfl, _⟩ := hr1
  obtain ⟨X, hX⟩ : ∃ X, IntKind.i64.wrap ((l0.length : Int) + (l1.length : Int)) = X := ⟨_, rfl⟩
  clear ho0 ho1 hs
  by_cases hbig : 1048576 < X
  · go_enter Tryd.func11, Tryd.ntmps11
    go_wp2
    go_ret
    exact ⟨rfl, Below.refl _ _⟩
  have hbig2 : X ≤ 1048576 := by omega
  clear hbig
  go_enter Tryd.func11, Tryd.ntmps11
  go_wp2_with fail
  refine (drawCanReach_c _ l0 hn0 HO0.out _ (rd_below HR0.out HB.out)).mono ?_; rintro e w1 ⟨⟨b1, n1, o1, s1, m1, x1, y1, rfl⟩, hb⟩
  replace HB := Lib.hid (bel_then HB.out hb)
  replace HS := Lib.hid (sinTab_below HS.out hb)
  clear hb
  go_upto_region 4 with fail
  generalize hW : World.alloc w1 _ = u2
  have hr0 : u2.ownsRow w1.heap.size 31 5 (.slice (some ⟨w1.heap.size, 0, none⟩) 1 1) 1 [.int .i64 b1, .int .i64 n1, .int .i64 o1, .int .i64 s1, .int .i64 m1] := by subst hW; exact row_new w1 _ _ 1 5 rfl (by omega) (by omega)
  have hb : Below w1.heap.size w1 u2 := by subst hW; exact bel_al (Below.refl _ _) _
  clear hW
  replace HB := Lib.hid (bel_then HB.out hb)
  replace HS := Lib.hid (sinTab_below HS.out hb)
  clear hb
  obtain ⟨RK1, hRK1⟩ : ∃ R, w1.heap.size = R := ⟨_, rfl⟩
  rw [hRK1] at hr0 ⊢
  clear hRK1
  have K1 := Lib.hid hr0
  clear hr0
  obtain ⟨C1, hC1⟩ : ∃ z, (canReachV b1 n1 o1 s1 m1 x1 y1).1 = z := ⟨_, rfl⟩
  obtain ⟨C2, hC2⟩ : ∃ z, (canReachV b1 n1 o1 s1 m1 x1 y1).2 = z := ⟨_, rfl⟩
  have t0 := K1.out.cellAt 0 (by omega)
  have t1 := K1.out.cellAt 1 (by omega)
  have t2 := K1.out.cellAt 2 (by omega)
  have t3 := K1.out.cellAt 3 (by omega)
  have t4 := K1.out.cellAt 4 (by omega)
  dsimp only [List.getElem?_cons_zero, List.getElem?_cons_succ] at t0 t1 t2 t3 t4
  go_wp2_with fail
  refine (canReachI_c b1 n1 o1 s1 m1 x1 y1 _ HS.out).mono ?_; rw [hC1, hC2]; rintro e w4 ⟨rfl, hb⟩
  clear t0 t1 t2 t3 t4
  replace HB := Lib.hid (bel_then HB.out hb)
  replace HS := Lib.hid (sinTab_below HS.out hb)
  replace K1 := Lib.hid (own_below K1.out hb)
  clear hb
  have t0 := K1.out.cellAt 0 (by omega)
  have t1 := K1.out.cellAt 1 (by omega)
  have t2 := K1.out.cellAt 2 (by omega)
  have t3 := K1.out.cellAt 3 (by omega)
  have t4 := K1.out.cellAt 4 (by omega)
  dsimp only [List.getElem?_cons_zero, List.getElem?_cons_succ] at t0 t1 t2 t3 t4
  go_wp2_with fail
  refine (canReachS_c b1 n1 o1 s1 m1 x1 y1 _).mono ?_; rw [hC1, hC2]; rintro e w6 ⟨rfl, hb⟩
  clear t0 t1 t2 t3 t4
  replace HB := Lib.hid (bel_then HB.out hb)
  replace HS := Lib.hid (sinTab_below HS.out hb)
  replace K1 := Lib.hid (own_below K1.out hb)
  clear hb
  obtain ⟨A1, hA1⟩ : ∃ z, (angleForV b1 n1 o1 s1 m1 x1 y1).1 = z := ⟨_, rfl⟩
  obtain ⟨A2, hA2⟩ : ∃ z, (angleForV b1 n1 o1 s1 m1 x1 y1).2 = z := ⟨_, rfl⟩
  have t0 := K1.out.cellAt 0 (by omega)
  have t1 := K1.out.cellAt 1 (by omega)
  have t2 := K1.out.cellAt 2 (by omega)
  have t3 := K1.out.cellAt 3 (by omega)
  have t4 := K1.out.cellAt 4 (by omega)
  dsimp only [List.getElem?_cons_zero, List.getElem?_cons_succ] at t0 t1 t2 t3 t4
  go_wp2_with fail
  refine (angleForI_c b1 n1 o1 s1 m1 x1 y1 _ HS.out).mono ?_; rw [hA1, hA2]; rintro e w8 ⟨rfl, hb⟩
  clear t0 t1 t2 t3 t4
  replace HB := Lib.hid (bel_then HB.out hb)
  replace HS := Lib.hid (sinTab_below HS.out hb)
  replace K1 := Lib.hid (own_below K1.out hb)
  clear hb
  have t0 := K1.out.cellAt 0 (by omega)
  have t1 := K1.out.cellAt 1 (by omega)
  have t2 := K1.out.cellAt 2 (by omega)
  have t3 := K1.out.cellAt 3 (by omega)
  have t4 := K1.out.cellAt 4 (by omega)
  dsimp only [List.getElem?_cons_zero, List.getElem?_cons_succ] at t0 t1 t2 t3 t4
  go_wp2_with fail
  refine (angleForS_c b1 n1 o1 s1 m1 x1 y1 _).mono ?_; rw [hA1, hA2]; rintro e w10 ⟨rfl, hb⟩
  clear t0 t1 t2 t3 t4
  replace HB := Lib.hid (bel_then HB.out hb)
  replace HS := Lib.hid (sinTab_below HS.out hb)
  replace K1 := Lib.hid (own_below K1.out hb)
  clear hb
  have HC1 := Lib.hid hC1
  have HC2 := Lib.hid hC2
  have HA1 := Lib.hid hA1
  have HA2 := Lib.hid hA2
  clear hC1 hC2 hA1 hA2
  go_wp2_with fail
  refine (drawTipOf_c _ l1 hn1 HO1.out _ (rd_below HR1.out HB.out)).mono ?_; rintro e w12 ⟨⟨b2, n2, o2, s2, m2, x2, y2, rfl⟩, hb⟩
  replace HB := Lib.hid (bel_then HB.out hb)
  replace HS := Lib.hid (sinTab_below HS.out hb)
  replace K1 := Lib.hid (own_below K1.out hb)
  clear hb
  go_upto_region 9 with fail
  generalize hW : World.alloc w12 _ = u13
  have hr0 : u13.ownsRow w12.heap.size 31 5 (.slice (some ⟨w12.heap.size, 0, none⟩) 1 1) 1 [.int .i64 b2, .int .i64 n2, .int .i64 o2, .int .i64 s2, .int .i64 m2] := by subst hW; exact row_new w12 _ _ 1 5 rfl (by omega) (by omega)
  have hb : Below w12.heap.size w12 u13 := by subst hW; exact bel_al (Below.refl _ _) _
  clear hW
  replace HB := Lib.hid (bel_then HB.out hb)
  replace HS := Lib.hid (sinTab_below HS.out hb)
  replace K1 := Lib.hid (own_below K1.out hb)
  clear hb
  obtain ⟨RK2, hRK2⟩ : ∃ R, w12.heap.size = R := ⟨_, rfl⟩
  rw [hRK2] at hr0 ⊢
  clear hRK2
  have K2 := Lib.hid hr0
  clear hr0
  obtain ⟨T1, hT1⟩ : ∃ z, (tipOfV b2 n2 o2 s2 m2 x2 y2).1 = z := ⟨_, rfl⟩
  obtain ⟨T2, hT2⟩ : ∃ z, (tipOfV b2 n2 o2 s2 m2 x2 y2).2.1 = z := ⟨_, rfl⟩
  obtain ⟨T3, hT3⟩ : ∃ z, (tipOfV b2 n2 o2 s2 m2 x2 y2).2.2 = z := ⟨_, rfl⟩
  have t0 := K2.out.cellAt 0 (by omega)
  have t1 := K2.out.cellAt 1 (by omega)
  have t2 := K2.out.cellAt 2 (by omega)
  have t3 := K2.out.cellAt 3 (by omega)
  have t4 := K2.out.cellAt 4 (by omega)
  dsimp only [List.getElem?_cons_zero, List.getElem?_cons_succ] at t0 t1 t2 t3 t4
  go_wp2_with fail
  refine (tipOfI_c b2 n2 o2 s2 m2 x2 y2 _ HS.out).mono ?_; rw [hT1, hT2, hT3]; rintro e w15 ⟨rfl, hb⟩
  clear t0 t1 t2 t3 t4
  replace HB := Lib.hid (bel_then HB.out hb)
  replace HS := Lib.hid (sinTab_below HS.out hb)
  replace K1 := Lib.hid (own_below K1.out hb)
  replace K2 := Lib.hid (own_below K2.out hb)
  clear hb
  have t0 := K2.out.cellAt 0 (by omega)
  have t1 := K2.out.cellAt 1 (by omega)
  have t2 := K2.out.cellAt 2 (by omega)
  have t3 := K2.out.cellAt 3 (by omega)
  have t4 := K2.out.cellAt 4 (by omega)
  dsimp only [List.getElem?_cons_zero, List.getElem?_cons_succ] at t0 t1 t2 t3 t4
  go_wp2_with fail
  refine (tipOfS_c b2 n2 o2 s2 m2 x2 y2 _).mono ?_; rw [hT1, hT2, hT3]; rintro e w17 ⟨rfl, hb⟩
  clear t0 t1 t2 t3 t4
  replace HB := Lib.hid (bel_then HB.out hb)
  replace HS := Lib.hid (sinTab_below HS.out hb)
  replace K1 := Lib.hid (own_below K1.out hb)
  replace K2 := Lib.hid (own_below K2.out hb)
  clear hb
  have HT1 := Lib.hid hT1
  have HT2 := Lib.hid hT2
  have HT3 := Lib.hid hT3
  clear hT1 hT2 hT3
  go_wp2_with fail
  refine (drawHighestAt_c _ l1 hn1 HO1.out _ (rd_below HR1.out HB.out)).mono ?_; rintro e w19 ⟨⟨b3, n3, o3, s3, m3, x3, rfl⟩, hb⟩
  replace HB := Lib.hid (bel_then HB.out hb)
  replace HS := Lib.hid (sinTab_below HS.out hb)
  replace K1 := Lib.hid (own_below K1.out hb)
  replace K2 := Lib.hid (own_below K2.out hb)
  clear hb
  go_upto_region 12 with fail
  generalize hW : World.alloc w19 _ = u20
  have hr0 : u20.ownsRow w19.heap.size 31 5 (.slice (some ⟨w19.heap.size, 0, none⟩) 1 1) 1 [.int .i64 b3, .int .i64 n3, .int .i64 o3, .int .i64 s3, .int .i64 m3] := by subst hW; exact row_new w19 _ _ 1 5 rfl (by omega) (by omega)
  have hb : Below w19.heap.size w19 u20 := by subst hW; exact bel_al (Below.refl _ _) _
  clear hW
  replace HB := Lib.hid (bel_then HB.out hb)
  replace HS := Lib.hid (sinTab_below HS.out hb)
  replace K1 := Lib.hid (own_below K1.out hb)
  replace K2 := Lib.hid (own_below K2.out hb)
  clear hb
  obtain ⟨RK3, hRK3⟩ : ∃ R, w19.heap.size = R := ⟨_, rfl⟩
  rw [hRK3] at hr0 ⊢
  clear hRK3
  have K3 := Lib.hid hr0
  clear hr0
  obtain ⟨G1, hG1⟩ : ∃ z, (highestAtV b3 n3 o3 s3 m3 x3).1 = z := ⟨_, rfl⟩
  obtain ⟨G2, hG2⟩ : ∃ z, (highestAtV b3 n3 o3 s3 m3 x3).2 = z := ⟨_, rfl⟩
  have t0 := K3.out.cellAt 0 (by omega)
  have t1 := K3.out.cellAt 1 (by omega)
  have t2 := K3.out.cellAt 2 (by omega)
  have t3 := K3.out.cellAt 3 (by omega)
  have t4 := K3.out.cellAt 4 (by omega)
  dsimp only [List.getElem?_cons_zero, List.getElem?_cons_succ] at t0 t1 t2 t3 t4
  go_wp2_with fail
  refine (highestAtI_c b3 n3 o3 s3 m3 x3 _ HS.out).mono ?_; rw [hG1, hG2]; rintro e w22 ⟨rfl, hb⟩
  clear t0 t1 t2 t3 t4
  replace HB := Lib.hid (bel_then HB.out hb)
  replace HS := Lib.hid (sinTab_below HS.out hb)
  replace K1 := Lib.hid (own_below K1.out hb)
  replace K2 := Lib.hid (own_below K2.out hb)
  replace K3 := Lib.hid (own_below K3.out hb)
  clear hb
  have t0 := K3.out.cellAt 0 (by omega)
  have t1 := K3.out.cellAt 1 (by omega)
  have t2 := K3.out.cellAt 2 (by omega)
  have t3 := K3.out.cellAt 3 (by omega)
  have t4 := K3.out.cellAt 4 (by omega)
  dsimp only [List.getElem?_cons_zero, List.getElem?_cons_succ] at t0 t1 t2 t3 t4
  go_wp2_with fail
  refine (highestAtS_c b3 n3 o3 s3 m3 x3 _).mono ?_; rw [hG1, hG2]; rintro e w24 ⟨rfl, hb⟩
  clear t0 t1 t2 t3 t4
  replace HB := Lib.hid (bel_then HB.out hb)
  replace HS := Lib.hid (sinTab_below HS.out hb)
  replace K1 := Lib.hid (own_below K1.out hb)
  replace K2 := Lib.hid (own_below K2.out hb)
  replace K3 := Lib.hid (own_below K3.out hb)
  clear hb
  have HG1 := Lib.hid hG1
  have HG2 := Lib.hid hG2
  clear hG1 hG2
  go_wp2_with fail
  refine (drawFarthestFor_c _ l1 hn1 HO1.out _ (rd_below HR1.out HB.out)).mono ?_; rintro e w26 ⟨⟨b4, n4, o4, s4, m4, y4, rfl⟩, hb⟩
  replace HB := Lib.hid (bel_then HB.out hb)
  replace HS := Lib.hid (sinTab_below HS.out hb)
  replace K1 := Lib.hid (own_below K1.out hb)
  replace K2 := Lib.hid (own_below K2.out hb)
  replace K3 := Lib.hid (own_below K3.out hb)
  clear hb
  go_upto_region 15 with fail
  generalize hW : World.alloc w26 _ = u27
  have hr0 : u27.ownsRow w26.heap.size 31 5 (.slice (some ⟨w26.heap.size, 0, none⟩) 1 1) 1 [.int .i64 b4, .int .i64 n4, .int .i64 o4, .int .i64 s4, .int .i64 m4] := by subst hW; exact row_new w26 _ _ 1 5 rfl (by omega) (by omega)
  have hb : Below w26.heap.size w26 u27 := by subst hW; exact bel_al (Below.refl _ _) _
  clear hW
  replace HB := Lib.hid (bel_then HB.out hb)
  replace HS := Lib.hid (sinTab_below HS.out hb)
  replace K1 := Lib.hid (own_below K1.out hb)
  replace K2 := Lib.hid (own_below K2.out hb)
  replace K3 := Lib.hid (own_below K3.out hb)
  clear hb
  obtain ⟨RK4, hRK4⟩ : ∃ R, w26.heap.size = R := ⟨_, rfl⟩
  rw [hRK4] at hr0 ⊢
  clear hRK4
  have K4 := Lib.hid hr0
  clear hr0
  obtain ⟨F1, hF1⟩ : ∃ z, (farthestForV b4 n4 o4 s4 m4 y4).1 = z := ⟨_, rfl⟩
  obtain ⟨F2, hF2⟩ : ∃ z, (farthestForV b4 n4 o4 s4 m4 y4).2 = z := ⟨_, rfl⟩
  have t0 := K4.out.cellAt 0 (by omega)
  have t1 := K4.out.cellAt 1 (by omega)
  have t2 := K4.out.cellAt 2 (by omega)
  have t3 := K4.out.cellAt 3 (by omega)
  have t4 := K4.out.cellAt 4 (by omega)
  dsimp only [List.getElem?_cons_zero, List.getElem?_cons_succ] at t0 t1 t2 t3 t4
  go_wp2_with fail
  refine (farthestForI_c b4 n4 o4 s4 m4 y4 _ HS.out).mono ?_; rw [hF1, hF2]; rintro e w29 ⟨rfl, hb⟩
  clear t0 t1 t2 t3 t4
  replace HB := Lib.hid (bel_then HB.out hb)
  replace HS := Lib.hid (sinTab_below HS.out hb)
  replace K1 := Lib.hid (own_below K1.out hb)
  replace K2 := Lib.hid (own_below K2.out hb)
  replace K3 := Lib.hid (own_below K3.out hb)
  replace K4 := Lib.hid (own_below K4.out hb)
  clear hb
  have t0 := K4.out.cellAt 0 (by omega)
  have t1 := K4.out.cellAt 1 (by omega)
  have t2 := K4.out.cellAt 2 (by omega)
  have t3 := K4.out.cellAt 3 (by omega)
  have t4 := K4.out.cellAt 4 (by omega)
  dsimp only [List.getElem?_cons_zero, List.getElem?_cons_succ] at t0 t1 t2 t3 t4
  go_wp2_with fail
  refine (farthestForS_c b4 n4 o4 s4 m4 y4 _).mono ?_; rw [hF1, hF2]; rintro e w31 ⟨rfl, hb⟩
  clear t0 t1 t2 t3 t4
  replace HB := Lib.hid (bel_then HB.out hb)
  replace HS := Lib.hid (sinTab_below HS.out hb)
  replace K1 := Lib.hid (own_below K1.out hb)
  replace K2 := Lib.hid (own_below K2.out hb)
  replace K3 := Lib.hid (own_below K3.out hb)
  replace K4 := Lib.hid (own_below K4.out hb)
  clear hb
  have HF1 := Lib.hid hF1
  have HF2 := Lib.hid hF2
  clear hF1 hF2
  have hAC : A2 = (C2 && C1) := by rw [← HA2.out, ← HC1.out, ← HC2.out]; exact can_one _ _ _ _ _ _ _
  have n1 : (C2 != C2) = false := by simp
  have n2 : (C1 != C1) = false := by simp
  have n3 : (A2 != A2) = false := by simp
  have n4 : (A1 != A1) = false := by simp
  have n5 : (T3 != T3) = false := by simp
  have n6 : (T1 != T1) = false := by simp
  have n7 : (T2 != T2) = false := by simp
  have n8 : (G2 != G2) = false := by simp
  have n9 : (G1 != G1) = false := by simp
  have n10 : (F2 != F2) = false := by simp
  have n11 : (F1 != F1) = false := by simp
  go_upto_region 17 with fail
  go_wp2_with fail
  refine (sineTableI_c _ HS.out).mono ?_; rintro e wa ⟨va, rfl, hoa, hb⟩
  have HVA := Lib.hid (rdi_own hoa)
  clear hoa
  replace HB := Lib.hid (bel_then HB.out hb)
  replace HS := Lib.hid (sinTab_below HS.out hb)
  replace K1 := Lib.hid (own_below K1.out hb)
  replace K2 := Lib.hid (own_below K2.out hb)
  replace K3 := Lib.hid (own_below K3.out hb)
  replace K4 := Lib.hid (own_below K4.out hb)
  clear hb
  go_upto_region 18 with fail
  go_cut [217] from 143 to 217 (fun v wx => v = .bool false ∧ Below wa.heap.size wa wx)
  case first =>
    have t0 := K1.out.cellAt 0 (by omega)
    have t1 := K1.out.cellAt 1 (by omega)
    have t2 := K1.out.cellAt 2 (by omega)
    have t3 := K1.out.cellAt 3 (by omega)
    have t4 := K1.out.cellAt 4 (by omega)
    dsimp only [List.getElem?_cons_zero, List.getElem?_cons_succ] at t0 t1 t2 t3 t4
    have n12 : ∀ x : Bool, (x != x) = false := by simp
    cases C2 with
    | false =>
      obtain rfl : A2 = false := by rw [hAC]; rfl
      clear hAC
      go_wp2_with fail
      refine (sineTableS_c _).mono ?_; rintro e wb ⟨vb, rfl, hob, hb⟩
      have HVA2 := Lib.hid (rdi_below HVA.out hb)
      have HVB := Lib.hid (rdi_own hob)
      have HBB := Lib.hid hb
      clear hob hb
      go_wp2_with fail
      refine (qInts_c _ _ sinL sinL _ HVA2.out HVB.out).mono ?_; rw [decide_eq_true rfl]; rintro e wd ⟨rfl, hb⟩
      go_wp2_with fail
      go_meet
      exact ⟨rfl, bel_then HBB.out hb⟩
    | true =>
      have hok := can_ok HC2.out
      obtain rfl : A2 = C1 := by rw [hAC]; cases C1 <;> rfl
      clear hAC
      go_wp2_with fail
      refine (isLadderI_c _ _ _ _ _ _).mono ?_; rw [hok]; rintro e w9 ⟨rfl, hb⟩
      have HVA1 := Lib.hid (rdi_below HVA.out hb)
      have HB9 := Lib.hid hb
      clear hb
      go_wp2_with fail
      refine (sineTableS_c _).mono ?_; rintro e wb ⟨vb, rfl, hob, hb⟩
      have HVA2 := Lib.hid (rdi_below HVA1.out hb)
      have HVB := Lib.hid (rdi_own hob)
      have HBB := Lib.hid (bel_then HB9.out hb)
      clear hob hb
      go_wp2_with fail
      refine (qInts_c _ _ sinL sinL _ HVA2.out HVB.out).mono ?_; rw [decide_eq_true rfl]; rintro e wd ⟨rfl, hb⟩
      go_wp2_with fail
      go_meet
      exact ⟨rfl, bel_then HBB.out hb⟩
  case rest => as_aux_lemma =>
    obtain ⟨rfl, hb⟩ := hcut
    replace HB := Lib.hid (bel_then HB.out hb)
    replace HS := Lib.hid (sinTab_below HS.out hb)
    replace K1 := Lib.hid (own_below K1.out hb)
    replace K2 := Lib.hid (own_below K2.out hb)
    replace K3 := Lib.hid (own_below K3.out hb)
    replace K4 := Lib.hid (own_below K4.out hb)
    clear hb
    rw [← hAC]
    clear HVA hAC n1 n2 n3 n4 n5 n6 n7 n8 n9 n10 n11
    obtain ⟨wY, rfl⟩ : ∃ wY : World, wY = wc := ⟨_, rfl⟩
    go_upto_region 20 with fail
    go_cut [230] from 218 to 230 (fun v wx => v = .bool false ∧ wY = wx)
    case first =>
      have t0 := K1.out.cellAt 0 (by omega)
      have t1 := K1.out.cellAt 1 (by omega)
      have t2 := K1.out.cellAt 2 (by omega)
      have t3 := K1.out.cellAt 3 (by omega)
      have t4 := K1.out.cellAt 4 (by omega)
      dsimp only [List.getElem?_cons_zero, List.getElem?_cons_succ] at t0 t1 t2 t3 t4
      cases A2 with
      | false => go_wp2_with fail; go_meet; exact ⟨rfl, rfl⟩
      | true =>
        obtain ⟨q1, q2⟩ := angle_in HA2.out
        rw [HA1.out] at q1 q2
        go_wp2_with fail
        all_goals
          go_meet
          refine ⟨?_, rfl⟩
          first | rfl | (exact congrArg Value.bool (decide_eq_false (by omega)))
    case rest =>
      obtain ⟨rfl, rfl⟩ := hcut
      go_upto_region 22 with fail
      go_cut [245] from 231 to 245 (fun v wx => ∃ D, v = .bool D ∧ wY = wx ∧ (D = true → T3 = true ∧ T1 ≤ o2 ∧ T1 ≤ 600 ∧ T2 ≤ 600))
      case first =>
        have t0 := K2.out.cellAt 0 (by omega)
        have t1 := K2.out.cellAt 1 (by omega)
        have t2 := K2.out.cellAt 2 (by omega)
        have t3 := K2.out.cellAt 3 (by omega)
        have t4 := K2.out.cellAt 4 (by omega)
        dsimp only [List.getElem?_cons_zero, List.getElem?_cons_succ] at t0 t1 t2 t3 t4
        cases T3 with
        | false => go_wp2_with fail; go_meet; exact ⟨false, rfl, rfl, fun h => by cases h⟩
        | true =>
          by_cases h1 : T1 ≤ o2
          · by_cases h2 : T1 ≤ 600
            · by_cases h3 : T2 ≤ 600
              · go_wp2_with fail; go_meet; exact ⟨true, rfl, rfl, fun _ => ⟨by first | rfl | trivial, h1, h2, h3⟩⟩
              · have h4 : decide (T2 ≤ 600) = false := decide_eq_false h3
                go_wp2_with fail; go_meet; exact ⟨false, rfl, rfl, fun h => by cases h⟩
            · have h4 : decide (T1 ≤ 600) = false := decide_eq_false h2
              go_wp2_with fail; go_meet; exact ⟨false, rfl, rfl, fun h => by cases h⟩
          · have h4 : decide (T1 ≤ o2) = false := decide_eq_false h1
            go_wp2_with fail; go_meet; exact ⟨false, rfl, rfl, fun h => by cases h⟩
      case rest =>
        obtain ⟨D, rfl, rfl, hD⟩ := hcut
        have HDx := Lib.hid hD
        clear hD
        go_upto_if 245 with fail
        go_cut [258] from 38 to 258 (fun v wx => Below wY.heap.size wY wx)
        case first =>
          cases D with
          | false => go_wp2_with fail; go_meet; exact Below.refl _ _
          | true =>
            obtain ⟨rfl, h1, h2, h3⟩ := HDx.out rfl
            have hq : canReachV b2 n2 o2 s2 m2 T1 T2 = (true, true) := by
              have h := tip_can HT3.out (by rw [HT1.out]; exact h1) (by rw [HT1.out]; exact h2) (by rw [HT2.out]; exact h3)
              rw [HT1.out, HT2.out] at h
              exact h
            have g1 := congrArg Prod.fst hq
            have g2 := congrArg Prod.snd hq
            have G1x := Lib.hid g1
            have G2x := Lib.hid g2
            clear h1 h2 h3 hq g1 g2
            have t0 := K2.out.cellAt 0 (by omega)
            have t1 := K2.out.cellAt 1 (by omega)
            have t2 := K2.out.cellAt 2 (by omega)
            have t3 := K2.out.cellAt 3 (by omega)
            have t4 := K2.out.cellAt 4 (by omega)
            dsimp only [List.getElem?_cons_zero, List.getElem?_cons_succ] at t0 t1 t2 t3 t4
            go_wp2_with fail
            refine (canReachI_c b2 n2 o2 s2 m2 T1 T2 _ HS.out).mono ?_; rw [G1x.out, G2x.out]; rintro e wq ⟨rfl, hb⟩
            go_wp2_with fail
            go_meet
            exact hb
        case rest => as_aux_lemma =>
          have hb := hcut
          clear hcut
          replace HB := Lib.hid (bel_then HB.out hb)
          replace HS := Lib.hid (sinTab_below HS.out hb)
          replace K1 := Lib.hid (own_below K1.out hb)
          replace K2 := Lib.hid (own_below K2.out hb)
          replace K3 := Lib.hid (own_below K3.out hb)
          replace K4 := Lib.hid (own_below K4.out hb)
          clear hb
          obtain ⟨wX, rfl⟩ : ∃ wX : World, wX = wc := ⟨_, rfl⟩
          go_upto_if 259 with fail
          go_cut [287] from 38 to 287 (fun v wx => Below wX.heap.size wX wx)
          case first =>
            cases G2 with
            | false => go_wp2_with fail; go_meet; exact Below.refl _ _
            | true =>
              obtain ⟨hq, hp, hg0, hg6⟩ := highest_can HG2.out
              rw [HG1.out] at hq hp hg0 hg6
              have g1 := congrArg Prod.fst hq
              have g2 := congrArg Prod.snd hq
              have G1x := Lib.hid g1
              have G2x := Lib.hid g2
              have HP := Lib.hid hp
              clear hq g1 g2 hp
              have t0 := K3.out.cellAt 0 (by omega)
              have t1 := K3.out.cellAt 1 (by omega)
              have t2 := K3.out.cellAt 2 (by omega)
              have t3 := K3.out.cellAt 3 (by omega)
              have t4 := K3.out.cellAt 4 (by omega)
              dsimp only [List.getElem?_cons_zero, List.getElem?_cons_succ] at t0 t1 t2 t3 t4
              go_wp2_with fail
              refine (canReachI_c b3 n3 o3 s3 m3 x3 G1 _ HS.out).mono ?_; rw [G1x.out, G2x.out]; rintro e wq ⟨rfl, hb⟩
              have HBQ := Lib.hid hb
              have HS2 := Lib.hid (sinTab_below HS.out hb)
              have K3' := Lib.hid (own_below K3.out hb)
              clear hb t0 t1 t2 t3 t4
              by_cases hlt : G1 < 600
              · have hs1 : IntKind.i64.wrap (G1 + 1) = G1 + 1 := IntWalk.i64_in _ (by omega)
                have hp := HP.out hlt
                have g1 := congrArg Prod.fst hp
                have g2 := congrArg Prod.snd hp
                have G3x := Lib.hid g1
                have G4x := Lib.hid g2
                clear g1 g2 hp
                have t0 := K3'.out.cellAt 0 (by omega)
                have t1 := K3'.out.cellAt 1 (by omega)
                have t2 := K3'.out.cellAt 2 (by omega)
                have t3 := K3'.out.cellAt 3 (by omega)
                have t4 := K3'.out.cellAt 4 (by omega)
                dsimp only [List.getElem?_cons_zero, List.getElem?_cons_succ] at t0 t1 t2 t3 t4
                go_wp2_with fail
                refine (canReachI_c b3 n3 o3 s3 m3 x3 (G1 + 1) _ HS2.out).mono ?_; rw [G3x.out, G4x.out]; rintro e wr ⟨rfl, hb⟩
                go_wp2_with fail
                go_meet
                exact bel_then HBQ.out hb
              · have hlt2 : 600 ≤ G1 := by omega
                go_wp2_with fail
                go_meet
                exact HBQ.out
          case rest => as_aux_lemma =>
            have hb := hcut
            clear hcut
            replace HB := Lib.hid (bel_then HB.out hb)
            replace HS := Lib.hid (sinTab_below HS.out hb)
            replace K1 := Lib.hid (own_below K1.out hb)
            replace K2 := Lib.hid (own_below K2.out hb)
            replace K3 := Lib.hid (own_below K3.out hb)
            replace K4 := Lib.hid (own_below K4.out hb)
            clear hb
            cases F2 with
            | false =>
              go_wp2
              go_ret
              exact ⟨rfl, HB.out⟩
            | true =>
              obtain ⟨hq, hf⟩ := farthest_can HF2.out
              rw [HF1.out] at hq hf
              have g1 := congrArg Prod.fst hq
              have g2 := congrArg Prod.snd hq
              have G1x := Lib.hid g1
              have G2x := Lib.hid g2
              clear hq g1 g2
              have t0 := K4.out.cellAt 0 (by omega)
              have t1 := K4.out.cellAt 1 (by omega)
              have t2 := K4.out.cellAt 2 (by omega)
              have t3 := K4.out.cellAt 3 (by omega)
              have t4 := K4.out.cellAt 4 (by omega)
              dsimp only [List.getElem?_cons_zero, List.getElem?_cons_succ] at t0 t1 t2 t3 t4
              go_wp2_with fail
              refine (canReachI_c b4 n4 o4 s4 m4 F1 y4 _ HS.out).mono ?_; rw [G1x.out, G2x.out]; rintro e wq ⟨rfl, hb⟩
              have K4 := Lib.hid (own_below K4.out hb)
              have HB := Lib.hid (bel_then HB.out hb)
              clear hb t0 t1 t2 t3 t4
              have t0 := K4.out.cellAt 0 (by omega)
              have t1 := K4.out.cellAt 1 (by omega)
              have t2 := K4.out.cellAt 2 (by omega)
              have t3 := K4.out.cellAt 3 (by omega)
              have t4 := K4.out.cellAt 4 (by omega)
              dsimp only [List.getElem?_cons_zero, List.getElem?_cons_succ] at t0 t1 t2 t3 t4
              go_wp2
              go_ret
              exact ⟨rfl, HB.out⟩
end Go.Proofs.YtibkadkodblefaaDoor
