/-
  The draw of choices that are given by names (printed by gen_drawtu.py). The draw of what is sent (printed by gen_drawtu.py). (joined by pack.py: DrawIb DrawSn)
-/
import Derived.Test.YthgegghdkoeofaaGreatDoorK33
import Derived.Test.YthgegghdkoeofaaGreatDoorK24
import Derived.Test.YthgegghdkoeofaaGreatDoorK20
import Derived.Test.YthgegghdkoeofaaGreatDoorK14
import Derived.Deep.CutBlock
namespace Go.Proofs.YthgegghdkoeofaaGreatDoor
set_option linter.unusedVariables false
set_option linter.unusedSimpArgs false
open Go.RowKit

/-- The variables of such a draw. -/
structure ChSt (B : Nat) (l : List Int) (a k w1s ws : Nat) (RT : Nat) (n : Int) (A : Option Addr) (L : List St) (c : Nat) (vf : Value) (F : List Ap) (vq : Value) (Q : List Int) (W1 W : World) : Prop where
  ht : W.ownsRow w1s 47 2 (.slice (some ⟨RT, 0, none⟩) 1 1) 1 [.int .i64 n, .slice A L.length c]
  hf : FreshT W ws
  ho : RdB w1s W (.slice A L.length c) L.length (L.flatMap St.cells)
  hfl : RdB w1s W vf F.length (F.flatMap Ap.cells)
  hq : W.ownsRow w1s 3 1 vq Q.length (ints Q)
  hd : Drew B l a k W1 W
  hR : RT < W.heap.size
theorem ch_drew {B : Nat} {l : List Int} {a k j w1s ws : Nat} {RT : Nat} {n : Int} {A : Option Addr} {L : List St} {c : Nat} {vf : Value} {F : List Ap} {vq : Value} {Q : List Int} {W1 W W' : World} (h : ChSt B l a k w1s ws RT n A L c vf F vq Q W1 W) (g : Drew B l (a + k) j W W') (hB : B < w1s) (hw : ws ≠ B) : ChSt B l a (k + j) w1s ws RT n A L c vf F vq Q W1 W' :=
  ⟨own_draw h.ht g.2 hB, fresh_gro h.hf g.2 hw, rdb_gro h.ho g.2 hB, rdb_gro h.hfl g.2 hB, own_draw h.hq g.2 hB, h.hd.trans g, Nat.lt_of_lt_of_le h.hR g.2.size⟩
theorem ch_bel {B : Nat} {l : List Int} {a k w1s ws : Nat} {RT : Nat} {n : Int} {A : Option Addr} {L : List St} {c : Nat} {vf : Value} {F : List Ap} {vq : Value} {Q : List Int} {W1 W W' : World} (h : ChSt B l a k w1s ws RT n A L c vf F vq Q W1 W) (g : Below W.heap.size W W') : ChSt B l a k w1s ws RT n A L c vf F vq Q W1 W' :=
  ⟨own_below h.ht g, own_below h.hf g, rdb_bel h.ho g, rdb_bel h.hfl g, own_below h.hq g, h.hd.bel g, Nat.lt_of_lt_of_le h.hR g.size⟩
theorem namesI_small {f : List Ap} (h : ∀ x ∈ f, x.nm.size ≤ 7) (S : List Int) : ∀ x ∈ namesI f S, x.size ≤ 7 := fun x hx => by
  unfold namesI at hx
  obtain ⟨y, _, rfl⟩ := List.mem_map.1 hx
  unfold nmI
  split
  · rename_i a ha; exact h a (List.mem_of_getElem? ha)
  · decide
theorem strs_set9 (q : List ByteArray) (k : Nat) (y : ByteArray) : (strs q).set k (.string y) = strs (q.set k y) := by simp [strs, List.map_set]

end Go.Proofs.YthgegghdkoeofaaGreatDoor

namespace Go.Proofs.YthgegghdkoeofaaGreatDoor
set_option linter.unusedVariables false
set_option linter.unusedSimpArgs false
open Go.RowKit

set_option maxRecDepth 100000 in
set_option maxHeartbeats 4000000 in
theorem drawSendChoice_c (v : Value) (l : List Int) (hn : l.length ≤ 9223372036854775807) (hl : BytesOk l) (w : World) (hr : Rd w v l.length (bys l)) :
    Calls Tryz.prog 26 #[v] w fun e w' => (∃ (n : Int) (s : Value) (T : List St) (vf : Value) (F : List Ap) (x : Int) (vq : Value) (Q : List Int), e = .returned (.tuple #[.agg #[.int .i64 n, s], vf, .int .i64 x, vq]) ∧ Rd w' s T.length (T.flatMap St.cells) ∧ Rd w' vf F.length (F.flatMap Ap.cells) ∧ F.length ≤ 13 ∧ (∀ x ∈ F, x.nm.size ≤ 7) ∧ RdI w' vq Q ∧ Q.length ≤ 4) ∧ Below w.heap.size w w' := by
  have HB9 := Lib.hid hr
  have HL := Lib.hid hl
  obtain ⟨A0, c0, rfl, _⟩ := hr
  clear hl
  go_enter Tryz.func26, Tryz.ntmps26
  go_upto_region 1 with fail
  generalize hW : World.alloc w _ = W0
  have hf0 : FreshT W0 w.heap.size := by subst hW; exact fresh_new w _ rfl
  have hb0 : Below w.heap.size w W0 := by subst hW; exact bel_al (Below.refl _ _) _
  have sz0 : W0.heap.size = w.heap.size + 1 := by subst hW; simp
  have HF := Lib.hid hf0
  have HB0 := Lib.hid hb0
  have HRd := Lib.hid (rd_below HB9.out hb0)
  have HSZ := Lib.hid sz0
  have sz0' : w.heap.size < W0.heap.size := by omega
  clear hW hf0 hb0 sz0
  go_upto_region 2 with fail
  generalize hW : World.alloc W0 _ = W1
  have hc := cur_new W0 _ l HRd.out hn W1 (by subst hW; simp [go_sem]) (by subst hW; simp [go_sem]) (by subst hW; simp [go_sem]) (by subst hW; simp [go_sem]) (by subst hW; simp [go_sem]) (by subst hW; exact bel_al (Below.refl _ _) _)
  have hb1 : Below W0.heap.size W0 W1 := by subst hW; exact bel_al (Below.refl _ _) _
  have HF := Lib.hid (own_below HF.out hb1 : FreshT W1 w.heap.size)
  have HB1 := Lib.hid hb1
  have sz1 := hb1.size
  obtain ⟨B, hBd⟩ : ∃ B, W0.heap.size = B := ⟨_, rfl⟩
  rw [hBd] at hc ⊢
  have HBD := Lib.hid hBd
  have hwB : w.heap.size < B := by omega
  have hwB1 : B ≤ w.heap.size + 1 := by have := HSZ.out; omega
  have hBb : B < W1.heap.size := hc.lt
  obtain ⟨a, ha0, ha1⟩ : ∃ a : Nat, a = 0 ∧ a ≤ 0 := ⟨0, rfl, Nat.le_refl _⟩
  rw [← ha0] at hc
  have HD := Lib.hid (Drew.refl hc 0)
  clear hW hb1 hBd hc ha0
  go_wp2_with fail
  refine (turnout_c B l HL.out (a + 0) (by omega) _ HD.out.1).mono ?_; rintro e W2 ⟨n, v, L, vf, F, rfl, ho, hof, hF, hFs, hd⟩
  obtain ⟨Av, cv, rfl, -⟩ := ho.1
  obtain ⟨Af, cf, rfl, -⟩ := hof.1
  have HD := Lib.hid (HD.out.trans hd)
  have HF := Lib.hid (fresh_gro HF.out hd.2 (by omega))
  have HO := Lib.hid ho
  have HFL := Lib.hid hof
  have HFS := Lib.hid hFs
  have sz2 := hd.2.size
  clear hd ho hof hFs
  go_upto_region 3 with fail
  generalize hW : World.alloc W2 _ = W3
  have ht : W3.ownsRow W1.heap.size 47 2 (.slice (some ⟨W2.heap.size, 0, none⟩) 1 1) 1 [.int .i64 n, .slice Av L.length cv] := by subst hW; exact own_base (row_new W2 _ _ 1 2 rfl (by omega) (by omega)) (by omega)
  have hbl : Below W2.heap.size W2 W3 := by subst hW; exact bel_al (Below.refl _ _) _
  have szR : W2.heap.size < W3.heap.size := by subst hW; simp
  obtain ⟨RT, hRT⟩ : ∃ RT, W2.heap.size = RT := ⟨_, rfl⟩
  have hRTw : w.heap.size < RT := by omega
  have hRTB : RT ≠ B := by omega
  rw [hRT] at ht szR ⊢
  have HD := Lib.hid (HD.out.bel hbl)
  have HF := Lib.hid (own_below HF.out hbl : FreshT W3 w.heap.size)
  have HO := Lib.hid (rdb_bel HO.out hbl)
  have HFL := Lib.hid (rdb_bel HFL.out hbl)
  have HT := Lib.hid ht
  have sw3 : W1.heap.size ≤ W3.heap.size := by omega
  clear hW ht hbl hRT
  have t0 := HT.out.cellAt 0 (by omega)
  have t1 := HT.out.cellAt 1 (by omega)
  dsimp only [List.getElem?_cons_zero, List.getElem?_cons_succ] at t0 t1
  have hBw : B < W1.heap.size := hBb
  have hwne : w.heap.size ≠ B := by omega
  go_wp2_with fail
  refine (nodeOf_c B l HL.out (a + (0 + 9000)) (by omega) _ HD.out.1 n Av L.length cv).mono ?_; rintro e W4 ⟨x, rfl, hd⟩
  have HT := Lib.hid (own_draw HT.out hd.2 hBw)
  have HF := Lib.hid (fresh_gro HF.out hd.2 hwne)
  have HO := Lib.hid (rdb_gro HO.out hd.2 hBw)
  have HFL := Lib.hid (rdb_gro HFL.out hd.2 hBw)
  have HD := Lib.hid (HD.out.trans hd)
  have sz4 := hd.2.size
  have hB4 : B < W4.heap.size := by omega
  clear hd t0 t1
  go_wp2_with fail
  refine (need_c B l HL.out (a + (0 + 9000 + 20)) (by omega) _ HD.out.1).mono ?_; rintro e W5 ⟨vq, Q, rfl, hoq, hQ, hd⟩
  obtain ⟨Aq, cq, hvq, hcq, hmq, -⟩ := rdi_own hoq
  rw [maxLen_eq] at hmq
  have sz5 := hd.2.size
  have HE := Lib.hid hd
  have HQ := Lib.hid hoq
  subst hvq
  have HZ : Hid (∀ x ∈ F, x.nm.size ≤ 9223372036854775807) := Lib.hid (fun x hx => Nat.le_trans (HFS.out x hx) (by decide))
  clear hoq hd
  go_upto_region 4 with fail
  go_cut [40] from 29 to 40 (fun v wx => ∃ bb : Bool, v = .bool bb ∧ Hid (bb = true → askD n L F x = true ∧ needB Q = true) ∧ Hid (Drew B l (a + (0 + 9000 + 20)) 18 W4 wx) ∧ Hid (wx.ownsRow W4.heap.size 3 1 (.slice Aq Q.length cq) Q.length (ints Q)))
  case first =>
    have t0 := (own_draw HT.out HE.out.2 hBw).cellAt 0 (by omega)
    have t1 := (own_draw HT.out HE.out.2 hBw).cellAt 1 (by omega)
    dsimp only [List.getElem?_cons_zero, List.getElem?_cons_succ] at t0 t1
    go_wp2_with fail
    refine (dsAsked_c n _ L _ F x _ (rdb_gro HO.out HE.out.2 hBw).1 HZ.out (rdb_gro HFL.out HE.out.2 hBw).1).mono ?_; rintro e W6 ⟨rfl, hb⟩
    have HE := Lib.hid (HE.out.bel hb)
    have HQ := Lib.hid (own_below HQ.out hb)
    clear hb t0 t1
    cases hg : askD n L F x with
    | false =>
      go_wp2_with fail
      go_meet
      exact ⟨false, rfl, Lib.hid (by simp), Lib.hid (HE.out.more (by omega)), HQ⟩
    | true =>
      have HG := Lib.hid hg
      clear hg
      go_wp2_with fail
      refine (tbNeed_c _ Q _ (rdi_own HQ.out)).mono ?_; rintro e W7 ⟨rfl, rfl⟩
      cases hne : needB Q with
      | false =>
        go_wp2_with fail
        go_meet
        exact ⟨false, rfl, Lib.hid (by simp), Lib.hid (HE.out.more (by omega)), HQ⟩
      | true =>
        have HNE := Lib.hid hne
        clear hne
        go_wp2_with fail
        refine (one_c B l HL.out (a + (0 + 9000 + 20) + 16) (by omega) 2 (by omega) _ HE.out.1).mono ?_; rintro e W8 ⟨b, rfl, hd⟩
        have HE := Lib.hid (HE.out.trans hd)
        have HQ := Lib.hid (own_draw HQ.out hd.2 hB4)
        clear hd
        go_wp2_with fail
        go_meet
        exact ⟨b, rfl, Lib.hid (fun _ => ⟨HG.out, HNE.out⟩), Lib.hid (HE.out.more (by omega)), HQ⟩
  case rest => as_aux_lemma =>
    obtain ⟨bb, rfl, HBB, HE, HQ⟩ := hcut
    obtain ⟨W8, hW8⟩ : ∃ X, X = wc := ⟨_, rfl⟩
    subst hW8
    go_upto_if 40 with fail
    go_cut [64] from 11 to 64 (fun v wx => ∃ Q2 : List Int, Hid (Q2.length = Q.length) ∧ Hid (Drew B l (a + (0 + 9000 + 20)) 18 W4 wx) ∧ Hid (wx.ownsRow W4.heap.size 3 1 (.slice Aq Q.length cq) Q.length (ints Q2)))
    case first =>
      cases bb with
      | false =>
        go_wp2_with fail
        go_meet
        exact ⟨Q, Lib.hid rfl, HE, HQ⟩
      | true =>
        obtain ⟨hask, hne⟩ := HBB.out rfl
        obtain ⟨hds, hx0, hx1⟩ := askD_true hask
        obtain ⟨hgt, hgf, hnd⟩ := goodDs_true hds
        have hn1 := (goodTown_true hgt).1
        obtain ⟨N, rfl⟩ := Int.eq_ofNat_of_zero_le (show 0 ≤ n by omega)
        obtain ⟨src, rfl⟩ := Int.eq_ofNat_of_zero_le hx0
        have hs : src < N := by omega
        have HGT := Lib.hid hgt
        have HGF := Lib.hid hgf
        have HND := Lib.hid hnd
        have HNE := Lib.hid hne
        clear hds hgt hgf hnd hx0 hx1 hask hne HBB
        have t0 := (own_draw HT.out HE.out.2 hBw).cellAt 0 (by omega)
        have t1 := (own_draw HT.out HE.out.2 hBw).cellAt 1 (by omega)
        dsimp only [List.getElem?_cons_zero, List.getElem?_cons_succ] at t0 t1
        go_wp2_with fail
        refine (dsPick_c N _ L _ F src _ Q _ HGT.out HGF.out HND.out hs HNE.out (rdb_gro HO.out HE.out.2 hBw).1 (rdb_gro HFL.out HE.out.2 hBw).1 (rdi_own HQ.out)).mono ?_
        rintro e W9 ⟨xx, yy, zz, rfl, -, hy, -, hb⟩
        have HE9 := Lib.hid (HE.out.bel hb)
        have HQ9 := Lib.hid (own_below HQ.out hb)
        have hyl : (pickL F (readyL (distT N (arcs L) src) F) Q).2.length = Q.length := by rw [← pick_miss, miss_len4]
        obtain ⟨M, hM⟩ : ∃ M, (pickL F (readyL (distT N (arcs L) src) F) Q).2 = M := ⟨_, rfl⟩
        rw [hM] at hy hyl
        have hM4 : M.length ≤ 4 := by omega
        have hW48 := HE.out.2.size
        have hylo : ∀ b off m c, yy = .slice (some ⟨b, off, none⟩) m c → W8.heap.size ≤ b := fun b off m c e => (hy.lt b (by rw [e]; rfl)).1
        obtain ⟨Am, cm, hym, hcm, hmm, hclm⟩ := rdi_own hy
        subst hym
        rw [maxLen_eq] at hmm
        have HCM := Lib.hid hclm
        have HYL := Lib.hid hyl
        have HYO := Lib.hid hylo
        have HQ8 := Lib.hid HQ.out.lt
        clear hb hy hyl hM hclm hylo t0 t1
        go_wp2_with fail
        go_loopw [52] (fun v52 wr => ∃ (k : Nat) (Q2 : List Int), k ≤ M.length ∧ v52 = .int .i64 k ∧ Hid (Q2.length = Q.length) ∧ Hid (Drew B l (a + (0 + 9000 + 20)) 18 W4 wr) ∧ Hid (wr.ownsRow W4.heap.size 3 1 (.slice Aq Q.length cq) Q.length (ints Q2)) ∧ Hid (W9.grownBy wr (Value.slice Aq Q.length cq).ownBlock)) (fun v52 _ => M.length - (intOf v52).toNat)
        case atStart => exact ⟨0, Q, Nat.zero_le _, rfl, Lib.hid rfl, HE9, HQ9, Lib.hid (World.grownBy.refl _ _)⟩
        case round =>
          obtain ⟨k, Q2, hk, rfl, HQ2, HEr, HQr, HGr⟩ := hrel
          obtain ⟨wA, rfl⟩ : ∃ wA : World, wA = wr := ⟨_, rfl⟩
          have k0 : (0 : Int) ≤ (k : Int) := by omega
          by_cases hlt : k < M.length
          · have hkQ : k < Q.length := by have := HYL.out; omega
            have k1 : (k : Int) < (M.length : Int) := by omega
            have k2 : (k : Int) < (Q.length : Int) := by omega
            obtain ⟨bm, om, rfl, hbm, hcl⟩ := HCM.out (by omega)
            have hlo := HYO.out bm om _ _ rfl
            obtain ⟨g, rfl, hg1, hg2⟩ := own_at HQr.out (by omega)
            have hgm : bm ≠ g := by have := (HQ8.out g rfl).2; omega
            obtain ⟨y, hy⟩ : ∃ y, M[k]? = some y := ⟨_, List.getElem?_eq_getElem hlt⟩
            have cm0 := (gro_cell HGr.out (o := om + k) hbm hgm).trans (hcl k _ (ints_get hy))
            obtain ⟨z, hz⟩ : ∃ z, Q2[k]? = some z := ⟨_, List.getElem?_eq_getElem (by rw [HQ2.out]; exact hkQ)⟩
            have c0 := HQr.out.cellAt k (by omega)
            rw [ints_get hz] at c0
            have f0 := HQr.out.frozenAt k
            obtain ⟨u, hu⟩ : ∃ u, IntKind.i64.wrap (z - y) = u := ⟨_, rfl⟩
            have hns : (wA.setCell ⟨g, k, none⟩ (.int .i64 u)).ownsRow W4.heap.size 3 1 (.slice (some ⟨g, 0, none⟩) Q.length cq) Q.length (ints (Q2.set k u)) := by
              have e1 : ints (Q2.set k u) = putAt (ints Q2) k [.int .i64 u] := by
                show _ = List.set _ _ _
                unfold ints
                rw [List.map_set]
              rw [e1]; exact own_put [.int .i64 u] wA _ k HQr.out
            have HNS := Lib.hid hns
            have HEN := Lib.hid (HEr.out.own (only_setCell (World.grownBy.refl _ (some g)) k (.int .i64 u)) hg1 hB4)
            have HGN : Hid (W9.grownBy (wA.setCell ⟨g, k, none⟩ (.int .i64 u)) (Value.slice (some ⟨g, 0, none⟩) Q.length cq).ownBlock) := Lib.hid (only_setCell HGr.out k _)
            have HLN : Hid ((Q2.set k u).length = Q.length) := Lib.hid (by rw [List.length_set]; exact HQ2.out)
            clear hns hcl hy hz
            go_wp2
            exact ⟨⟨k + 1, Q2.set k u, by omega, by go_num, HLN, HEN, HNS, HGN⟩, by simp [intOf]; omega⟩
          · obtain rfl : k = M.length := by omega
            go_wp2_with fail
            go_meet
            exact ⟨Q2, HQ2, HEr, HQr⟩
    case rest => as_aux_lemma =>
      obtain ⟨Q2, HQ2, HE, HQ⟩ := hcut
      have t0 := (own_draw HT.out HE.out.2 hBw).cellAt 0 (by omega)
      have t1 := (own_draw HT.out HE.out.2 hBw).cellAt 1 (by omega)
      dsimp only [List.getElem?_cons_zero, List.getElem?_cons_succ] at t0 t1
      have r0 := fresh_c0 (fresh_gro HF.out HE.out.2 hwne)
      have r1 := fresh_c1 (fresh_gro HF.out HE.out.2 hwne)
      have f0 := fresh_f (fresh_gro HF.out HE.out.2 hwne) 0
      have f1 := fresh_f (fresh_gro HF.out HE.out.2 hwne) 1
      have hwR : RT ≠ w.heap.size := by omega
      go_wp2
      have HDD := Lib.hid (HD.out.trans HE.out)
      have HOO : Below W0.heap.size W0 wc := by have h := HDD.out; rw [← HBD.out] at h; exact Drew.out HB1.out h
      refine bodyPost_ret (v := .tuple #[.agg #[.int .i64 n, .slice Av L.length cv], .slice Af F.length cf, .int .i64 x, .slice Aq Q.length cq]) (by simp [results, Tryz.results26, go_sem, r0, r1]) rfl ?_
      have hg : World.grownBy wc ((World.setCell wc ⟨w.heap.size, 0, none⟩ (.int .i64 n)).setCell ⟨w.heap.size, 1, none⟩ (.slice Av L.length cv)) (some w.heap.size) := (only_setCell (only_setCell (World.grownBy.refl _ _) 0 _) 1 _)
      have hq2 : RdB W4.heap.size wc (.slice Aq Q.length cq) Q2.length (ints Q2) := by rw [HQ2.out]; exact rdb_own HQ.out
      exact ⟨⟨n, _, L, _, F, x, _, Q2, rfl, (rdb_gro (rdb_gro HO.out HE.out.2 hBw) hg (by omega)).1, (rdb_gro (rdb_gro HFL.out HE.out.2 hBw) hg (by omega)).1, hF, HFS.out, (rdb_gro hq2 hg (by omega)).1, by rw [HQ2.out]; exact hQ⟩, bel_grown (bel_then HB0.out HOO) hg (fun q e => Nat.le_of_eq (Option.some.inj e))⟩
end Go.Proofs.YthgegghdkoeofaaGreatDoor
