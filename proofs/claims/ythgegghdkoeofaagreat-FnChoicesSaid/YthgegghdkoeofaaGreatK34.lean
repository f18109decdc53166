/-
  The draw of choices that are given by names (printed by gen_drawtu.py). The walk of FnChoices (printed by gen_chw.py). (joined by pack.py: DrawIb ChW)
-/
import Derived.Test.YthgegghdkoeofaaGreatK33
import Derived.Test.YthgegghdkoeofaaGreatK24
import Derived.Test.YthgegghdkoeofaaGreatK20
import Derived.Test.YthgegghdkoeofaaGreatK14
import Derived.Deep.CutBlock
import Derived.Test.YthgegghdkoeofaaGreatK18
import Derived.Test.YthgegghdkoeofaaGreatK25
import Derived.Test.YthgegghdkoeofaaGreatK3
import Derived.Test.YthgegghdkoeofaaGreatK8
import Derived.BigRegion
import Derived.BigQuiet
import Derived.Deep.QuietTactic
import Derived.Deep.CutRange
import Derived.Deep.RegionHeld3
namespace Go.Proofs.YthgegghdkoeofaaGreat
set_option linter.unusedVariables false
set_option linter.unusedSimpArgs false
open Go.RowKit

/-- The variables of such a draw. -/
structure ChSt (B : Nat) (l : List Int) (a k w1s ws : Nat) (RT : Nat) (n : Int) (A : Option Addr) (L : List St) (c : Nat) (vf : Value) (F : List Ap) (vq : Value) (Q : List Int) (W1 W : World) : Prop where
  ht : W.ownsRow w1s 26 2 (.slice (some ⟨RT, 0, none⟩) 1 1) 1 [.int .i64 n, .slice A L.length c]
  hf : FreshT W ws
  ho : RdB w1s W (.slice A L.length c) L.length (L.flatMap St.cells)
  hfl : RdB w1s W vf F.length (F.flatMap Ap.cells)
  hq : W.ownsRow w1s 3 1 vq Q.length (ints Q)
  hd : Drew B l a k W1 W
  hR : RT < W.heap.size
theorem ch_drew {B : Nat} {l : List Int} {a k j w1s ws : Nat} {RT : Nat} {n : Int} {A : Option Addr} {L : List St} {c : Nat} {vf : Value} {F : List Ap} {vq : Value} {Q : List Int} {W1 W W' : World} (h : ChSt B l a k w1s ws RT n A L c vf F vq Q W1 W) (g : Drew B l (a + k) j W W') (hB : B < w1s) (hw : ws ≠ B) : ChSt B l a (k + j) w1s ws RT n A L c vf F vq Q W1 W' :=
  ⟨own_draw h.ht g.2 hB, fresh_gro h.hf g.2 hw, rdb_gro h.ho g.2 hB, rdb_gro h.hfl g.2 hB, own_draw h.hq g.2 hB, h.hd.trans g, Nat.lt_of_lt_of_le h.hR g.2.size⟩
theorem ch_bel {B : Nat} {l : List Int} {a k w1s ws : Nat} {RT : Nat} {n : Int} {A : Option Addr} {L : List St} {c : Nat} {vf : Value} {F : List Ap} {vq : Value} {Q : List Int} {W1 W W' : World} (h : ChSt B l a k w1s ws RT n A L c vf F vq Q W1 W) (g : Below W.heap.size W W') : ChSt B l a k w1s ws RT n A L c vf F vq Q W1 W' :=
  ⟨own_below h.ht g, own_below h.hf g, rdb_bel h.ho g, rdb_bel h.hfl g, own_below h.hq g, h.hd.bel g, Nat.lt_of_lt_of_le h.hR g.size⟩
theorem namesI_small {f : List Ap} (h : ∀ x ∈ f, x.nm.size ≤ 7) (S : List Int) : ∀ x ∈ namesI f S, x.size ≤ 7 := fun x hx => by
  unfold namesI at hx
  obtain ⟨y, _, rfl⟩ := List.mem_map.1 hx
  unfold nmI
  split
  · rename_i a ha; exact h a (List.mem_of_getElem? ha)
  · decide
theorem strs_set9 (q : List ByteArray) (k : Nat) (y : ByteArray) : (strs q).set k (.string y) = strs (q.set k y) := by simp [strs, List.map_set]

set_option maxRecDepth 100000 in
set_option maxHeartbeats 4000000 in
theorem drawIsBestChoice_c (v : Value) (l : List Int) (hn : l.length ≤ 9223372036854775807) (hl : BytesOk l) (w : World) (hr : Rd w v l.length (bys l)) :
    Calls Tryz.prog 19 #[v] w fun e w' => (∃ (n : Int) (s : Value) (T : List St) (vf : Value) (F : List Ap) (x : Int) (vq : Value) (Q : List Int) (vs : Value) (q : List ByteArray), e = .returned (.tuple #[.agg #[.int .i64 n, s], vf, .int .i64 x, vq, vs]) ∧ Rd w' s T.length (T.flatMap St.cells) ∧ Rd w' vf F.length (F.flatMap Ap.cells) ∧ F.length ≤ 13 ∧ (∀ x ∈ F, x.nm.size ≤ 7) ∧ RdI w' vq Q ∧ Q.length ≤ 4 ∧ RdS w' vs q ∧ q.length ≤ 1001 ∧ (∀ x ∈ q, x.size ≤ 7)) ∧ Below w.heap.size w w' := by
  have HB9 := Lib.hid hr
  have HL := Lib.hid hl
  obtain ⟨A0, c0, rfl, _⟩ := hr
  clear hl
  go_enter Tryz.func19, Tryz.ntmps19
  go_upto_region 1 with fail
  generalize hW : World.alloc w _ = W0
  have hf0 : FreshT W0 w.heap.size := by subst hW; exact fresh_new w _ rfl
  have hb0 : Below w.heap.size w W0 := by subst hW; exact bel_al (Below.refl _ _) _
  have sz0 : W0.heap.size = w.heap.size + 1 := by subst hW; simp
  have HF := Lib.hid hf0
  have HB0 := Lib.hid hb0
  have HRd := Lib.hid (rd_below HB9.out hb0)
  have HSZ := Lib.hid sz0
  have sz0' : w.heap.size < W0.heap.size := by omega
  clear hW hf0 hb0 sz0
  go_upto_region 2 with fail
  generalize hW : World.alloc W0 _ = W1
  have hc := cur_new W0 _ l HRd.out hn W1 (by subst hW; simp [go_sem]) (by subst hW; simp [go_sem]) (by subst hW; simp [go_sem]) (by subst hW; simp [go_sem]) (by subst hW; simp [go_sem]) (by subst hW; exact bel_al (Below.refl _ _) _)
  have hb1 : Below W0.heap.size W0 W1 := by subst hW; exact bel_al (Below.refl _ _) _
  have HF := Lib.hid (own_below HF.out hb1 : FreshT W1 w.heap.size)
  have HB1 := Lib.hid hb1
  have sz1 := hb1.size
  obtain ⟨B, hBd⟩ : ∃ B, W0.heap.size = B := ⟨_, rfl⟩
  rw [hBd] at hc ⊢
  have HBD := Lib.hid hBd
  have hwB : w.heap.size < B := by omega
  have hwB1 : B ≤ w.heap.size + 1 := by have := HSZ.out; omega
  have hBb : B < W1.heap.size := hc.lt
  obtain ⟨a, ha0, ha1⟩ : ∃ a : Nat, a = 0 ∧ a ≤ 0 := ⟨0, rfl, Nat.le_refl _⟩
  rw [← ha0] at hc
  have HD := Lib.hid (Drew.refl hc 0)
  clear hW hb1 hBd hc ha0
  go_wp2_with fail
  refine (turnout_c B l HL.out (a + 0) (by omega) _ HD.out.1).mono ?_; rintro e W2 ⟨n, v, L, vf, F, rfl, ho, hof, hF, hFs, hd⟩
  obtain ⟨Av, cv, rfl, -⟩ := ho.1
  obtain ⟨Af, cf, rfl, -⟩ := hof.1
  have HD := Lib.hid (HD.out.trans hd)
  have HF := Lib.hid (fresh_gro HF.out hd.2 (by omega))
  have HO := Lib.hid ho
  have HFL := Lib.hid hof
  have HFS := Lib.hid hFs
  have sz2 := hd.2.size
  clear hd ho hof hFs
  go_upto_region 3 with fail
  generalize hW : World.alloc W2 _ = W3
  have ht : W3.ownsRow W1.heap.size 26 2 (.slice (some ⟨W2.heap.size, 0, none⟩) 1 1) 1 [.int .i64 n, .slice Av L.length cv] := by subst hW; exact own_base (row_new W2 _ _ 1 2 rfl (by omega) (by omega)) (by omega)
  have hbl : Below W2.heap.size W2 W3 := by subst hW; exact bel_al (Below.refl _ _) _
  have szR : W2.heap.size < W3.heap.size := by subst hW; simp
  obtain ⟨RT, hRT⟩ : ∃ RT, W2.heap.size = RT := ⟨_, rfl⟩
  have hRTw : w.heap.size < RT := by omega
  have hRTB : RT ≠ B := by omega
  rw [hRT] at ht szR ⊢
  have HD := Lib.hid (HD.out.bel hbl)
  have HF := Lib.hid (own_below HF.out hbl : FreshT W3 w.heap.size)
  have HO := Lib.hid (rdb_bel HO.out hbl)
  have HFL := Lib.hid (rdb_bel HFL.out hbl)
  have HT := Lib.hid ht
  have sw3 : W1.heap.size ≤ W3.heap.size := by omega
  clear hW ht hbl hRT
  have t0 := HT.out.cellAt 0 (by omega)
  have t1 := HT.out.cellAt 1 (by omega)
  dsimp only [List.getElem?_cons_zero, List.getElem?_cons_succ] at t0 t1
  have hBw : B < W1.heap.size := hBb
  have hwne : w.heap.size ≠ B := by omega
  go_wp2_with fail
  refine (nodeOf_c B l HL.out (a + (0 + 9000)) (by omega) _ HD.out.1 n Av L.length cv).mono ?_; rintro e W4 ⟨x, rfl, hd⟩
  have HT := Lib.hid (own_draw HT.out hd.2 hBw)
  have HF := Lib.hid (fresh_gro HF.out hd.2 hwne)
  have HO := Lib.hid (rdb_gro HO.out hd.2 hBw)
  have HFL := Lib.hid (rdb_gro HFL.out hd.2 hBw)
  have HD := Lib.hid (HD.out.trans hd)
  have sz4 := hd.2.size
  clear hd t0 t1
  go_wp2_with fail
  refine (need_c B l HL.out (a + (0 + 9000 + 20)) (by omega) _ HD.out.1).mono ?_; rintro e W5 ⟨vq, Q, rfl, hoq, hQ, hd⟩
  obtain ⟨Aq, cq, hvq, -, -, -⟩ := rdi_own hoq
  have sz5 := hd.2.size
  have HST : Hid (ChSt B l a (0 + 9000 + 20 + 16) W1.heap.size w.heap.size RT n Av L cv (.slice Af F.length cf) F vq Q W1 W5) := Lib.hid ⟨own_draw HT.out hd.2 hBw, fresh_gro HF.out hd.2 hwne, rdb_gro HO.out hd.2 hBw, rdb_gro HFL.out hd.2 hBw, own_base hoq (by omega), HD.out.trans hd, by omega⟩
  subst hvq
  have HZ : Hid (∀ x ∈ F, x.nm.size ≤ 9223372036854775807) := Lib.hid (fun x hx => Nat.le_trans (HFS.out x hx) (by decide))
  clear hoq hd HT HF HO HFL HD
  go_upto_region 4 with fail
  go_cut [42] from 30 to 42 (fun v wx => ∃ bb : Bool, v = .bool bb ∧ Hid (bb = true → askD n L F x = true ∧ needB Q = true) ∧ ChSt B l a 9040 W1.heap.size w.heap.size RT n Av L cv (.slice Af F.length cf) F (.slice Aq Q.length cq) Q W1 wx)
  case first =>
    have t0 := HST.out.ht.cellAt 0 (by omega)
    have t1 := HST.out.ht.cellAt 1 (by omega)
    dsimp only [List.getElem?_cons_zero, List.getElem?_cons_succ] at t0 t1
    go_wp2_with fail
    refine (dsAsked_c n _ L _ F x _ HST.out.ho.1 HZ.out HST.out.hfl.1).mono ?_; rintro e W6 ⟨rfl, hb⟩
    have HST := Lib.hid (ch_bel HST.out hb)
    clear hb t0 t1
    cases hg : askD n L F x with
    | false =>
      go_wp2_with fail
      go_meet
      exact ⟨false, rfl, Lib.hid (by simp), HST.out.ht, HST.out.hf, HST.out.ho, HST.out.hfl, HST.out.hq, HST.out.hd.more (by omega), HST.out.hR⟩
    | true =>
      have HG := Lib.hid hg
      clear hg
      go_wp2_with fail
      refine (tbNeed_c _ Q _ (rdi_own HST.out.hq)).mono ?_; rintro e W7 ⟨rfl, rfl⟩
      cases hne : needB Q with
      | false =>
        go_wp2_with fail
        go_meet
        exact ⟨false, rfl, Lib.hid (by simp), HST.out.ht, HST.out.hf, HST.out.ho, HST.out.hfl, HST.out.hq, HST.out.hd.more (by omega), HST.out.hR⟩
      | true =>
        have HNE := Lib.hid hne
        clear hne
        go_wp2_with fail
        refine (one_c B l HL.out (a + (0 + 9000 + 20 + 16)) (by omega) 4 (by omega) _ HST.out.hd.1).mono ?_; rintro e W8 ⟨b, rfl, hd⟩
        have HST := Lib.hid (ch_drew HST.out hd hBw hwne)
        clear hd
        cases b
        · go_wp2_with fail
          go_meet
          exact ⟨true, rfl, Lib.hid (fun _ => ⟨HG.out, HNE.out⟩), HST.out.ht, HST.out.hf, HST.out.ho, HST.out.hfl, HST.out.hq, HST.out.hd.more (by omega), HST.out.hR⟩
        · go_wp2_with fail
          go_meet
          exact ⟨false, rfl, Lib.hid (by simp), HST.out.ht, HST.out.hf, HST.out.ho, HST.out.hfl, HST.out.hq, HST.out.hd.more (by omega), HST.out.hR⟩
  case rest => as_aux_lemma =>
    obtain ⟨bb, rfl, HBB, hst⟩ := hcut
    have HST := Lib.hid hst
    clear hst
    cases bb with
    | false =>
      obtain ⟨K, hK⟩ : ∃ K : Nat, a + 9040 = K := ⟨_, rfl⟩
      have hK1 : K ≤ 10000 := by omega
      obtain ⟨W3, hW3⟩ : ∃ X, X = wc := ⟨_, rfl⟩
      subst hW3
      have HDb : Hid (Drew B l K 0 W3 W3) := Lib.hid (by have h := Drew.refl HST.out.hd.1 0; rw [hK] at h; exact h)
      have t0 := HST.out.ht.cellAt 0 (by omega)
      have t1 := HST.out.ht.cellAt 1 (by omega)
      dsimp only [List.getElem?_cons_zero, List.getElem?_cons_succ] at t0 t1
      have r0 := fresh_c0 HST.out.hf
      have r1 := fresh_c1 HST.out.hf
      have f0 := fresh_f HST.out.hf 0
      have f1 := fresh_f HST.out.hf 1
      have tb0 := t0
      have tb1 := t1
      have rb0 := r0
      have rb1 := r1
      have fb0 := f0
      have fb1 := f1
      have szR := HST.out.hR
      have sww : w.heap.size < W3.heap.size := by omega
      have sw3 : W1.heap.size ≤ W3.heap.size := HST.out.hd.2.size
      have hRw : RT ≠ w.heap.size := by omega
      have HO := Lib.hid HST.out.ho
      have HFL := Lib.hid HST.out.hfl
      have HQ : Hid (RdB W1.heap.size W3 (.slice Aq Q.length cq) Q.length (ints Q)) := Lib.hid (rdb_own HST.out.hq)
      have HD := Lib.hid HST.out.hd
      clear HST HBB
      go_wp2_with fail
      go_region_held3 (fun W' => W'.cell? ⟨RT, 0, none⟩ = some (.int .i64 n) ∧ W'.cell? ⟨RT, 1, none⟩ = some (.slice Av L.length cv)) (first | (with_reducible exact ⟨t0, t1⟩) | (refine ⟨?_, ?_⟩ <;> ((repeat' (first | (with_reducible assumption) | (with_reducible apply cell_drw) | (with_reducible apply cellAl) | (with_reducible refine cell_set_ne ?_ (by omega)))); done))) (first | (go_at_call 45; refine (namesOf_c B l HL.out (K + 0) (by omega) _ (HDb.out.1.below (by ((repeat' (first | (with_reducible exact Below.refl _ _) | (with_reducible apply bel_al) | (with_reducible apply bel_dr))); done))) W1.heap.size _ F (rdb_bel HFL.out (by ((repeat' (first | (with_reducible exact Below.refl _ _) | (with_reducible apply bel_al) | (with_reducible apply bel_dr))); done))) hBb HFS.out (by omega)).mono ?_; rintro e W5 ⟨vs, q, rfl, ho, hq, hqs, hd⟩; have d5 := (HDb.out.bel (by ((repeat' (first | (with_reducible exact Below.refl _ _) | (with_reducible apply bel_al) | (with_reducible apply bel_dr))); done))).trans hd; have t0 := (gro_cell d5.2 (o := 0) (x := RT) szR hRTB).trans tb0; have t1 := (gro_cell d5.2 (o := 1) (x := RT) szR hRTB).trans tb1; have r0 := (gro_cell d5.2 (o := 0) (x := w.heap.size) sww hwne).trans rb0; have r1 := (gro_cell d5.2 (o := 1) (x := w.heap.size) sww hwne).trans rb1; have f0 := (gro_frozen d5.2 (o := 0) (x := w.heap.size) sww hwne).trans fb0; have f1 := (gro_frozen d5.2 (o := 1) (x := w.heap.size) sww hwne).trans fb1; have sz5 := d5.2.size; have HO := Lib.hid (rdb_gro (rdb_bel HO.out (by ((repeat' (first | (with_reducible exact Below.refl _ _) | (with_reducible apply bel_al) | (with_reducible apply bel_dr))); done))) hd.2 hBb); have HFL := Lib.hid (rdb_gro (rdb_bel HFL.out (by ((repeat' (first | (with_reducible exact Below.refl _ _) | (with_reducible apply bel_al) | (with_reducible apply bel_dr))); done))) hd.2 hBb); have HQ := Lib.hid (rdb_gro (rdb_bel HQ.out (by ((repeat' (first | (with_reducible exact Below.refl _ _) | (with_reducible apply bel_al) | (with_reducible apply bel_dr))); done))) hd.2 hBb); have HS := Lib.hid (rdb_base (rdb_own ho) (by first | omega | (simp only [size_dr]; omega)) : RdB W1.heap.size _ _ _ (strs q)); clear ho; have HD5 := Lib.hid d5; clear d5 hd) | fail)
      all_goals
        go_wp2
        have HDD := Lib.hid (HD.out.trans (by rw [hK]; exact HD5.out))
        have HOO : Below W0.heap.size W0 W5 := by have h := HDD.out; rw [← HBD.out] at h; exact Drew.out HB1.out h
        refine bodyPost_ret (v := .tuple #[.agg #[.int .i64 n, .slice Av L.length cv], .slice Af F.length cf, .int .i64 x, .slice Aq Q.length cq, vs]) (by simp [results, Tryz.results19, go_sem, r0, r1]) rfl ?_
        have hg : World.grownBy W5 ((World.setCell W5 ⟨w.heap.size, 0, none⟩ (.int .i64 n)).setCell ⟨w.heap.size, 1, none⟩ (.slice Av L.length cv)) (some w.heap.size) := (only_setCell (only_setCell (World.grownBy.refl _ _) 0 _) 1 _)
        exact ⟨⟨n, _, L, _, F, x, _, Q, _, q, rfl, (rdb_gro HO.out hg (by omega)).1, (rdb_gro HFL.out hg (by omega)).1, hF, HFS.out, (rdb_gro HQ.out hg (by omega)).1, hQ, (rdb_gro HS.out hg (by omega)).1, hq, hqs⟩, bel_grown (bel_then HB0.out HOO) hg (fun q e => Nat.le_of_eq (Option.some.inj e))⟩
    | true =>
      obtain ⟨hask, hne⟩ := HBB.out rfl
      obtain ⟨hds, hx0, hx1⟩ := askD_true hask
      obtain ⟨hgt, hgf, hnd⟩ := goodDs_true hds
      have hn1 := (goodTown_true hgt).1
      obtain ⟨N, rfl⟩ := Int.eq_ofNat_of_zero_le (show 0 ≤ n by omega)
      obtain ⟨src, rfl⟩ := Int.eq_ofNat_of_zero_le hx0
      have hs : src < N := by omega
      have HGT := Lib.hid hgt
      have HGF := Lib.hid hgf
      have HND := Lib.hid hnd
      have HNE := Lib.hid hne
      clear hask hne hds hgt hgf hnd hx0 hx1 HBB
      have t0 := HST.out.ht.cellAt 0 (by omega)
      have t1 := HST.out.ht.cellAt 1 (by omega)
      dsimp only [List.getElem?_cons_zero, List.getElem?_cons_succ] at t0 t1
      go_wp2_with fail
      refine (dsPick_c N _ L _ F src _ Q _ HGT.out HGF.out HND.out hs HNE.out HST.out.ho.1 HST.out.hfl.1 (rdi_own HST.out.hq)).mono ?_
      rintro e W9 ⟨xx, yy, zz, rfl, hx, -, -, hb⟩
      have HST := Lib.hid (ch_bel HST.out hb)
      have HX := Lib.hid hx
      have HPM := Lib.hid (pick_mem F (fun y => ∃ i : Nat, y = (i : Int) ∧ i < F.length) (readyL (distT N (arcs L) src) F) Q (fun y hy => by
        obtain ⟨i, a, h1, h2, _⟩ := readyL_mem hy
        exact ⟨i, h1, (List.getElem?_eq_some_iff.1 h2).1⟩)).1
      obtain ⟨P, hP⟩ : ∃ P, (pickL F (readyL (distT N (arcs L) src) F) Q).1 = P := ⟨_, rfl⟩
      rw [hP] at HPM HX
      have HE : Hid (Drew B l (a + 9040) 0 W9 W9) := Lib.hid (Drew.refl HST.out.hd.1 0)
      obtain ⟨HS9, _⟩ : Hid (ChSt B l a 9040 W1.heap.size w.heap.size RT N Av L cv (.slice Af F.length cf) F (.slice Aq Q.length cq) Q W1 W9) ∧ True := ⟨HST, trivial⟩
      have hR9 := HST.out.hR
      clear hb hx hP t0 t1
      go_wp2_with fail
      refine (dsSend_c _ F _ P _ (goodFl_true HGF.out).1 HPM.out HST.out.hfl.1 HX.out).mono ?_
      rintro e W10 ⟨x6, y6, rfl, -, ho7, -, hb⟩
      have hq12 : (namesI F (selD (fun i => decide ((i : Int) ∈ P)) F.length)).length ≤ 12 := by
        have h1 := selD_len (fun i => decide ((i : Int) ∈ P)) F.length
        have h2 := (goodFl_true HGF.out).1
        rw [namesI_len]; omega
      have hqs := namesI_small HFS.out (selD (fun i => decide ((i : Int) ∈ P)) F.length)
      obtain ⟨q, hq⟩ : ∃ q, namesI F (selD (fun i => decide ((i : Int) ∈ P)) F.length) = q := ⟨_, rfl⟩
      rw [hq] at ho7 hq12 hqs
      have hs9 := HST.out.hd.2.size
      have HQS := Lib.hid hqs
      obtain ⟨A6, c6, hy6, hc6, hm6, -⟩ := own_rd ho7
      subst hy6
      rw [maxLen_eq] at hm6
      have HE := Lib.hid (HE.out.bel hb)
      have sz10 := hb.size
      have HNM := Lib.hid ho7
      have hBU : B < W9.heap.size := by omega
      clear hb ho7 hqs hq HX HPM HST
      go_upto_region 7 with fail
      by_cases h0 : 0 < q.length
      · have h1 : (0 : Int) < (q.length : Int) := by omega
        go_wp2_with fail
        refine (one_c B l HL.out (a + 9040 + 0) (by omega) 3 (by omega) _ HE.out.1).mono ?_; rintro e W11 ⟨b, rfl, hd⟩
        have HNM := Lib.hid (own_draw HNM.out hd.2 hBU)
        have HE := Lib.hid (HE.out.trans hd)
        have sz11 := hd.2.size
        clear hd
        cases b
        · have HST := Lib.hid (ch_drew HS9.out HE.out hBw hwne)
          have t0 := HST.out.ht.cellAt 0 (by omega)
          have t1 := HST.out.ht.cellAt 1 (by omega)
          dsimp only [List.getElem?_cons_zero, List.getElem?_cons_succ] at t0 t1
          have r0 := fresh_c0 HST.out.hf
          have r1 := fresh_c1 HST.out.hf
          have f0 := fresh_f HST.out.hf 0
          have f1 := fresh_f HST.out.hf 1
          have hwR : RT ≠ w.heap.size := by omega
          go_wp2
          have HOO : Below W0.heap.size W0 W11 := by have h := HST.out.hd; rw [← HBD.out] at h; exact Drew.out HB1.out h
          refine bodyPost_ret (v := .tuple #[.agg #[.int .i64 N, .slice Av L.length cv], .slice Af F.length cf, .int .i64 src, .slice Aq Q.length cq, .slice A6 q.length c6]) (by simp [results, Tryz.results19, go_sem, r0, r1]) rfl ?_
          have hg : World.grownBy W11 ((World.setCell W11 ⟨w.heap.size, 0, none⟩ (.int .i64 N)).setCell ⟨w.heap.size, 1, none⟩ (.slice Av L.length cv)) (some w.heap.size) := (only_setCell (only_setCell (World.grownBy.refl _ _) 0 _) 1 _)
          exact ⟨⟨N, _, L, _, F, src, _, Q, _, q, rfl, (rdb_gro HST.out.ho hg (by omega)).1, (rdb_gro HST.out.hfl hg (by omega)).1, hF, HFS.out, (rdb_gro (rdb_ints HST.out.hq) hg (by omega)).1, hQ, (rdb_gro (rdb_own HNM.out) hg (by omega)).1, by omega, HQS.out⟩, bel_grown (bel_then HB0.out HOO) hg (fun q e => Nat.le_of_eq (Option.some.inj e))⟩
        · go_wp2_with fail
          refine (pick_c B l HL.out (a + 9040 + (0 + 2)) (by omega) _ (by omega) _ HE.out.1).mono ?_; rintro e W12 ⟨k, rfl, hk, hd⟩
          have HNM := Lib.hid (own_draw HNM.out hd.2 hBU)
          have HE := Lib.hid (HE.out.trans hd)
          have sz12 := hd.2.size
          clear hd
          have HS12 := Lib.hid (ch_drew HS9.out HE.out hBw hwne)
          go_wp2_with fail
          refine (nameIn_c B l HL.out (a + 9040 + (0 + 2 + 2)) (by omega) _ HE.out.1 W1.heap.size _ F HS12.out.hfl hBw HFS.out (by omega)).mono ?_; rintro e W13 ⟨y, rfl, hy, hd⟩
          have HNM := Lib.hid (own_draw HNM.out hd.2 hBU)
          have HE := Lib.hid (HE.out.trans hd)
          have sz13 := hd.2.size
          have hkq : k < q.length := by omega
          have k1 : (k : Int) < (q.length : Int) := by omega
          have k0 : (0 : Int) ≤ (k : Int) := by omega
          clear hd hk HS12
          obtain ⟨g, rfl, hg1, hg2⟩ := own_at HNM.out h0
          have c0 := HNM.out.cellAt k (by omega)
          obtain ⟨z, hz⟩ : ∃ z, (strs q)[k]? = some z := ⟨_, List.getElem?_eq_getElem (by simp [strs]; exact hkq)⟩
          rw [hz] at c0
          have g0 := HNM.out.frozenAt k
          have hns : (W13.setCell ⟨g, k, none⟩ (.string y)).ownsRow W9.heap.size 9 1 (.slice (some ⟨g, 0, none⟩) q.length c6) q.length (strs (q.set k y)) := by
            rw [← strs_set9]; exact own_put [.string y] W13 _ k HNM.out
          have HE := Lib.hid (HE.out.own (only_setCell (World.grownBy.refl _ (some g)) k (.string y)) hg1 hBU)
          have HNM := Lib.hid hns
          have hys : ∀ x ∈ q.set k y, x.size ≤ 7 := fun x hx => by
            rcases List.mem_or_eq_of_mem_set hx with h | h
            · exact HQS.out x h
            · rw [h]; exact hy
          have HQS := Lib.hid hys
          clear hz hns hys
          go_upto_region 9 with fail
          generalize hW : World.setCell _ _ _ = WS at HE HNM ⊢
          clear hW c0 g0
          obtain ⟨q2, hq2⟩ : ∃ q2, q.set k y = q2 := ⟨_, rfl⟩
          have hql : q2.length = q.length := by rw [← hq2, List.length_set]
          rw [hq2] at HNM HQS
          have HQL := Lib.hid hql
          have HNM : Hid (WS.ownsRow W9.heap.size 9 1 (.slice (some ⟨g, 0, none⟩) q.length c6) q2.length (strs q2)) := Lib.hid (by rw [HQL.out]; exact HNM.out)
          clear hq2 hql
          have HST := Lib.hid (ch_drew HS9.out HE.out hBw hwne)
          have t0 := HST.out.ht.cellAt 0 (by omega)
          have t1 := HST.out.ht.cellAt 1 (by omega)
          dsimp only [List.getElem?_cons_zero, List.getElem?_cons_succ] at t0 t1
          have r0 := fresh_c0 HST.out.hf
          have r1 := fresh_c1 HST.out.hf
          have f0 := fresh_f HST.out.hf 0
          have f1 := fresh_f HST.out.hf 1
          have hwR : RT ≠ w.heap.size := by omega
          go_wp2
          have HOO : Below W0.heap.size W0 WS := by have h := HST.out.hd; rw [← HBD.out] at h; exact Drew.out HB1.out h
          refine bodyPost_ret (v := .tuple #[.agg #[.int .i64 N, .slice Av L.length cv], .slice Af F.length cf, .int .i64 src, .slice Aq Q.length cq, .slice (some ⟨g, 0, none⟩) q.length c6]) (by simp [results, Tryz.results19, go_sem, r0, r1]) rfl ?_
          have hg : World.grownBy WS ((World.setCell WS ⟨w.heap.size, 0, none⟩ (.int .i64 N)).setCell ⟨w.heap.size, 1, none⟩ (.slice Av L.length cv)) (some w.heap.size) := (only_setCell (only_setCell (World.grownBy.refl _ _) 0 _) 1 _)
          exact ⟨⟨N, _, L, _, F, src, _, Q, _, q2, rfl, (rdb_gro HST.out.ho hg (by omega)).1, (rdb_gro HST.out.hfl hg (by omega)).1, hF, HFS.out, (rdb_gro (rdb_ints HST.out.hq) hg (by omega)).1, hQ, (rdb_gro (rdb_own HNM.out) hg (by omega)).1, by have := HQL.out; omega, HQS.out⟩, bel_grown (bel_then HB0.out HOO) hg (fun q e => Nat.le_of_eq (Option.some.inj e))⟩
      · have h1 : (q.length : Int) ≤ 0 := by omega
        have HST := Lib.hid (ch_drew HS9.out HE.out hBw hwne)
        have t0 := HST.out.ht.cellAt 0 (by omega)
        have t1 := HST.out.ht.cellAt 1 (by omega)
        dsimp only [List.getElem?_cons_zero, List.getElem?_cons_succ] at t0 t1
        have r0 := fresh_c0 HST.out.hf
        have r1 := fresh_c1 HST.out.hf
        have f0 := fresh_f HST.out.hf 0
        have f1 := fresh_f HST.out.hf 1
        have hwR : RT ≠ w.heap.size := by omega
        go_wp2
        have HOO : Below W0.heap.size W0 W10 := by have h := HST.out.hd; rw [← HBD.out] at h; exact Drew.out HB1.out h
        refine bodyPost_ret (v := .tuple #[.agg #[.int .i64 N, .slice Av L.length cv], .slice Af F.length cf, .int .i64 src, .slice Aq Q.length cq, .slice A6 q.length c6]) (by simp [results, Tryz.results19, go_sem, r0, r1]) rfl ?_
        have hg : World.grownBy W10 ((World.setCell W10 ⟨w.heap.size, 0, none⟩ (.int .i64 N)).setCell ⟨w.heap.size, 1, none⟩ (.slice Av L.length cv)) (some w.heap.size) := (only_setCell (only_setCell (World.grownBy.refl _ _) 0 _) 1 _)
        exact ⟨⟨N, _, L, _, F, src, _, Q, _, q, rfl, (rdb_gro HST.out.ho hg (by omega)).1, (rdb_gro HST.out.hfl hg (by omega)).1, hF, HFS.out, (rdb_gro (rdb_ints HST.out.hq) hg (by omega)).1, hQ, (rdb_gro (rdb_own HNM.out) hg (by omega)).1, by omega, HQS.out⟩, bel_grown (bel_then HB0.out HOO) hg (fun q e => Nat.le_of_eq (Option.some.inj e))⟩
end Go.Proofs.YthgegghdkoeofaaGreat

namespace Go.Proofs.YthgegghdkoeofaaGreat
set_option linter.unusedVariables false
set_option linter.unusedSimpArgs false
open Go.RowKit

theorem miss_snd (n : Int) (l : List St) (f : List Ap) (x : Int) (q : List Int) : (missingKindsV n l f x q).2 = (chooseForV n l f x q).2 := by
  unfold missingKindsV chooseForV; split <;> rfl
theorem choose_ready {n : Int} {l : List St} {f : List Ap} {x : Int} {q : List Int} (h : (chooseForV n l f x q).2 = true) : (readyTimesV n l f x).2 = true := by
  unfold chooseForV at h
  split at h
  · rename_i hk; unfold readyTimesV; rw [if_pos hk.1]
  · cases h
theorem choose_ask {n : Int} {l : List St} {f : List Ap} {x : Int} {q : List Int} (h : (chooseForV n l f x q).2 = true) : askD n l f x = true ∧ needB q = true := by
  unfold chooseForV at h
  split at h
  · assumption
  · cases h
theorem ready_ask {n : Int} {l : List St} {f : List Ap} {x : Int} (h : (readyTimesV n l f x).2 = true) : askD n l f x = true := by
  unfold readyTimesV at h
  split at h
  · assumption
  · cases h
theorem gath_snoc {C : List Ch} {j : Nat} {x : Ch} (h : C[j]? = some x) (a : Ap) : gath (C.take (j + 1)) a = gath (C.take j) a ++ (if x.cn = a.nm then [x.cn] else []) := by
  unfold gath
  rw [take_succ_of h, List.filter_append, List.map_append]
  congr 1
  by_cases e : x.cn = a.nm
  · rw [if_pos e, List.filter_cons, if_pos (by simp [e])]; rfl
  · rw [if_neg e, List.filter_cons, if_neg (by simp [e])]; rfl
theorem first_ready {N src : Nat} {l : List St} {f : List Ap} (h : askD N l f src = true) : (firstAttendanceV N l f src).2.2 = decide (0 < (readyTimesV N l f src).1.length) ∧ ∀ x, (readyTimesV N l f src).1[0]? = some x → (firstAttendanceV N l f src).1 = x.cn ∧ (firstAttendanceV N l f src).2.1 = x.cs := by
  rw [readyTimes_yes h]
  unfold firstAttendanceV
  rw [if_pos h, Int.toNat_natCast, Int.toNat_natCast]
  have hm : ∀ y ∈ readyL (distT N (arcs l) src) f, ∃ (i : Nat) (a : Ap), y = (i : Int) ∧ f[i]? = some a := fun y hy => by
    obtain ⟨i, a, h1, h2, _⟩ := readyL_mem hy
    exact ⟨i, a, h1, h2⟩
  obtain ⟨L, hL⟩ : ∃ L, readyL (distT N (arcs l) src) f = L := ⟨_, rfl⟩
  rw [hL] at hm ⊢
  cases L with
  | nil => exact ⟨rfl, fun x hx => by simp [chL] at hx⟩
  | cons y L =>
    obtain ⟨i, a, rfl, ha⟩ := hm y (by simp)
    dsimp only
    rw [Int.toNat_natCast, ha]
    refine ⟨by simp [chL], fun x hx => ?_⟩
    simp only [chL, List.map_cons, List.getElem?_cons_zero] at hx
    rw [← Option.some.inj hx, chAt_at ha]
    exact ⟨rfl, rfl⟩
theorem strs_snoc8 (l : List ByteArray) (x : ByteArray) : strs (l ++ [x]) = strs l ++ [.string x] := by simp [strs]
set_option maxRecDepth 100000 in
set_option maxHeartbeats 8000000 in
theorem walk_FnChoices (w : World) (v0 : Value) (l0 : List Int) (hr0 : Rd w v0 l0.length (bys l0)) (hw0 : BytesOk l0 ∧ l0.length ≤ 9223372036854775807) (v1 : Value) (l1 : List Int) (hr1 : Rd w v1 l1.length (bys l1)) (hw1 : BytesOk l1 ∧ l1.length ≤ 9223372036854775807) :
    Calls Tryz.prog 3 #[v0, v1] w fun en w' => en = .returned (.bool true) ∧ Below w.heap.size w w' := by
  obtain ⟨ho0, hn0⟩ := hw0
  obtain ⟨ho1, hn1⟩ := hw1
  have HR0 := Lib.hid hr0
  have HR1 := Lib.hid hr1
  have HO0 := Lib.hid ho0
  have HO1 := Lib.hid ho1
  have HB := Lib.hid (Below.refl w.heap.size w)
  obtain ⟨A0, c0, rfl, -⟩ := hr0
  obtain ⟨A1, c1, rfl, -⟩ := hr1
  clear ho0 ho1
  go_enter Tryz.func3, Tryz.ntmps3
  go_wp2_with fail
  refine (big_c _ _ _ _ _ _ _).mono ?_; rintro e w' ⟨rfl, hw⟩; subst hw
  cases bigB l0.length l1.length with
  | true =>
    go_wp2
    go_ret
    exact ⟨rfl, Below.refl _ _⟩
  | false =>
    go_wp2_with fail
    refine (drawChooseFor_c _ l0 hn0 HO0.out _ (rd_below HR0.out HB.out)).mono ?_; rintro e w1 ⟨⟨n1, s1, T1, vf1, F1, x1, vQ1, Q1, rfl, hT1, hF1, hFl1, hFs1, hQ1, -⟩, hb⟩
    replace HB := Lib.hid (bel_then HB.out hb)
    clear hb
    have HT1 := Lib.hid hT1
    clear hT1
    have HF1 := Lib.hid hF1
    clear hF1
    have HQ1 := Lib.hid hQ1
    clear hQ1
    obtain ⟨As1, cs1, rfl, -⟩ := HT1.out
    obtain ⟨Af1, cf1, rfl, hcf1, hmf1, -⟩ := HF1.out
    rw [maxLen_eq] at hmf1
    have HZ1 : Hid (∀ x ∈ F1, x.nm.size ≤ 9223372036854775807) := Lib.hid (fun x hx => Nat.le_trans (hFs1 x hx) (by decide))
    clear hFs1
    go_upto_region 4 with fail
    generalize hW : World.alloc w1 _ = w2
    have hr0 : w2.ownsRow w1.heap.size 26 2 (.slice (some ⟨w1.heap.size, 0, none⟩) 1 1) 1 [.int .i64 n1, .slice As1 T1.length cs1] := by subst hW; exact row_new w1 [.int .i64 n1, .slice As1 T1.length cs1] _ 1 2 rfl (by omega) (by omega)
    have hb : Below w1.heap.size w1 w2 := by subst hW; exact bel_al (Below.refl _ _) _
    clear hW
    replace HB := Lib.hid (bel_then HB.out hb)
    replace HT1 := Lib.hid (rd_below HT1.out hb)
    replace HF1 := Lib.hid (rd_below HF1.out hb)
    replace HQ1 := Lib.hid (rdi_below HQ1.out hb)
    clear hb
    obtain ⟨RK1, hRK1⟩ : ∃ R, w1.heap.size = R := ⟨_, rfl⟩
    rw [hRK1] at hr0 ⊢
    clear hRK1
    have K1 := Lib.hid hr0
    clear hr0
    obtain ⟨C, hC⟩ : ∃ z, (chooseForV n1 T1 F1 x1 Q1).1 = z := ⟨_, rfl⟩
    obtain ⟨ok, hok⟩ : ∃ z, (chooseForV n1 T1 F1 x1 Q1).2 = z := ⟨_, rfl⟩
    obtain ⟨M, hM⟩ : ∃ z, (missingKindsV n1 T1 F1 x1 Q1).1 = z := ⟨_, rfl⟩
    obtain ⟨R, hR⟩ : ∃ z, (readyTimesV n1 T1 F1 x1).1 = z := ⟨_, rfl⟩
    obtain ⟨three, hthree⟩ : ∃ z, (readyTimesV n1 T1 F1 x1).2 = z := ⟨_, rfl⟩
    have hM2 : (missingKindsV n1 T1 F1 x1 Q1).2 = ok := by rw [miss_snd, hok]
    have t0 := K1.out.cellAt 0 (by omega)
    have t1 := K1.out.cellAt 1 (by omega)
    dsimp only [List.getElem?_cons_zero, List.getElem?_cons_succ] at t0 t1
    go_wp2_with fail
    refine (chooseForI_c n1 _ T1 _ F1 x1 _ Q1 _ HT1.out HZ1.out HF1.out HQ1.out).mono ?_; unfold OwnChB; rw [hC, hok]; rintro e w3 ⟨vHCI, rfl, ho, hb⟩
    clear t0 t1
    replace HB := Lib.hid (bel_then HB.out hb)
    replace HT1 := Lib.hid (rd_below HT1.out hb)
    replace HF1 := Lib.hid (rd_below HF1.out hb)
    replace HQ1 := Lib.hid (rdi_below HQ1.out hb)
    replace K1 := Lib.hid (own_below K1.out hb)
    clear hb
    have HCI := Lib.hid (own_rd ho)
    clear ho
    have t0 := K1.out.cellAt 0 (by omega)
    have t1 := K1.out.cellAt 1 (by omega)
    dsimp only [List.getElem?_cons_zero, List.getElem?_cons_succ] at t0 t1
    go_wp2_with fail
    refine (chooseForS_c n1 _ T1 _ F1 x1 _ Q1 _ HT1.out HZ1.out HF1.out HQ1.out).mono ?_; unfold OwnChB; rw [hC, hok]; rintro e w4 ⟨vHCS, rfl, ho, hb⟩
    clear t0 t1
    replace HB := Lib.hid (bel_then HB.out hb)
    replace HT1 := Lib.hid (rd_below HT1.out hb)
    replace HF1 := Lib.hid (rd_below HF1.out hb)
    replace HQ1 := Lib.hid (rdi_below HQ1.out hb)
    replace K1 := Lib.hid (own_below K1.out hb)
    replace HCI := Lib.hid (rd_below HCI.out hb)
    clear hb
    have HCS := Lib.hid (own_rd ho)
    clear ho
    have t0 := K1.out.cellAt 0 (by omega)
    have t1 := K1.out.cellAt 1 (by omega)
    dsimp only [List.getElem?_cons_zero, List.getElem?_cons_succ] at t0 t1
    go_wp2_with fail
    refine (missingKindsI_c n1 _ T1 _ F1 x1 _ Q1 _ HT1.out HZ1.out HF1.out HQ1.out).mono ?_; unfold OwnIB; rw [hM, hM2]; rintro e w5 ⟨vHMI, rfl, ho, hb⟩
    clear t0 t1
    replace HB := Lib.hid (bel_then HB.out hb)
    replace HT1 := Lib.hid (rd_below HT1.out hb)
    replace HF1 := Lib.hid (rd_below HF1.out hb)
    replace HQ1 := Lib.hid (rdi_below HQ1.out hb)
    replace K1 := Lib.hid (own_below K1.out hb)
    replace HCI := Lib.hid (rd_below HCI.out hb)
    replace HCS := Lib.hid (rd_below HCS.out hb)
    clear hb
    have HMI := Lib.hid (rdi_own ho)
    clear ho
    have t0 := K1.out.cellAt 0 (by omega)
    have t1 := K1.out.cellAt 1 (by omega)
    dsimp only [List.getElem?_cons_zero, List.getElem?_cons_succ] at t0 t1
    go_wp2_with fail
    refine (missingKindsS_c n1 _ T1 _ F1 x1 _ Q1 _ HT1.out HZ1.out HF1.out HQ1.out).mono ?_; unfold OwnIB; rw [hM, hM2]; rintro e w6 ⟨vHMS, rfl, ho, hb⟩
    clear t0 t1
    replace HB := Lib.hid (bel_then HB.out hb)
    replace HT1 := Lib.hid (rd_below HT1.out hb)
    replace HF1 := Lib.hid (rd_below HF1.out hb)
    replace HQ1 := Lib.hid (rdi_below HQ1.out hb)
    replace K1 := Lib.hid (own_below K1.out hb)
    replace HCI := Lib.hid (rd_below HCI.out hb)
    replace HCS := Lib.hid (rd_below HCS.out hb)
    replace HMI := Lib.hid (rdi_below HMI.out hb)
    clear hb
    have HMS := Lib.hid (rdi_own ho)
    clear ho
    have t0 := K1.out.cellAt 0 (by omega)
    have t1 := K1.out.cellAt 1 (by omega)
    dsimp only [List.getElem?_cons_zero, List.getElem?_cons_succ] at t0 t1
    go_wp2_with fail
    refine (readyTimesI_c n1 _ T1 _ F1 x1 _ HT1.out HZ1.out HF1.out).mono ?_; unfold OwnChB; rw [hR, hthree]; rintro e w7 ⟨vHRIc, rfl, ho, hb⟩
    clear t0 t1
    replace HB := Lib.hid (bel_then HB.out hb)
    replace HT1 := Lib.hid (rd_below HT1.out hb)
    replace HF1 := Lib.hid (rd_below HF1.out hb)
    replace HQ1 := Lib.hid (rdi_below HQ1.out hb)
    replace K1 := Lib.hid (own_below K1.out hb)
    replace HCI := Lib.hid (rd_below HCI.out hb)
    replace HCS := Lib.hid (rd_below HCS.out hb)
    replace HMI := Lib.hid (rdi_below HMI.out hb)
    replace HMS := Lib.hid (rdi_below HMS.out hb)
    clear hb
    have HRIc := Lib.hid (own_rd ho)
    clear ho
    have t0 := K1.out.cellAt 0 (by omega)
    have t1 := K1.out.cellAt 1 (by omega)
    dsimp only [List.getElem?_cons_zero, List.getElem?_cons_succ] at t0 t1
    go_wp2_with fail
    refine (readyTimesS_c n1 _ T1 _ F1 x1 _ HT1.out HZ1.out HF1.out).mono ?_; unfold OwnChB; rw [hR, hthree]; rintro e w8 ⟨vHRSc, rfl, ho, hb⟩
    clear t0 t1
    replace HB := Lib.hid (bel_then HB.out hb)
    replace HT1 := Lib.hid (rd_below HT1.out hb)
    replace HF1 := Lib.hid (rd_below HF1.out hb)
    replace HQ1 := Lib.hid (rdi_below HQ1.out hb)
    replace K1 := Lib.hid (own_below K1.out hb)
    replace HCI := Lib.hid (rd_below HCI.out hb)
    replace HCS := Lib.hid (rd_below HCS.out hb)
    replace HMI := Lib.hid (rdi_below HMI.out hb)
    replace HMS := Lib.hid (rdi_below HMS.out hb)
    replace HRIc := Lib.hid (rd_below HRIc.out hb)
    clear hb
    have HRSc := Lib.hid (own_rd ho)
    clear ho
    have CH := Lib.hid hC
    clear hC
    have okH := Lib.hid hok
    clear hok
    have MH := Lib.hid hM
    clear hM
    have RH := Lib.hid hR
    clear hR
    have threeH := Lib.hid hthree
    clear hthree
    clear hM2
    have nx : ∀ b : Bool, (b != b) = false := by simp
    have m1x := nx ok
    have m2x := nx three
    clear nx
    obtain ⟨wN, rfl⟩ : ∃ x : World, x = w8 := ⟨_, rfl⟩
    go_upto_region 10 with fail
    go_cut [146] from 104 to 146 (fun v wx => v = .bool false ∧ Below wN.heap.size wN wx)
    case first =>
      have HZ := Lib.hid (Below.refl wN.heap.size wN)
      go_wp2_with fail
      refine (pSameChoices_c _ _ C _ HCI.out HCS.out).mono ?_; rintro e w9 ⟨rfl, hb⟩
      replace HZ := Lib.hid (bel_then HZ.out hb)
      replace HB := Lib.hid (bel_then HB.out hb)
      replace HT1 := Lib.hid (rd_below HT1.out hb)
      replace HF1 := Lib.hid (rd_below HF1.out hb)
      replace HQ1 := Lib.hid (rdi_below HQ1.out hb)
      replace K1 := Lib.hid (own_below K1.out hb)
      replace HCI := Lib.hid (rd_below HCI.out hb)
      replace HCS := Lib.hid (rd_below HCS.out hb)
      replace HMI := Lib.hid (rdi_below HMI.out hb)
      replace HMS := Lib.hid (rdi_below HMS.out hb)
      replace HRIc := Lib.hid (rd_below HRIc.out hb)
      replace HRSc := Lib.hid (rd_below HRSc.out hb)
      clear hb
      go_wp2_with fail
      refine (sameInts_c _ _ M M _ HMI.out HMS.out).mono ?_; rw [decide_eq_true rfl]; rintro e w10 ⟨rfl, hb⟩
      replace HZ := Lib.hid (bel_then HZ.out hb)
      replace HB := Lib.hid (bel_then HB.out hb)
      replace HT1 := Lib.hid (rd_below HT1.out hb)
      replace HF1 := Lib.hid (rd_below HF1.out hb)
      replace HQ1 := Lib.hid (rdi_below HQ1.out hb)
      replace K1 := Lib.hid (own_below K1.out hb)
      replace HCI := Lib.hid (rd_below HCI.out hb)
      replace HCS := Lib.hid (rd_below HCS.out hb)
      replace HMI := Lib.hid (rdi_below HMI.out hb)
      replace HMS := Lib.hid (rdi_below HMS.out hb)
      replace HRIc := Lib.hid (rd_below HRIc.out hb)
      replace HRSc := Lib.hid (rd_below HRSc.out hb)
      clear hb
      go_wp2_with fail
      refine (pSameChoices_c _ _ R _ HRIc.out HRSc.out).mono ?_; rintro e w11 ⟨rfl, hb⟩
      replace HZ := Lib.hid (bel_then HZ.out hb)
      replace HB := Lib.hid (bel_then HB.out hb)
      replace HT1 := Lib.hid (rd_below HT1.out hb)
      replace HF1 := Lib.hid (rd_below HF1.out hb)
      replace HQ1 := Lib.hid (rdi_below HQ1.out hb)
      replace K1 := Lib.hid (own_below K1.out hb)
      replace HCI := Lib.hid (rd_below HCI.out hb)
      replace HCS := Lib.hid (rd_below HCS.out hb)
      replace HMI := Lib.hid (rdi_below HMI.out hb)
      replace HMS := Lib.hid (rdi_below HMS.out hb)
      replace HRIc := Lib.hid (rd_below HRIc.out hb)
      replace HRSc := Lib.hid (rd_below HRSc.out hb)
      clear hb
      cases ok with
      | false => go_wp2_with fail; go_meet; exact ⟨rfl, HZ.out⟩
      | true =>
        obtain rfl : three = true := by rw [← threeH.out]; exact choose_ready okH.out
        go_wp2_with fail
        go_meet
        exact ⟨rfl, HZ.out⟩
    case rest => as_aux_lemma =>
      obtain ⟨rfl, hb⟩ := hcut
      clear HCI HMI HRIc m1x m2x
      replace HB := Lib.hid (bel_then HB.out hb)
      replace HT1 := Lib.hid (rd_below HT1.out hb)
      replace HF1 := Lib.hid (rd_below HF1.out hb)
      replace HQ1 := Lib.hid (rdi_below HQ1.out hb)
      replace K1 := Lib.hid (own_below K1.out hb)
      replace HCS := Lib.hid (rd_below HCS.out hb)
      replace HMS := Lib.hid (rdi_below HMS.out hb)
      replace HRSc := Lib.hid (rd_below HRSc.out hb)
      clear hb
      obtain ⟨wY, rfl⟩ : ∃ x : World, x = wc := ⟨_, rfl⟩
      go_upto_if 147 with fail
      go_cut [222] from 21 to 222 (fun v wx => Below wY.heap.size wY wx)
      case first =>
        cases ok with
        | false => go_wp2_with fail; go_meet; exact Below.refl _ _
        | true =>
          have HZ := Lib.hid (Below.refl wY.heap.size wY)
          obtain ⟨hask, hne⟩ := choose_ask okH.out
          have HNE := Lib.hid hne
          clear hne
          obtain ⟨hds, hx0, hx1⟩ := askD_true hask
          obtain ⟨hgt, hgf, hnd⟩ := goodDs_true hds
          have hn1 := (goodTown_true hgt).1
          obtain ⟨N, rfl⟩ := Int.eq_ofNat_of_zero_le (show 0 ≤ n1 by omega)
          obtain ⟨src, rfl⟩ := Int.eq_ofNat_of_zero_le hx0
          have hs : src < N := by omega
          have HASK := Lib.hid hask
          have HGT := Lib.hid hgt
          have HGF := Lib.hid hgf
          have HND := Lib.hid hnd
          obtain ⟨hf12, -⟩ := goodFl_true hgf
          clear hask hds hgt hgf hnd hx0 hx1 hn1
          obtain ⟨ev, hev⟩ : ∃ ev, distT N (arcs T1) src = ev := ⟨_, rfl⟩
          obtain ⟨P, hP⟩ : ∃ P, (pickL F1 (readyL ev F1) Q1).1 = P := ⟨_, rfl⟩
          have hCe : C = chL F1 ev P := by
            have h := CH.out
            rw [chooseFor_yes HASK.out HNE.out, hev, hP] at h
            exact h.symm
          have hMe : M = (pickL F1 (readyL ev F1) Q1).2 := by
            have h := MH.out
            rw [missV_yes HASK.out HNE.out, hev] at h
            exact h.symm
          have hRm : ∀ y ∈ readyL ev F1, ∃ (i : Nat) (a : Ap), y = (i : Int) ∧ F1[i]? = some a := fun y hy => by
            obtain ⟨i, a, h1, h2, _⟩ := readyL_mem hy
            exact ⟨i, a, h1, h2⟩
          have hsum : (C.length : Int) + M.sum = Q1.sum := by
            rw [hCe, hMe, chL_len, ← hP]
            exact choice_sum HGF.out HNE.out hRm
          have hPs : P.Sublist (readyL ev F1) := by rw [← hP]; exact pick_sub _ _ _
          have hPn : P.Nodup := by rw [← hP]; exact pick_nodup F1 Q1 (readyL_nodup2 ev F1)
          have hPm : ∀ y ∈ P, ∃ (i : Nat) (a : Ap), y = (i : Int) ∧ F1[i]? = some a := fun y hy => hRm y (hPs.subset hy)
          have hPl : P.length ≤ 12 := Nat.le_trans hPs.length_le (Nat.le_trans (readyL_len ev F1) hf12)
          have hCl : C.length = P.length := by rw [hCe, chL_len]
          have HMB := Lib.hid (show ∀ y ∈ M, 0 ≤ y ∧ y ≤ 1000 by rw [hMe]; exact fun y hy => by have := miss_bd (f := F1) (R := readyL ev F1) HNE.out y hy; omega)
          have HML : Hid (M.length ≤ 1000) := Lib.hid (by rw [hMe, ← pick_miss, miss_len4, (needB_true HNE.out).1]; omega)
          have HQB : Hid (∀ y ∈ Q1, 0 ≤ y ∧ y ≤ 1000) := Lib.hid (fun y hy => by have := (needB_true HNE.out).2 y hy; omega)
          have HQL : Hid (Q1.length ≤ 1000) := Lib.hid (by rw [(needB_true HNE.out).1]; omega)
          have HBEST : Hid (isBestChoiceV N T1 F1 src Q1 (selN F1 P) = (true, true)) := Lib.hid (by
            rw [best_yes HASK.out HNE.out hev rfl rfl, ← hP, choice_best HGF.out HNE.out])
          have HGATH : Hid (F1.flatMap (gath C) = selN F1 P) := Lib.hid (by rw [hCe]; exact gath_all HGF.out hPn hPm)
          have HSL : Hid ((selN F1 P).length = C.length) := Lib.hid (by rw [selN_len hPn hPm, hCl])
          have HUP : Hid (∀ (k : Nat) (x y : Ch), C[k]? = some x → C[k + 1]? = some y → x.cs ≤ y.cs) := Lib.hid (fun k x y hx hy => by rw [hCe] at hx hy; exact chL_up hPs hx hy)
          have hcl12 : C.length ≤ 12 := by omega
          obtain ⟨S1, hS1⟩ : ∃ S, M.sum = S := ⟨_, rfl⟩
          obtain ⟨S2, hS2⟩ : ∃ S, Q1.sum = S := ⟨_, rfl⟩
          rw [hS1, hS2] at hsum
          have HS1 := Lib.hid hS1
          have HS2 := Lib.hid hS2
          have hS0 : 0 ≤ S1 ∧ S1 ≤ 100000 := by
            have h : ∀ L : List Int, (∀ y ∈ L, 0 ≤ y ∧ y ≤ 6) → 0 ≤ L.sum ∧ L.sum ≤ 6 * L.length := fun L => by
              induction L with
              | nil => intro _; simp
              | cons x L ih =>
                intro h
                obtain ⟨a, b⟩ := ih (fun y hy => h y (by simp [hy]))
                have := h x (by simp)
                rw [List.sum_cons, List.length_cons]; omega
            have h2 := h M (by rw [hMe]; exact miss_bd HNE.out)
            rw [hS1] at h2
            have := HML.out
            omega
          have es : IntKind.i64.wrap ((C.length : Int) + S1) = S2 := by rw [hsum]; exact IntWalk.i64_in _ (by omega)
          have n5x : (S2 != S2) = false := by simp
          clear hCe hMe hRm hsum hPs hPn hPm hPl hCl hS1 hS2 hS0 hP hev
          obtain ⟨Ac, cc, rfl, hcc, hmc, -⟩ := HCS.out
          rw [maxLen_eq] at hmc
          go_wp2_with fail
          refine (pSum_c _ M _ HMS.out HML.out HMB.out).mono ?_; rw [HS1.out]; rintro e w9 ⟨rfl, hb⟩
          replace HZ := Lib.hid (bel_then HZ.out hb)
          replace HT1 := Lib.hid (rd_below HT1.out hb)
          replace HF1 := Lib.hid (rd_below HF1.out hb)
          replace HQ1 := Lib.hid (rdi_below HQ1.out hb)
          replace K1 := Lib.hid (own_below K1.out hb)
          replace HCS := Lib.hid (rd_below HCS.out hb)
          replace HMS := Lib.hid (rdi_below HMS.out hb)
          clear hb
          go_wp2_with fail
          refine (pSum_c _ Q1 _ HQ1.out HQL.out HQB.out).mono ?_; rw [HS2.out]; rintro e w10 ⟨rfl, hb⟩
          replace HZ := Lib.hid (bel_then HZ.out hb)
          replace HT1 := Lib.hid (rd_below HT1.out hb)
          replace HF1 := Lib.hid (rd_below HF1.out hb)
          replace HQ1 := Lib.hid (rdi_below HQ1.out hb)
          replace K1 := Lib.hid (own_below K1.out hb)
          replace HCS := Lib.hid (rd_below HCS.out hb)
          replace HMS := Lib.hid (rdi_below HMS.out hb)
          clear hb
          obtain ⟨j0, hj, hj0, hj1, hj2⟩ := info_parts Tryz.infoStr
          go_wp2_with fail
          clear es n5x HMS HMB HML HQB HQL HS1 HS2
          obtain ⟨wU, hwU⟩ : ∃ x : World, w10 = x := ⟨_, rfl⟩
          rw [hwU] at HZ HT1 HF1 HQ1 K1 HCS ⊢
          clear hwU
          go_loopw [21, 158] (fun v21 v158 wr => ∃ (k : Nat) (q : List ByteArray) (A : Option Addr) (c : Nat), k ≤ F1.length ∧ v158 = .int .i64 k ∧ v21 = .slice A q.length c ∧ Hid (q = (F1.take k).flatMap (gath C)) ∧ q.length ≤ 12 * k ∧ Hid (wr.ownsRow wU.heap.size 9 1 (.slice A q.length c) q.length (strs q)) ∧ Hid (Below wU.heap.size wU wr)) (fun _ v158 _ => F1.length - (intOf v158).toNat)
          case atStart => exact ⟨0, [], none, 0, Nat.zero_le _, rfl, rfl, Lib.hid rfl, Nat.le_refl _, Lib.hid (World.ownsRow_nil _ _ _ _), Lib.hid (Below.refl _ _)⟩
          case round =>
            obtain ⟨k, q, A, c, hk, rfl, rfl, HQE, hqk, HOW, HBL⟩ := hrel
            obtain ⟨wA, rfl⟩ : ∃ wA : World, wA = wr := ⟨_, rfl⟩
            have k0 : (0 : Int) ≤ (k : Int) := by omega
            have hswA := HBL.out.size
            by_cases hlt : k < F1.length
            · have k1 : (k : Int) < (F1.length : Int) := by omega
              obtain ⟨Ax, cx, hvx, -, -, hrd⟩ := rd_below HF1.out HBL.out
              injection hvx with hvx _ hvc
              subst hvx; subst hvc
              obtain ⟨b, off, rfl, hbl, hcl⟩ := hrd (by omega)
              obtain ⟨nm, kd, ndd, cr, sv, hxx, c0, c1, c2, c3, c4⟩ := ap_at' hcl (Below.refl _ _) hbl hlt
              have HXX := Lib.hid hxx
              clear hcl hrd hxx
              go_upto_region 19 with fail
              generalize hW : World.alloc wA _ = wB
              have b0 : wB.cell? ⟨wA.heap.size, 0, none⟩ = some (.string nm) := by subst hW; simp [go_sem]
              have hbB : Below wA.heap.size wA wB := by subst hW; exact bel_al (Below.refl _ _) _
              have hsB : wA.heap.size < wB.heap.size := by subst hW; simp
              have HOB := Lib.hid (own_below HOW.out hbB)
              have HBB := Lib.hid (bel_then HBL.out hbB)
              clear hW hbB c0 c1 c2 c3 c4
              go_wp2_with fail
              go_loopw [21, 164] (fun v21 v164 wi => ∃ (j : Nat) (q2 : List ByteArray) (A2 : Option Addr) (c2 : Nat), j ≤ C.length ∧ v164 = .int .i64 j ∧ v21 = .slice A2 q2.length c2 ∧ Hid (q2 = q ++ gath (C.take j) ⟨nm, kd, ndd, cr, sv⟩) ∧ q2.length ≤ q.length + j ∧ wB.heap.size ≤ wi.heap.size ∧ Hid (wi.cell? ⟨wA.heap.size, 0, none⟩ = some (.string nm)) ∧ Hid (∀ x, A2 = some x → x.block ≠ wA.heap.size) ∧ Hid (wi.ownsRow wU.heap.size 9 1 (.slice A2 q2.length c2) q2.length (strs q2)) ∧ Hid (Below wU.heap.size wU wi)) (fun _ v164 _ => C.length - (intOf v164).toNat)
              case atStart =>
                refine ⟨0, q, A, c, Nat.zero_le _, rfl, rfl, Lib.hid (by unfold gath; simp), by omega, Nat.le_refl _, Lib.hid b0, Lib.hid (fun x hx => ?_), HOB, HBB⟩
                subst hx
                have := (HOW.out.lt x.block rfl).2
                omega
              case round =>
                obtain ⟨j, q2, A2, c2, hjc, rfl, rfl, HQ2, hq2, hswi, HB0, HNE2, HO2, HB2⟩ := hrel
                obtain ⟨wI, rfl⟩ : ∃ wI : World, wI = wr := ⟨_, rfl⟩
                have jj0 : (0 : Int) ≤ (j : Int) := by omega
                by_cases hlj : j < C.length
                · have jj1 : (j : Int) < (C.length : Int) := by omega
                  obtain ⟨Ay, cy, hvy, -, -, hrd⟩ := rd_below HCS.out HB2.out
                  injection hvy with hvy _ hvc
                  subst hvy; subst hvc
                  obtain ⟨bc, offc, rfl, hbc, hcl⟩ := hrd (by omega)
                  obtain ⟨cn, cs, hx, d0, d1⟩ := ch_at' hcl (Below.refl _ _) hbc hlj
                  have HSN := Lib.hid (gath_snoc hx ⟨nm, kd, ndd, cr, sv⟩)
                  clear hcl hrd hx
                  go_upto_region 22 with fail
                  generalize hW : World.alloc wI _ = wJ
                  have x0 : wJ.cell? ⟨wI.heap.size, 0, none⟩ = some (.string cn) := by subst hW; simp [go_sem]
                  have hbJ : Below wI.heap.size wI wJ := by subst hW; exact bel_al (Below.refl _ _) _
                  have hsJ : wI.heap.size < wJ.heap.size := by subst hW; simp
                  have hAI : wA.heap.size < wI.heap.size := by omega
                  have y0 := (hbJ.cell (p := ⟨wA.heap.size, 0, none⟩) hAI).trans HB0.out
                  have HO3 := Lib.hid (own_below HO2.out hbJ)
                  have HB3 := Lib.hid (bel_then HB2.out hbJ)
                  have Y0 := Lib.hid y0
                  have hsU := HB3.out.size
                  clear hW hbJ d0 d1
                  by_cases hcn : cn = nm
                  · have e0 : (cn.toList == nm.toList) = true := by rw [hcn]; simp
                    have HQ4 : Hid (q2 ++ [cn] = q ++ gath (C.take (j + 1)) ⟨nm, kd, ndd, cr, sv⟩) := Lib.hid (by rw [HSN.out, if_pos hcn, ← List.append_assoc, ← HQ2.out])
                    have hlo := HO3.out.lt
                    clear hcn
                    go_wp2_with (at_builtin; refine wpList_app_rd _ rfl _ _ 40 rfl wU.heap.size 9 j0 _ 1 16 Tryz.underlying40 hj hj0 hj1 hj2 rfl (by decide) _ _ _ rfl (HO3.out.alloc _) _ 1 [.string cn] rfl (rd_new _ rfl (Nat.le_refl _) (by rw [maxLen_eq]; omega)) rfl (by intro u hu; simp at hu; subst hu; rfl) (by rw [maxLen_eq]; omega) (by omega) (by simp; omega) ?_; intro v7 w7 hown7 hgrow7 he7)
                    obtain ⟨A7, c7, rfl, _⟩ := own_rd hown7
                    have hg7 : Below wU.heap.size wU w7 := bel_grown (bel_al HB3.out _) hgrow7 (fun q e => (hlo q e).1)
                    have hs7 := hgrow7.size
                    have hne7 : ∀ q, (Value.slice A2 q2.length c2).ownBlock = some q → q ≠ wA.heap.size := fun q e => by
                      cases A2 with
                      | none => cases e
                      | some x => exact (Option.some.inj e) ▸ HNE2.out x rfl
                    have y7 : w7.cell? ⟨wA.heap.size, 0, none⟩ = some (.string nm) := (World.cell?_of_block (hgrow7.block wA.heap.size (by simp; omega) (fun e => hne7 _ e.symm rfl))).trans ((World.cell?_alloc_lt _ _ _ (by show wA.heap.size < _; omega)).trans Y0.out)
                    refine ⟨⟨j + 1, q2 ++ [cn], A7, c7, by omega, by go_num, by simp, HQ4, by simp; omega, by simp at hs7; omega, Lib.hid y7, Lib.hid (fun x hx => ?_), Lib.hid ?_, Lib.hid hg7⟩, by simp [intOf]; omega⟩
                    · subst hx
                      rcases he7 with he | he
                      · exact hne7 _ (he.symm.trans rfl)
                      · have := Option.some.inj he
                        simp at this
                        omega
                    · rw [strs_snoc8, List.length_append]; exact hown7
                  · have e0 : (cn.toList == nm.toList) = false := by rw [beq_nm]; exact decide_eq_false hcn
                    have HQ4 : Hid (q2 = q ++ gath (C.take (j + 1)) ⟨nm, kd, ndd, cr, sv⟩) := Lib.hid (by rw [HSN.out, if_neg hcn, List.append_nil, ← HQ2.out])
                    clear hcn
                    go_wp2
                    exact ⟨⟨j + 1, q2, A2, c2, by omega, by go_num, rfl, HQ4, by omega, by omega, Y0, HNE2, HO3, HB3⟩, by simp [intOf]; omega⟩
                · obtain rfl : j = C.length := by omega
                  have HQ4 : Hid (q2 = (F1.take (k + 1)).flatMap (gath C)) := Lib.hid (by rw [take_succ_of HXX.out, List.flatMap_append, ← HQE.out, HQ2.out, List.take_length]; simp)
                  go_wp2
                  exact ⟨⟨k + 1, q2, A2, c2, by omega, by go_num, rfl, HQ4, by omega, HO2, HB2⟩, by simp [intOf]; omega⟩
            · obtain rfl : k = F1.length := by omega
              have hqs : q = selN F1 P := by
                have h := HQE.out
                rw [List.take_length, HGATH.out] at h
                exact h
              have hql : (q.length : Int) = (C.length : Int) := by rw [hqs, HSL.out]
              have hqe : ((q.length : Int) != (C.length : Int)) = false := by rw [hql]; simp
              have HBV : Hid (isBestChoiceV N T1 F1 src Q1 q = (true, true)) := Lib.hid (by rw [hqs]; exact HBEST.out)
              have HQE2 := Lib.hid hqe
              have K2 := Lib.hid (own_below K1.out HBL.out)
              have t0 := K2.out.cellAt 0 (by omega)
              have t1 := K2.out.cellAt 1 (by omega)
              dsimp only [List.getElem?_cons_zero, List.getElem?_cons_succ] at t0 t1
              clear hqs hql hqe HQE
              go_wp2_with fail
              refine (isBestChoiceI_c N _ T1 _ F1 src _ Q1 _ q _ (rd_below HT1.out HBL.out) HZ1.out (rd_below HF1.out HBL.out) (rdi_below HQ1.out HBL.out) (own_rd HOW.out)).mono ?_; unfold BestIs; rw [HBV.out]; rintro e wE ⟨rfl, hb⟩
              have HBE := Lib.hid (bel_then HBL.out hb)
              have HZE := Lib.hid (bel_then HZ.out HBE.out)
              have qx := HQE2.out
              clear hb t0 t1
              obtain ⟨wF, rfl⟩ : ∃ x : World, x = wE := ⟨_, rfl⟩
              go_upto_region 29 with fail
              clear qx
              go_wp2_with fail
              go_loopw [204] (fun vi wr => ∃ j : Nat, j ≤ C.length ∧ vi = .int .i64 j ∧ Hid (Below wU.heap.size wU wr)) (fun vi _ => C.length - (intOf vi).toNat)
              case atStart => exact ⟨0, Nat.zero_le _, rfl, HBE⟩
              case round =>
                obtain ⟨j, hjc, rfl, HB2⟩ := hrel
                obtain ⟨wI, rfl⟩ : ∃ wI : World, wI = wr := ⟨_, rfl⟩
                have jj0 : (0 : Int) ≤ (j : Int) := by omega
                by_cases hlj : j < C.length
                · have jj1 : (j : Int) < (C.length : Int) := by omega
                  obtain ⟨Ay, cy, hvy, -, -, hrd⟩ := rd_below HCS.out HB2.out
                  injection hvy with hvy _ hvc
                  subst hvy; subst hvc
                  obtain ⟨bc, offc, rfl, hbc, hcl⟩ := hrd (by omega)
                  obtain ⟨cn, cs, hx, d0, d1⟩ := ch_at' hcl (Below.refl _ _) hbc hlj
                  have HX := Lib.hid hx
                  have HCL := Lib.hid hcl
                  clear hcl hrd hx
                  go_upto_region 32 with fail
                  generalize hW : World.alloc wI _ = wJ
                  have x1 : wJ.cell? ⟨wI.heap.size, 1, none⟩ = some (.int .i64 cs) := by subst hW; simp [go_sem]
                  have hbJ : Below wI.heap.size wI wJ := by subst hW; exact bel_al (Below.refl _ _) _
                  have HB3 := Lib.hid (bel_then HB2.out hbJ)
                  have HBJ := Lib.hid hbJ
                  clear hW hbJ d0 d1
                  rcases j with _ | p
                  · have hd0 : decide ((0 : Int) < 0) = false := by decide
                    go_quiet (fail)
                    go_wp2
                    exact ⟨⟨1, by omega, by go_num, Lib.hid (below_drewN HB3.out _)⟩, by simp [intOf]; omega⟩
                  · obtain ⟨cn', cs', hx', y0, y1⟩ := ch_at' HCL.out HBJ.out hbc (show p < C.length by omega)
                    have hle : cs' ≤ cs := HUP.out p _ _ hx' HX.out
                    have hpz : (0 : Int) < (p : Int) + 1 := by omega
                    have s9 : IntKind.i64.wrap (p : Int) = (p : Int) := IntWalk.i64_in _ (by omega)
                    have p0 : (0 : Int) ≤ (p : Int) := by omega
                    have p1 : (p : Int) < (C.length : Int) := by omega
                    have g1 : decide (cs < cs') = false := decide_eq_false (by omega)
                    clear hx' y0 hle
                    go_quiet (fail)
                    clear s9
                    go_wp2
                    exact ⟨⟨p + 1 + 1, by omega, by go_num, Lib.hid (below_drewN HB3.out _)⟩, by simp [intOf]; omega⟩
                · obtain rfl : j = C.length := by omega
                  go_wp2_with fail
                  go_meet
                  exact bel_then HZ.out HB2.out
      case rest => as_aux_lemma =>
        have hb := hcut
        clear hcut HQ1 HCS HMS CH MH okH
        replace HB := Lib.hid (bel_then HB.out hb)
        replace HT1 := Lib.hid (rd_below HT1.out hb)
        replace HF1 := Lib.hid (rd_below HF1.out hb)
        replace K1 := Lib.hid (own_below K1.out hb)
        replace HRSc := Lib.hid (rd_below HRSc.out hb)
        clear hb
        obtain ⟨wX, rfl⟩ : ∃ x : World, x = wc := ⟨_, rfl⟩
        go_upto_if 223 with fail
        go_cut [306] from 30 to 306 (fun v wx => Below wX.heap.size wX wx)
        case first =>
          cases three with
          | false => go_wp2_with fail; go_meet; exact Below.refl _ _
          | true =>
            have HZ := Lib.hid (Below.refl wX.heap.size wX)
            have hask := ready_ask threeH.out
            obtain ⟨hds, hx0, hx1⟩ := askD_true hask
            obtain ⟨hgt, hgf, hnd⟩ := goodDs_true hds
            have hn1 := (goodTown_true hgt).1
            obtain ⟨N, rfl⟩ := Int.eq_ofNat_of_zero_le (show 0 ≤ n1 by omega)
            obtain ⟨src, rfl⟩ := Int.eq_ofNat_of_zero_le hx0
            have hs : src < N := by omega
            have HASK := Lib.hid hask
            have HGT := Lib.hid hgt
            have HGF := Lib.hid hgf
            have HND := Lib.hid hnd
            obtain ⟨hf12, -⟩ := goodFl_true hgf
            clear hask hds hgt hgf hnd hx0 hx1 hn1
            obtain ⟨ev, hev⟩ : ∃ ev, distT N (arcs T1) src = ev := ⟨_, rfl⟩
            have hRe : R = chL F1 ev (readyL ev F1) := by
              have h := RH.out
              rw [readyTimes_yes HASK.out, hev] at h
              exact h.symm
            have hrl : R.length ≤ 12 := by rw [hRe, chL_len]; exact Nat.le_trans (readyL_len ev F1) hf12
            obtain ⟨fv1, fv2⟩ := first_ready HASK.out
            rw [RH.out] at fv1 fv2
            have HEL : Hid (∀ (k : Nat) (x : Ch), R[k]? = some x → ∃ (i p : Nat) (a : Ap), F1[i]? = some a ∧ x.cn = a.nm ∧ a.nd = (p : Int) ∧ p < N ∧ (distT N (arcs T1) p).getD src 0 = x.cs ∧ 0 ≤ x.cs ∧ findV x.cn F1 = ((i : Int), true)) := Lib.hid (fun k x hx => by
              rw [hRe] at hx
              unfold chL at hx
              rw [List.getElem?_map, Option.map_eq_some_iff] at hx
              obtain ⟨y, hy, rfl⟩ := hx
              obtain ⟨i, a, rfl, ha, _, hz⟩ := readyL_mem (List.mem_of_getElem? hy)
              have hnd := HND.out a (List.mem_of_getElem? ha)
              obtain ⟨p, hp⟩ := Int.eq_ofNat_of_zero_le hnd.1
              rw [chAt_at ha]
              have hpN : p < N := by omega
              have hA := arcs_good HGT.out
              rw [Int.toNat_natCast] at hA
              refine ⟨i, p, a, ha, rfl, hp, hpN, ?_, hz, ?_⟩
              · rw [dist_sym hA hpN hs, hev]
                show _ = ev.getD a.nd.toNat 0
                rw [hp]; rfl
              · show findV a.nm F1 = _
                unfold findV
                rw [find_at HGF.out ha, if_pos ⟨HGF.out, by omega⟩])
            have HUP : Hid (∀ (k : Nat) (x y : Ch), R[k]? = some x → R[k + 1]? = some y → x.cs ≤ y.cs) := Lib.hid (fun k x y hx hy => by rw [hRe] at hx hy; exact chL_up (List.Sublist.refl _) hx hy)
            obtain ⟨fn, hfn⟩ : ∃ z, (firstAttendanceV N T1 F1 src).1 = z := ⟨_, rfl⟩
            obtain ⟨fs, hfs⟩ : ∃ z, (firstAttendanceV N T1 F1 src).2.1 = z := ⟨_, rfl⟩
            obtain ⟨fv, hfv⟩ : ∃ z, (firstAttendanceV N T1 F1 src).2.2 = z := ⟨_, rfl⟩
            rw [hfv] at fv1
            rw [hfn, hfs] at fv2
            have HF2 := Lib.hid fv2
            have HV1 := Lib.hid fv1
            obtain ⟨Ar, cr, rfl, hcr, hmr, -⟩ := HRSc.out
            rw [maxLen_eq] at hmr
            clear hRe hev fv1 fv2
            have t0 := K1.out.cellAt 0 (by omega)
            have t1 := K1.out.cellAt 1 (by omega)
            dsimp only [List.getElem?_cons_zero, List.getElem?_cons_succ] at t0 t1
            go_wp2_with fail
            refine (firstAttendanceI_c N _ T1 _ F1 src _ HT1.out HZ1.out HF1.out).mono ?_; unfold FirstIs; rw [hfn, hfs, hfv]; rintro e wE ⟨rfl, hb⟩
            clear t0 t1 hfn hfs hfv
            replace HZ := Lib.hid (bel_then HZ.out hb)
            replace HT1 := Lib.hid (rd_below HT1.out hb)
            replace HF1 := Lib.hid (rd_below HF1.out hb)
            replace K1 := Lib.hid (own_below K1.out hb)
            replace HRSc := Lib.hid (rd_below HRSc.out hb)
            clear hb
            obtain ⟨wU, rfl⟩ : ∃ x : World, x = wE := ⟨_, rfl⟩
            by_cases hr0 : 0 < R.length
            · have h1 : (0 : Int) < (R.length : Int) := by omega
              have hfv : fv = true := by rw [HV1.out]; exact decide_eq_true hr0
              subst hfv
              obtain ⟨x, hx⟩ : ∃ x, R[0]? = some x := ⟨_, List.getElem?_eq_getElem hr0⟩
              obtain ⟨rfl, rfl⟩ := HF2.out x hx
              obtain ⟨xcn, xcs⟩ := x
              obtain ⟨Ay, cy, hvy, -, -, hrd⟩ := HRSc.out
              injection hvy with hvy _ hvc
              subst hvy; subst hvc
              obtain ⟨bc, offc, rfl, hbc, hcl⟩ := hrd hr0
              obtain ⟨d0, d1⟩ := ch_at hcl (Below.refl _ _) hbc hx
              rw [Nat.zero_mul, Nat.add_zero] at d0 d1
              dsimp only at d0 d1
              have e0 : (xcn.toList != xcn.toList) = false := by simp
              have e1 : (xcs != xcs) = false := by simp
              clear hcl hrd hx
              go_upto_region 39 with fail
              clear d0 d1 e0 e1
              go_wp2_with fail
              go_loopw [258] (fun vi wr => ∃ j : Nat, j ≤ R.length ∧ vi = .int .i64 j ∧ Hid (Below wU.heap.size wU wr)) (fun vi _ => R.length - (intOf vi).toNat)
              case atStart => exact ⟨0, Nat.zero_le _, rfl, Lib.hid (Below.refl _ _)⟩
              case round =>
                obtain ⟨j, hjc, rfl, HB2⟩ := hrel
                obtain ⟨wI, rfl⟩ : ∃ wI : World, wI = wr := ⟨_, rfl⟩
                have jj0 : (0 : Int) ≤ (j : Int) := by omega
                by_cases hlj : j < R.length
                · have jj1 : (j : Int) < (R.length : Int) := by omega
                  obtain ⟨Ay, cy, hvy, -, -, hrd⟩ := rd_below HRSc.out HB2.out
                  injection hvy with hvy _ hvc
                  subst hvy; subst hvc
                  obtain ⟨bc2, offc2, hAr, hbc, hcl⟩ := hrd (by omega)
                  injection hAr with hAr
                  injection hAr with hA1 hA2
                  subst hA1; subst hA2
                  obtain ⟨cn, cs, hx, d0, d1⟩ := ch_at' hcl (Below.refl _ _) hbc hlj
                  obtain ⟨i, p, ⟨anm, akd, andd, acr, asv⟩, ha, hcn, hndp, hpN, hdist, hcs0, hfind⟩ := HEL.out j _ hx
                  dsimp only at hcn hndp hdist hcs0 hfind
                  have HX := Lib.hid hx
                  have HCL := Lib.hid hcl
                  have HDI := Lib.hid hdist
                  have HFI := Lib.hid hfind
                  have hif : i < F1.length := (List.getElem?_eq_some_iff.1 ha).1
                  have HA := Lib.hid ha
                  clear hcl hrd hx hcn hdist hfind ha
                  subst hndp
                  go_upto_region 42 with fail
                  generalize hW : World.alloc wI _ = wJ
                  have x0 : wJ.cell? ⟨wI.heap.size, 0, none⟩ = some (.string cn) := by subst hW; simp [go_sem]
                  have x1 : wJ.cell? ⟨wI.heap.size, 1, none⟩ = some (.int .i64 cs) := by subst hW; simp [go_sem]
                  have hbJ : Below wI.heap.size wI wJ := by subst hW; exact bel_al (Below.refl _ _) _
                  have hsJ : wI.heap.size < wJ.heap.size := by subst hW; simp
                  have HBJ := Lib.hid hbJ
                  have HB3 := Lib.hid (bel_then HB2.out hbJ)
                  clear hW hbJ d0 d1
                  go_wp2_with fail
                  refine (findApplianceS_c _ F1 cn _ HZ1.out (rd_below HF1.out HB3.out)).mono ?_; rw [HFI.out]; rintro e wK ⟨rfl, hb⟩
                  have x1 := (hb.cell (p := ⟨wI.heap.size, 1, none⟩) hsJ).trans x1
                  have HBK := Lib.hid (bel_then HBJ.out hb)
                  have HB4 := Lib.hid (bel_then HB3.out hb)
                  have hsK : wI.heap.size < wK.heap.size := Nat.lt_of_lt_of_le hsJ hb.size
                  clear hb x0
                  have hrf := rd_below HF1.out HB4.out
                  obtain ⟨Az, cz, hvz, -, -, hrd⟩ := hrf
                  injection hvz with hvz _ hvc
                  subst hvz; subst hvc
                  obtain ⟨bf, off, rfl, hbf, hcl⟩ := hrd (by omega)
                  obtain ⟨-, -, z2, -, -⟩ := ap_at hcl (Below.refl _ _) hbf HA.out
                  dsimp only at z2
                  have i0 : (0 : Int) ≤ (i : Int) := by omega
                  have i1 : (i : Int) < (F1.length : Int) := by omega
                  have K2 := Lib.hid (own_below K1.out HB4.out)
                  have t0 := K2.out.cellAt 0 (by omega)
                  have t1 := K2.out.cellAt 1 (by omega)
                  dsimp only [List.getElem?_cons_zero, List.getElem?_cons_succ] at t0 t1
                  have htl := (K2.out.lt RK1 rfl).2
                  have HTK := Lib.hid (rd_below HT1.out HB4.out)
                  clear hcl hrd
                  go_upto_region 45 with fail
                  go_region_held3 (fun w' => w'.cell? ⟨RK1, 0, none⟩ = some (.int .i64 N) ∧ w'.cell? ⟨RK1, 1, none⟩ = some (.slice As1 T1.length cs1) ∧ w'.cell? ⟨bf, off + i * 5 + 2, none⟩ = some (.int .i64 p)) (first | go_keep | (go_split_ands; refine ⟨?_, ?_, ?_⟩ <;> (rw [hb1.cell (by simp; omega)]; assumption))) (first | (go_at_call 18; refine (travelTimeI_c N _ T1 p src cs _ (rd_below HTK.out (bel_dr (Below.refl _ _))) HGT.out hpN hs HDI.out hcs0).mono ?_; rintro e w' ⟨rfl, hb1⟩))
                  have x1 := (hb1.cell (p := ⟨wI.heap.size, 1, none⟩) hsK).trans x1
                  have HBL := Lib.hid (bel_then (bel_dr HBK.out) hb1)
                  have HB5 := Lib.hid (bel_then (bel_dr HB4.out) hb1)
                  obtain ⟨wL, rfl⟩ : ∃ x : World, x = w' := ⟨_, rfl⟩
                  clear t0 t1 z2 hb1 htl
                  have g0 : (cs != cs) = false := by simp
                  go_upto_region 46 with fail
                  rcases j with _ | m
                  · have hd0 : decide ((0 : Int) < 0) = false := by decide
                    go_quiet (fail)
                    go_wp2
                    exact ⟨⟨1, by omega, by go_num, Lib.hid (below_drewN HB5.out _)⟩, by simp [intOf]; omega⟩
                  · obtain ⟨cn', cs', hx', y0, y1⟩ := ch_at' HCL.out HBL.out hbc (show m < R.length by omega)
                    have hle : cs' ≤ cs := HUP.out m _ _ hx' HX.out
                    have hpz : (0 : Int) < (m : Int) + 1 := by omega
                    have s9 : IntKind.i64.wrap (m : Int) = (m : Int) := IntWalk.i64_in _ (by omega)
                    have p0 : (0 : Int) ≤ (m : Int) := by omega
                    have p1 : (m : Int) < (R.length : Int) := by omega
                    have g1 : decide (cs < cs') = false := decide_eq_false (by omega)
                    clear hx' y0 hle
                    go_quiet (fail)
                    clear s9
                    go_wp2
                    exact ⟨⟨m + 1 + 1, by omega, by go_num, Lib.hid (below_drewN HB5.out _)⟩, by simp [intOf]; omega⟩
                · obtain rfl : j = R.length := by omega
                  go_wp2_with fail
                  go_meet
                  exact bel_then HZ.out HB2.out
            · have h1 : (R.length : Int) ≤ 0 := by omega
              have hfv : fv = false := by rw [HV1.out]; exact decide_eq_false hr0
              subst hfv
              go_upto_region 39 with fail
              have hr : R.length = 0 := by omega
              have hr2 := Lib.hid hr
              clear hr
              go_wp2_with fail
              go_loopw [258] (fun vi wr => ∃ j : Nat, j ≤ R.length ∧ vi = .int .i64 j ∧ Hid (Below wU.heap.size wU wr)) (fun vi _ => R.length - (intOf vi).toNat)
              case atStart => exact ⟨0, Nat.zero_le _, rfl, Lib.hid (Below.refl _ _)⟩
              case round =>
                obtain ⟨j, hjc, rfl, HB2⟩ := hrel
                obtain ⟨wI, rfl⟩ : ∃ wI : World, wI = wr := ⟨_, rfl⟩
                have jj0 : (0 : Int) ≤ (j : Int) := by omega
                by_cases hlj : j < R.length
                · exfalso; omega
                · obtain rfl : j = R.length := by omega
                  go_wp2_with fail
                  go_meet
                  exact bel_then HZ.out HB2.out
        case rest => as_aux_lemma =>
          have hb := hcut
          clear hcut HT1 HF1 K1 HRSc RH threeH
          replace HB := Lib.hid (bel_then HB.out hb)
          clear hb
          go_wp2_with fail
          refine (drawIsBestChoice_c _ l1 hn1 HO1.out _ (rd_below HR1.out HB.out)).mono ?_; rintro e w9 ⟨⟨n2, s2, T2, vf2, F2, x2, vQ2, Q2, vq2, q2, rfl, hT2, hF2, -, hFs2, hQ2, -, hq2, -, -⟩, hb⟩
          replace HB := Lib.hid (bel_then HB.out hb)
          clear hb
          have HT2 := Lib.hid hT2
          clear hT2
          have HF2 := Lib.hid hF2
          clear hF2
          have HQ2 := Lib.hid hQ2
          clear hQ2
          have Hq2 := Lib.hid hq2
          clear hq2
          obtain ⟨As2, cs2, rfl, -⟩ := HT2.out
          have HZ2 : Hid (∀ x ∈ F2, x.nm.size ≤ 9223372036854775807) := Lib.hid (fun x hx => Nat.le_trans (hFs2 x hx) (by decide))
          clear hFs2
          go_upto_region 50 with fail
          generalize hW : World.alloc w9 _ = w10
          have hr0 : w10.ownsRow w9.heap.size 26 2 (.slice (some ⟨w9.heap.size, 0, none⟩) 1 1) 1 [.int .i64 n2, .slice As2 T2.length cs2] := by subst hW; exact row_new w9 [.int .i64 n2, .slice As2 T2.length cs2] _ 1 2 rfl (by omega) (by omega)
          have hb : Below w9.heap.size w9 w10 := by subst hW; exact bel_al (Below.refl _ _) _
          clear hW
          replace HB := Lib.hid (bel_then HB.out hb)
          replace HT2 := Lib.hid (rd_below HT2.out hb)
          replace HF2 := Lib.hid (rd_below HF2.out hb)
          replace HQ2 := Lib.hid (rdi_below HQ2.out hb)
          replace Hq2 := Lib.hid (rd_below Hq2.out hb)
          clear hb
          obtain ⟨RK2, hRK2⟩ : ∃ R, w9.heap.size = R := ⟨_, rfl⟩
          rw [hRK2] at hr0 ⊢
          clear hRK2
          have K2 := Lib.hid hr0
          clear hr0
          obtain ⟨b1, hb1⟩ : ∃ z, (isBestChoiceV n2 T2 F2 x2 Q2 q2).1 = z := ⟨_, rfl⟩
          obtain ⟨b2, hb2⟩ : ∃ z, (isBestChoiceV n2 T2 F2 x2 Q2 q2).2 = z := ⟨_, rfl⟩
          have t0 := K2.out.cellAt 0 (by omega)
          have t1 := K2.out.cellAt 1 (by omega)
          dsimp only [List.getElem?_cons_zero, List.getElem?_cons_succ] at t0 t1
          go_wp2_with fail
          refine (isBestChoiceI_c n2 _ T2 _ F2 x2 _ Q2 _ q2 _ HT2.out HZ2.out HF2.out HQ2.out Hq2.out).mono ?_; unfold BestIs; rw [hb1, hb2]; rintro e w11 ⟨rfl, hb⟩
          clear t0 t1
          replace HB := Lib.hid (bel_then HB.out hb)
          replace HT2 := Lib.hid (rd_below HT2.out hb)
          replace HF2 := Lib.hid (rd_below HF2.out hb)
          replace HQ2 := Lib.hid (rdi_below HQ2.out hb)
          replace Hq2 := Lib.hid (rd_below Hq2.out hb)
          replace K2 := Lib.hid (own_below K2.out hb)
          clear hb
          have t0 := K2.out.cellAt 0 (by omega)
          have t1 := K2.out.cellAt 1 (by omega)
          dsimp only [List.getElem?_cons_zero, List.getElem?_cons_succ] at t0 t1
          go_wp2_with fail
          refine (isBestChoiceS_c n2 _ T2 _ F2 x2 _ Q2 _ q2 _ HT2.out HZ2.out HF2.out HQ2.out Hq2.out).mono ?_; unfold BestIs; rw [hb1, hb2]; rintro e w12 ⟨rfl, hb⟩
          clear t0 t1
          replace HB := Lib.hid (bel_then HB.out hb)
          replace HT2 := Lib.hid (rd_below HT2.out hb)
          replace HF2 := Lib.hid (rd_below HF2.out hb)
          replace HQ2 := Lib.hid (rdi_below HQ2.out hb)
          replace Hq2 := Lib.hid (rd_below Hq2.out hb)
          replace K2 := Lib.hid (own_below K2.out hb)
          clear hb
          clear hb1 hb2
          have e1 : (b1 == b1) = true := by simp
          have e2 : (b2 == b2) = true := by simp
          go_wp2
          go_ret
          exact ⟨by first | rfl | simp, HB.out⟩
end Go.Proofs.YthgegghdkoeofaaGreat
