/-
  A town and a fleet in it, drawn; the draws of choices (printed by gen_drawtu.py). The public draws of towns and fleets (printed by gen_drawtu.py). (joined by pack.py: DrawTu DrawCh)
-/
import Derived.Test.YthgegghdkoeofaaGreatDoorK28
import Derived.Test.YthgegghdkoeofaaGreatDoorK32
import Derived.Deep.RegionHeld3
import Derived.Deep.CutRange
namespace Go.Proofs.YthgegghdkoeofaaGreatDoor
set_option linter.unusedVariables false
set_option linter.unusedSimpArgs false
open Go.RowKit

/-- Rows of towns and rows of streets lie in different blocks. -/
theorem town_ne9 {X : World} {R b1 b2 n : Nat} {v : Value} {xs ys : List Value} (h : X.ownsRow b1 47 2 (.slice (some ⟨R, 0, none⟩) 1 1) 1 ys) (ho : X.ownsRow b2 144 3 v n xs) : ∀ q, v.ownBlock = some q → q ≠ R := by
  intro q hq e
  subst e
  rcases ho.2 with ⟨h1, _⟩ | ⟨g, cap, cur, h1, _, h3, _⟩
  · subst h1; cases hq
  · subst h1
    obtain rfl : g = q := Option.some.inj hq
    rcases h.2 with ⟨h4, _⟩ | ⟨g', cap', cur', h4, _, h6, _⟩
    · cases h4
    · injection h4 with h4
      injection h4 with h4
      injection h4 with h4
      subst h4
      rw [h3] at h6
      exact absurd h6 (by simp)
theorem kept_ne {X Y : World} {R b1 b2 n : Nat} {v : Value} {xs ys : List Value} (h : X.ownsRow b1 47 2 (.slice (some ⟨R, 0, none⟩) 1 1) 1 ys) (ho : X.ownsRow b2 144 3 v n xs) (g : X.grownBy Y (some R)) : Y.ownsRow b2 144 3 v n xs :=
  ho.kept g (by
    cases hv : v.ownBlock with
    | none => exact .inl rfl
    | some q => exact .inr (fun hq => town_ne9 h ho q hv (Option.some.inj hq)))
/-- The variable of a town at RT, its streets, the result's place. -/
structure TurnSt (B : Nat) (l : List Int) (a k : Nat) (w : World) (RT : Nat) (n : Int) (A : Option Addr) (L : List St) (c : Nat) (W : World) : Prop where
  ht : W.ownsRow w.heap.size 47 2 (.slice (some ⟨RT, 0, none⟩) 1 1) 1 [.int .i64 n, .slice A L.length c]
  ho : W.ownsRow (w.heap.size + 1) 144 3 (.slice A L.length c) L.length (L.flatMap St.cells)
  hf : FreshT W w.heap.size
  hd : Drew B l a k w W
  lt : w.heap.size < RT
  hR : RT < W.heap.size
theorem turn_drew {B : Nat} {l : List Int} {a k j : Nat} {w : World} {RT : Nat} {n : Int} {A : Option Addr} {L : List St} {c : Nat} {W W' : World} (h : TurnSt B l a k w RT n A L c W) (g : Drew B l (a + k) j W W') (hB : B < w.heap.size) : TurnSt B l a (k + j) w RT n A L c W' :=
  ⟨own_draw h.ht g.2 hB, own_draw h.ho g.2 (by omega), fresh_gro h.hf g.2 (by omega), h.hd.trans g, h.lt, Nat.lt_of_lt_of_le h.hR g.2.size⟩

set_option maxRecDepth 100000 in
set_option maxHeartbeats 4000000 in
theorem turnout_c (B : Nat) (l : List Int) (hl : BytesOk l) (a : Nat) (ha : a ≤ 4611686018427330000) (w : World) (hc : CurAt B l a w) :
    Calls Tryz.prog 80 #[.pointer (some ⟨B, 0, none⟩)] w fun e w' => ∃ (n : Int) (v : Value) (L : List St) (vf : Value) (f : List Ap), e = .returned (.tuple #[.agg #[.int .i64 n, v], vf]) ∧ RdB w.heap.size w' v L.length (L.flatMap St.cells) ∧ RdB w.heap.size w' vf f.length (f.flatMap Ap.cells) ∧ f.length ≤ 13 ∧ (∀ x ∈ f, x.nm.size ≤ 7) ∧ Drew B l a 9000 w w' := by
  have HL := Lib.hid hl
  have HD := Lib.hid (Drew.refl hc 0)
  have hBb : B < w.heap.size := hc.lt
  have hB1 : B < w.heap.size + 1 := by omega
  clear hc hl
  go_enter Tryz.func80, Tryz.ntmps80
  go_upto_region 1 with fail
  generalize hW : World.alloc w _ = W0
  have hf0 : FreshT W0 w.heap.size := by subst hW; exact fresh_new w _ rfl
  have hb0 : Below w.heap.size w W0 := by subst hW; exact bel_al (Below.refl _ _) _
  have sz0 : W0.heap.size = w.heap.size + 1 := by subst hW; simp
  have HF := Lib.hid hf0
  have HD := Lib.hid (HD.out.bel hb0)
  clear hW hf0 hb0
  go_wp2_with fail
  refine (town_c B l HL.out (a + 0) (by omega) _ HD.out.1).mono ?_; rintro e W1 ⟨n, v, L, rfl, ho, -, -, -, hd⟩
  obtain ⟨A, c, rfl, -⟩ := own_rd ho
  have hs1 := hd.2.size
  have HO : Hid (W1.ownsRow (w.heap.size + 1) 144 3 (.slice A L.length c) L.length (L.flatMap St.cells)) := Lib.hid (own_base ho (by omega))
  have HF := Lib.hid (fresh_gro HF.out hd.2 (by omega))
  have HD := Lib.hid (HD.out.trans hd)
  clear ho hd
  go_upto_region 2 with fail
  generalize hW : World.alloc W1 _ = W2
  have ht : W2.ownsRow w.heap.size 47 2 (.slice (some ⟨W1.heap.size, 0, none⟩) 1 1) 1 [.int .i64 n, .slice A L.length c] := by subst hW; exact own_base (row_new W1 _ _ 1 2 rfl (by omega) (by omega)) (by omega)
  have hbl : Below W1.heap.size W1 W2 := by subst hW; exact bel_al (Below.refl _ _) _
  have hs2 : W1.heap.size < W2.heap.size := by subst hW; simp
  obtain ⟨RT, hRT⟩ : ∃ RT, W1.heap.size = RT := ⟨_, rfl⟩
  rw [hRT] at ht hs2 ⊢
  have HST : Hid (TurnSt B l a 4000 w RT n A L c W2) := Lib.hid ⟨ht, own_below HO.out hbl, own_below HF.out hbl, HD.out.bel hbl, by omega, hs2⟩
  clear hW ht hbl HD HF HO
  go_wp2_with fail
  refine (one_c B l HL.out (a + 4000) (by omega) 24 (by omega) _ HST.out.hd.1).mono ?_; rintro e W3 ⟨b, rfl, hd⟩
  have HST := Lib.hid (turn_drew HST.out hd hBb)
  clear hd hs1 hs2 hRT
  go_upto_if 9 with fail
  go_cut [9] from 10 to 11 (fun v wx => ∃ (n : Int) (A : Option Addr) (L : List St) (c : Nat), TurnSt B l a 8400 w RT n A L c wx)
  case first =>
    have t0 := HST.out.ht.cellAt 0 (by omega)
    have t1 := HST.out.ht.cellAt 1 (by omega)
    have f0 := HST.out.ht.frozenAt 0
    have f1 := HST.out.ht.frozenAt 1
    dsimp only [List.getElem?_cons_zero, List.getElem?_cons_succ] at t0 t1
    cases b
    · go_wp2_with fail
      go_meet
      exact ⟨n, A, L, c, HST.out.ht, HST.out.ho, HST.out.hf, HST.out.hd.more (by omega), HST.out.lt, HST.out.hR⟩
    · go_wp2_with fail
      refine (anyTown_c B l HL.out (a + (4000 + 2)) (by omega) _ HST.out.hd.1).mono ?_; rintro e W4 ⟨n2, v2, L2, rfl, ho, hd⟩
      obtain ⟨A2, c2, rfl, -⟩ := own_rd ho
      have h3 := HST.out.hR
      have h4 := HST.out.lt
      have hs3 := HST.out.hd.2.size
      have HO : Hid (W4.ownsRow (w.heap.size + 1) 144 3 (.slice A2 L2.length c2) L2.length (L2.flatMap St.cells)) := Lib.hid (own_base ho (by omega))
      have HST4 := Lib.hid (turn_drew HST.out hd hBb)
      clear t0 t1 f0 f1 ho hd
      have t0 := HST4.out.ht.cellAt 0 (by omega)
      have t1 := HST4.out.ht.cellAt 1 (by omega)
      have f0 := HST4.out.ht.frozenAt 0
      have f1 := HST4.out.ht.frozenAt 1
      dsimp only [List.getElem?_cons_zero, List.getElem?_cons_succ] at t0 t1
      go_wp2_with fail
      go_meet
      have hg : W4.grownBy ((W4.setCell ⟨RT, 0, none⟩ (.int .i64 n2)).setCell ⟨RT, 1, none⟩ (.slice A2 L2.length c2)) (some RT) := (only_setCell (only_setCell (World.grownBy.refl _ _) 0 _) 1 _)
      exact ⟨n2, A2, L2, c2, own_put [_, _] W4 _ 0 HST4.out.ht, kept_ne HST4.out.ht HO.out hg, HST4.out.hf.kept hg (.inr (fun e => by have : w.heap.size = RT := Option.some.inj e; omega)), HST4.out.hd.own hg (by omega) hBb |>.more (by omega), h4, Nat.lt_of_lt_of_le HST4.out.hR hg.size⟩
  case rest => as_aux_lemma =>
    obtain ⟨n, A, L, c, hst⟩ := hcut
    have HST := Lib.hid hst
    clear hst
    have t0 := HST.out.ht.cellAt 0 (by omega)
    dsimp only [List.getElem?_cons_zero, List.getElem?_cons_succ] at t0
    obtain ⟨nd, hnd⟩ : ∃ z, maxI 1 (minI 14 n) = z := ⟨_, rfl⟩
    obtain ⟨hnd1, hnd2⟩ := nodes_bd n
    rw [hnd] at hnd1 hnd2
    have HND := Lib.hid hnd
    clear hnd
    go_wp2_with fail
    refine (l1Least_c 14 n _).mono ?_; rintro e w' ⟨rfl, rfl⟩
    go_wp2_with fail
    refine (l1Most_c 1 (minI 14 n) _).mono ?_; rintro e w' ⟨rfl, rfl⟩
    rw [HND.out]
    clear t0
    go_wp2_with fail
    refine (one_c B l HL.out (a + 8400) (by omega) 24 (by omega) _ HST.out.hd.1).mono ?_; rintro e W3 ⟨b, rfl, hd⟩
    have HST := Lib.hid (turn_drew HST.out hd hBb)
    clear hd
    obtain ⟨K, hK⟩ : ∃ K : Nat, a + (8400 + 2) = K := ⟨_, rfl⟩
    have hK1 : K ≤ 4611686018427340000 := by omega
    have HDb : Hid (Drew B l K 0 W3 W3) := Lib.hid (by have h := Drew.refl HST.out.hd.1 0; rw [hK] at h; exact h)
    have t0 := HST.out.ht.cellAt 0 (by omega)
    have t1 := HST.out.ht.cellAt 1 (by omega)
    dsimp only [List.getElem?_cons_zero, List.getElem?_cons_succ] at t0 t1
    have r0 := fresh_c0 HST.out.hf
    have r1 := fresh_c1 HST.out.hf
    have f0 := fresh_f HST.out.hf 0
    have f1 := fresh_f HST.out.hf 1
    have tb0 := t0
    have tb1 := t1
    have rb0 := r0
    have rb1 := r1
    have fb0 := f0
    have fb1 := f1
    have szR := HST.out.hR
    have hwR := HST.out.lt
    have hRTB : RT ≠ B := by omega
    have hwne : w.heap.size ≠ B := by omega
    have sww : w.heap.size < W3.heap.size := by omega
    have hRw : RT ≠ w.heap.size := by omega
    have HO : Hid (RdB (w.heap.size + 1) W3 (.slice A L.length c) L.length (L.flatMap St.cells)) := Lib.hid (rdb_own HST.out.ho)
    have HDX := Lib.hid HST.out.hd
    clear HST
    cases b
    all_goals
      go_wp2_with fail
      go_region_held3 (fun W' => W'.cell? ⟨RT, 0, none⟩ = some (.int .i64 n) ∧ W'.cell? ⟨RT, 1, none⟩ = some (.slice A L.length c)) (first | (with_reducible exact ⟨t0, t1⟩) | (refine ⟨?_, ?_⟩ <;> ((repeat' (first | (with_reducible assumption) | (with_reducible apply cell_drw) | (with_reducible apply cellAl) | (with_reducible refine cell_set_ne ?_ (by omega)))); done))) (first | (go_at_call 49; refine (anyFleet_c B l HL.out (K + 0) (by omega) _ (HDb.out.1.below (by ((repeat' (first | (with_reducible exact Below.refl _ _) | (with_reducible apply bel_al) | (with_reducible apply bel_dr))); done))) _ (by omega)).mono ?_; rintro e W8 ⟨vf, F, rfl, ho, hF, hFs, hd⟩; have d8 := (HDb.out.bel (by ((repeat' (first | (with_reducible exact Below.refl _ _) | (with_reducible apply bel_al) | (with_reducible apply bel_dr))); done))).trans hd; have t0 := (gro_cell d8.2 (o := 0) (x := RT) szR hRTB).trans tb0; have t1 := (gro_cell d8.2 (o := 1) (x := RT) szR hRTB).trans tb1; have r0 := (gro_cell d8.2 (o := 0) (x := w.heap.size) sww hwne).trans rb0; have r1 := (gro_cell d8.2 (o := 1) (x := w.heap.size) sww hwne).trans rb1; have f0 := (gro_frozen d8.2 (o := 0) (x := w.heap.size) sww hwne).trans fb0; have f1 := (gro_frozen d8.2 (o := 1) (x := w.heap.size) sww hwne).trans fb1; have sz8 := d8.2.size; have HO := Lib.hid (rdb_gro (rdb_bel HO.out (by ((repeat' (first | (with_reducible exact Below.refl _ _) | (with_reducible apply bel_al) | (with_reducible apply bel_dr))); done))) hd.2 hB1); have HFL := Lib.hid (rdb_base (rdb_own ho) (by first | omega | (simp only [size_dr]; omega)) : RdB (w.heap.size + 1) _ _ _ (F.flatMap Ap.cells)); clear ho; have HD8 := Lib.hid d8; clear d8 hd) | fail)
      all_goals
        go_wp2
        have HDD := Lib.hid (HDX.out.trans (by rw [hK]; exact HD8.out))
        refine bodyPost_ret (v := .tuple #[.agg #[.int .i64 n, .slice A L.length c], vf]) (by simp [results, Tryz.results80, go_sem, r0, r1]) rfl ?_
        have hg : World.grownBy W8 ((World.setCell W8 ⟨w.heap.size, 0, none⟩ (.int .i64 n)).setCell ⟨w.heap.size, 1, none⟩ (.slice A L.length c)) (some w.heap.size) := (only_setCell (only_setCell (World.grownBy.refl _ _) 0 _) 1 _)
        exact ⟨n, _, L, vf, F, rfl, rdb_base (rdb_gro HO.out hg (by omega)) (by omega), rdb_base (rdb_gro HFL.out hg (by omega)) (by omega), by omega, hFs, (HDD.out.own hg (Nat.le_refl _) hBb).more (by omega)⟩

end Go.Proofs.YthgegghdkoeofaaGreatDoor

namespace Go.Proofs.YthgegghdkoeofaaGreatDoor
set_option linter.unusedVariables false
set_option linter.unusedSimpArgs false
open Go.RowKit

set_option maxRecDepth 100000 in
set_option maxHeartbeats 4000000 in
theorem drawServedNodes_c (v : Value) (l : List Int) (hn : l.length ≤ 9223372036854775807) (hl : BytesOk l) (w : World) (hr : Rd w v l.length (bys l)) :
    Calls Tryz.prog 35 #[v] w fun e w' => (∃ (n : Int) (s : Value) (T : List St) (vf : Value) (F : List Ap) (vq : Value) (Q : List Int) (lim : Int), e = .returned (.tuple #[.agg #[.int .i64 n, s], vf, vq, .int .i64 lim]) ∧ Rd w' s T.length (T.flatMap St.cells) ∧ Rd w' vf F.length (F.flatMap Ap.cells) ∧ F.length ≤ 13 ∧ (∀ x ∈ F, x.nm.size ≤ 7) ∧ RdI w' vq Q ∧ Q.length ≤ 4) ∧ Below w.heap.size w w' := by
  have HB9 := Lib.hid hr
  have HL := Lib.hid hl
  obtain ⟨A0, c0, rfl, _⟩ := hr
  clear hl
  go_enter Tryz.func35, Tryz.ntmps35
  go_upto_region 1 with fail
  generalize hW : World.alloc w _ = W0
  have hf0 : FreshT W0 w.heap.size := by subst hW; exact fresh_new w _ rfl
  have hb0 : Below w.heap.size w W0 := by subst hW; exact bel_al (Below.refl _ _) _
  have sz0 : W0.heap.size = w.heap.size + 1 := by subst hW; simp
  have HF := Lib.hid hf0
  have HB0 := Lib.hid hb0
  have HRd := Lib.hid (rd_below HB9.out hb0)
  have HSZ := Lib.hid sz0
  have sz0' : w.heap.size < W0.heap.size := by omega
  clear hW hf0 hb0 sz0
  go_upto_region 2 with fail
  generalize hW : World.alloc W0 _ = W1
  have hc := cur_new W0 _ l HRd.out hn W1 (by subst hW; simp [go_sem]) (by subst hW; simp [go_sem]) (by subst hW; simp [go_sem]) (by subst hW; simp [go_sem]) (by subst hW; simp [go_sem]) (by subst hW; exact bel_al (Below.refl _ _) _)
  have hb1 : Below W0.heap.size W0 W1 := by subst hW; exact bel_al (Below.refl _ _) _
  have HF := Lib.hid (own_below HF.out hb1 : FreshT W1 w.heap.size)
  have HB1 := Lib.hid hb1
  have sz1 := hb1.size
  obtain ⟨B, hBd⟩ : ∃ B, W0.heap.size = B := ⟨_, rfl⟩
  rw [hBd] at hc ⊢
  have HBD := Lib.hid hBd
  have hwB : w.heap.size < B := by omega
  have hwB1 : B ≤ w.heap.size + 1 := by have := HSZ.out; omega
  have hBb : B < W1.heap.size := hc.lt
  obtain ⟨a, ha0, ha1⟩ : ∃ a : Nat, a = 0 ∧ a ≤ 0 := ⟨0, rfl, Nat.le_refl _⟩
  rw [← ha0] at hc
  have HD := Lib.hid (Drew.refl hc 0)
  clear hW hb1 hBd hc ha0
  go_wp2_with fail
  refine (turnout_c B l HL.out (a + 0) (by omega) _ HD.out.1).mono ?_; rintro e W2 ⟨n, v, L, vf, F, rfl, ho, hof, hF, hFs, hd⟩
  obtain ⟨Av, cv, rfl, -⟩ := ho.1
  obtain ⟨Af, cf, rfl, -⟩ := hof.1
  have HD := Lib.hid (HD.out.trans hd)
  have HF := Lib.hid (fresh_gro HF.out hd.2 (by omega))
  have HO := Lib.hid ho
  have HFL := Lib.hid hof
  have HFS := Lib.hid hFs
  have sz2 := hd.2.size
  clear hd ho hof hFs
  go_upto_region 3 with fail
  generalize hW : World.alloc W2 _ = W3
  have ht : W3.ownsRow W1.heap.size 47 2 (.slice (some ⟨W2.heap.size, 0, none⟩) 1 1) 1 [.int .i64 n, .slice Av L.length cv] := by subst hW; exact own_base (row_new W2 _ _ 1 2 rfl (by omega) (by omega)) (by omega)
  have hbl : Below W2.heap.size W2 W3 := by subst hW; exact bel_al (Below.refl _ _) _
  have szR : W2.heap.size < W3.heap.size := by subst hW; simp
  obtain ⟨RT, hRT⟩ : ∃ RT, W2.heap.size = RT := ⟨_, rfl⟩
  have hRTw : w.heap.size < RT := by omega
  have hRTB : RT ≠ B := by omega
  rw [hRT] at ht szR ⊢
  have HD := Lib.hid (HD.out.bel hbl)
  have HF := Lib.hid (own_below HF.out hbl : FreshT W3 w.heap.size)
  have HO := Lib.hid (rdb_bel HO.out hbl)
  have HFL := Lib.hid (rdb_bel HFL.out hbl)
  have HT := Lib.hid ht
  have sw3 : W1.heap.size ≤ W3.heap.size := by omega
  clear hW ht hbl hRT
  obtain ⟨K, hK⟩ : ∃ K : Nat, a + (0 + 9000) = K := ⟨_, rfl⟩
  have hK1 : K ≤ 10000 := by omega
  have HDb : Hid (Drew B l K 0 W3 W3) := Lib.hid (by have h := Drew.refl HD.out.1 0; rw [hK] at h; exact h)
  have t0 := HT.out.cellAt 0 (by omega)
  have t1 := HT.out.cellAt 1 (by omega)
  dsimp only [List.getElem?_cons_zero, List.getElem?_cons_succ] at t0 t1
  have r0 := fresh_c0 HF.out
  have r1 := fresh_c1 HF.out
  have f0 := fresh_f HF.out 0
  have f1 := fresh_f HF.out 1
  have tb0 := t0
  have tb1 := t1
  have rb0 := r0
  have rb1 := r1
  have fb0 := f0
  have fb1 := f1
  have hwne : w.heap.size ≠ B := by omega
  have sww : w.heap.size < W3.heap.size := by omega
  have hRw : RT ≠ w.heap.size := by omega
  go_wp2_with fail
  go_region_held3 (fun W' => W'.cell? ⟨RT, 0, none⟩ = some (.int .i64 n) ∧ W'.cell? ⟨RT, 1, none⟩ = some (.slice Av L.length cv)) (first | (with_reducible exact ⟨t0, t1⟩) | (refine ⟨?_, ?_⟩ <;> ((repeat' (first | (with_reducible assumption) | (with_reducible apply cell_drw) | (with_reducible apply cellAl) | (with_reducible refine cell_set_ne ?_ (by omega)))); done))) (first | (have _q := HD5; go_at_call 98; refine (limitSeconds_c B l HL.out (K + 16) (by omega) _ (HD5.out.1.below (by ((repeat' (first | (with_reducible exact Below.refl _ _) | (with_reducible apply bel_al) | (with_reducible apply bel_dr))); done)))).mono ?_; rintro e W6 ⟨lim, rfl, hd⟩; have d6 := (HD5.out.bel (by ((repeat' (first | (with_reducible exact Below.refl _ _) | (with_reducible apply bel_al) | (with_reducible apply bel_dr))); done))).trans hd; have t0 := (gro_cell d6.2 (o := 0) (x := RT) szR hRTB).trans tb0; have t1 := (gro_cell d6.2 (o := 1) (x := RT) szR hRTB).trans tb1; have r0 := (gro_cell d6.2 (o := 0) (x := w.heap.size) sww hwne).trans rb0; have r1 := (gro_cell d6.2 (o := 1) (x := w.heap.size) sww hwne).trans rb1; have f0 := (gro_frozen d6.2 (o := 0) (x := w.heap.size) sww hwne).trans fb0; have f1 := (gro_frozen d6.2 (o := 1) (x := w.heap.size) sww hwne).trans fb1; have sz6 := d6.2.size; have HO := Lib.hid (rdb_gro (rdb_bel HO.out (by ((repeat' (first | (with_reducible exact Below.refl _ _) | (with_reducible apply bel_al) | (with_reducible apply bel_dr))); done))) hd.2 hBb); have HFL := Lib.hid (rdb_gro (rdb_bel HFL.out (by ((repeat' (first | (with_reducible exact Below.refl _ _) | (with_reducible apply bel_al) | (with_reducible apply bel_dr))); done))) hd.2 hBb); have HQ := Lib.hid (rdb_gro (rdb_bel HQ.out (by ((repeat' (first | (with_reducible exact Below.refl _ _) | (with_reducible apply bel_al) | (with_reducible apply bel_dr))); done))) hd.2 hBb); have HD6 := Lib.hid d6; clear d6 hd) | (go_at_call 82; refine (need_c B l HL.out (K + 0) (by omega) _ (HDb.out.1.below (by ((repeat' (first | (with_reducible exact Below.refl _ _) | (with_reducible apply bel_al) | (with_reducible apply bel_dr))); done)))).mono ?_; rintro e W5 ⟨vq, Q, rfl, ho, hQ, hd⟩; have d5 := (HDb.out.bel (by ((repeat' (first | (with_reducible exact Below.refl _ _) | (with_reducible apply bel_al) | (with_reducible apply bel_dr))); done))).trans hd; have t0 := (gro_cell d5.2 (o := 0) (x := RT) szR hRTB).trans tb0; have t1 := (gro_cell d5.2 (o := 1) (x := RT) szR hRTB).trans tb1; have r0 := (gro_cell d5.2 (o := 0) (x := w.heap.size) sww hwne).trans rb0; have r1 := (gro_cell d5.2 (o := 1) (x := w.heap.size) sww hwne).trans rb1; have f0 := (gro_frozen d5.2 (o := 0) (x := w.heap.size) sww hwne).trans fb0; have f1 := (gro_frozen d5.2 (o := 1) (x := w.heap.size) sww hwne).trans fb1; have sz5 := d5.2.size; have HO := Lib.hid (rdb_gro (rdb_bel HO.out (by ((repeat' (first | (with_reducible exact Below.refl _ _) | (with_reducible apply bel_al) | (with_reducible apply bel_dr))); done))) hd.2 hBb); have HFL := Lib.hid (rdb_gro (rdb_bel HFL.out (by ((repeat' (first | (with_reducible exact Below.refl _ _) | (with_reducible apply bel_al) | (with_reducible apply bel_dr))); done))) hd.2 hBb); have HQ := Lib.hid (rdb_base (rdb_ints ho) (by first | omega | (simp only [size_dr]; omega)) : RdB W1.heap.size _ _ _ (ints Q)); clear ho; have HD5 := Lib.hid d5; clear d5 hd) | fail)
  all_goals
    go_wp2
    have HDD := Lib.hid (HD.out.trans (by rw [hK]; exact HD6.out))
    have HOO : Below W0.heap.size W0 W6 := by have h := HDD.out; rw [← HBD.out] at h; exact Drew.out HB1.out h
    refine bodyPost_ret (v := .tuple #[.agg #[.int .i64 n, .slice Av L.length cv], .slice Af F.length cf, vq, .int .i64 lim]) (by simp [results, Tryz.results35, go_sem, r0, r1]) rfl ?_
    have hg : World.grownBy W6 ((World.setCell W6 ⟨w.heap.size, 0, none⟩ (.int .i64 n)).setCell ⟨w.heap.size, 1, none⟩ (.slice Av L.length cv)) (some w.heap.size) := (only_setCell (only_setCell (World.grownBy.refl _ _) 0 _) 1 _)
    exact ⟨⟨n, _, L, _, F, _, Q, lim, rfl, (rdb_gro HO.out hg (by omega)).1, (rdb_gro HFL.out hg (by omega)).1, hF, HFS.out, (rdb_gro HQ.out hg (by omega)).1, hQ⟩, bel_grown (bel_then HB0.out HOO) hg (fun q e => Nat.le_of_eq (Option.some.inj e))⟩
set_option maxRecDepth 100000 in
set_option maxHeartbeats 4000000 in
theorem drawWithinTime_c (v : Value) (l : List Int) (hn : l.length ≤ 9223372036854775807) (hl : BytesOk l) (w : World) (hr : Rd w v l.length (bys l)) :
    Calls Tryz.prog 42 #[v] w fun e w' => (∃ (n : Int) (s : Value) (T : List St) (vf : Value) (F : List Ap) (x : Int) (lim : Int), e = .returned (.tuple #[.agg #[.int .i64 n, s], vf, .int .i64 x, .int .i64 lim]) ∧ Rd w' s T.length (T.flatMap St.cells) ∧ Rd w' vf F.length (F.flatMap Ap.cells) ∧ F.length ≤ 13 ∧ (∀ x ∈ F, x.nm.size ≤ 7)) ∧ Below w.heap.size w w' := by
  have HB9 := Lib.hid hr
  have HL := Lib.hid hl
  obtain ⟨A0, c0, rfl, _⟩ := hr
  clear hl
  go_enter Tryz.func42, Tryz.ntmps42
  go_upto_region 1 with fail
  generalize hW : World.alloc w _ = W0
  have hf0 : FreshT W0 w.heap.size := by subst hW; exact fresh_new w _ rfl
  have hb0 : Below w.heap.size w W0 := by subst hW; exact bel_al (Below.refl _ _) _
  have sz0 : W0.heap.size = w.heap.size + 1 := by subst hW; simp
  have HF := Lib.hid hf0
  have HB0 := Lib.hid hb0
  have HRd := Lib.hid (rd_below HB9.out hb0)
  have HSZ := Lib.hid sz0
  have sz0' : w.heap.size < W0.heap.size := by omega
  clear hW hf0 hb0 sz0
  go_upto_region 2 with fail
  generalize hW : World.alloc W0 _ = W1
  have hc := cur_new W0 _ l HRd.out hn W1 (by subst hW; simp [go_sem]) (by subst hW; simp [go_sem]) (by subst hW; simp [go_sem]) (by subst hW; simp [go_sem]) (by subst hW; simp [go_sem]) (by subst hW; exact bel_al (Below.refl _ _) _)
  have hb1 : Below W0.heap.size W0 W1 := by subst hW; exact bel_al (Below.refl _ _) _
  have HF := Lib.hid (own_below HF.out hb1 : FreshT W1 w.heap.size)
  have HB1 := Lib.hid hb1
  have sz1 := hb1.size
  obtain ⟨B, hBd⟩ : ∃ B, W0.heap.size = B := ⟨_, rfl⟩
  rw [hBd] at hc ⊢
  have HBD := Lib.hid hBd
  have hwB : w.heap.size < B := by omega
  have hwB1 : B ≤ w.heap.size + 1 := by have := HSZ.out; omega
  have hBb : B < W1.heap.size := hc.lt
  obtain ⟨a, ha0, ha1⟩ : ∃ a : Nat, a = 0 ∧ a ≤ 0 := ⟨0, rfl, Nat.le_refl _⟩
  rw [← ha0] at hc
  have HD := Lib.hid (Drew.refl hc 0)
  clear hW hb1 hBd hc ha0
  go_wp2_with fail
  refine (turnout_c B l HL.out (a + 0) (by omega) _ HD.out.1).mono ?_; rintro e W2 ⟨n, v, L, vf, F, rfl, ho, hof, hF, hFs, hd⟩
  obtain ⟨Av, cv, rfl, -⟩ := ho.1
  obtain ⟨Af, cf, rfl, -⟩ := hof.1
  have HD := Lib.hid (HD.out.trans hd)
  have HF := Lib.hid (fresh_gro HF.out hd.2 (by omega))
  have HO := Lib.hid ho
  have HFL := Lib.hid hof
  have HFS := Lib.hid hFs
  have sz2 := hd.2.size
  clear hd ho hof hFs
  go_upto_region 3 with fail
  generalize hW : World.alloc W2 _ = W3
  have ht : W3.ownsRow W1.heap.size 47 2 (.slice (some ⟨W2.heap.size, 0, none⟩) 1 1) 1 [.int .i64 n, .slice Av L.length cv] := by subst hW; exact own_base (row_new W2 _ _ 1 2 rfl (by omega) (by omega)) (by omega)
  have hbl : Below W2.heap.size W2 W3 := by subst hW; exact bel_al (Below.refl _ _) _
  have szR : W2.heap.size < W3.heap.size := by subst hW; simp
  obtain ⟨RT, hRT⟩ : ∃ RT, W2.heap.size = RT := ⟨_, rfl⟩
  have hRTw : w.heap.size < RT := by omega
  have hRTB : RT ≠ B := by omega
  rw [hRT] at ht szR ⊢
  have HD := Lib.hid (HD.out.bel hbl)
  have HF := Lib.hid (own_below HF.out hbl : FreshT W3 w.heap.size)
  have HO := Lib.hid (rdb_bel HO.out hbl)
  have HFL := Lib.hid (rdb_bel HFL.out hbl)
  have HT := Lib.hid ht
  have sw3 : W1.heap.size ≤ W3.heap.size := by omega
  clear hW ht hbl hRT
  obtain ⟨K, hK⟩ : ∃ K : Nat, a + (0 + 9000) = K := ⟨_, rfl⟩
  have hK1 : K ≤ 10000 := by omega
  have HDb : Hid (Drew B l K 0 W3 W3) := Lib.hid (by have h := Drew.refl HD.out.1 0; rw [hK] at h; exact h)
  have t0 := HT.out.cellAt 0 (by omega)
  have t1 := HT.out.cellAt 1 (by omega)
  dsimp only [List.getElem?_cons_zero, List.getElem?_cons_succ] at t0 t1
  have r0 := fresh_c0 HF.out
  have r1 := fresh_c1 HF.out
  have f0 := fresh_f HF.out 0
  have f1 := fresh_f HF.out 1
  have tb0 := t0
  have tb1 := t1
  have rb0 := r0
  have rb1 := r1
  have fb0 := f0
  have fb1 := f1
  have hwne : w.heap.size ≠ B := by omega
  have sww : w.heap.size < W3.heap.size := by omega
  have hRw : RT ≠ w.heap.size := by omega
  go_wp2_with fail
  go_region_held3 (fun W' => W'.cell? ⟨RT, 0, none⟩ = some (.int .i64 n) ∧ W'.cell? ⟨RT, 1, none⟩ = some (.slice Av L.length cv)) (first | (with_reducible exact ⟨t0, t1⟩) | (refine ⟨?_, ?_⟩ <;> ((repeat' (first | (with_reducible assumption) | (with_reducible apply cell_drw) | (with_reducible apply cellAl) | (with_reducible refine cell_set_ne ?_ (by omega)))); done))) (first | (have _q := HD5; go_at_call 98; refine (limitSeconds_c B l HL.out (K + 20) (by omega) _ (HD5.out.1.below (by ((repeat' (first | (with_reducible exact Below.refl _ _) | (with_reducible apply bel_al) | (with_reducible apply bel_dr))); done)))).mono ?_; rintro e W6 ⟨lim, rfl, hd⟩; have d6 := (HD5.out.bel (by ((repeat' (first | (with_reducible exact Below.refl _ _) | (with_reducible apply bel_al) | (with_reducible apply bel_dr))); done))).trans hd; have t0 := (gro_cell d6.2 (o := 0) (x := RT) szR hRTB).trans tb0; have t1 := (gro_cell d6.2 (o := 1) (x := RT) szR hRTB).trans tb1; have r0 := (gro_cell d6.2 (o := 0) (x := w.heap.size) sww hwne).trans rb0; have r1 := (gro_cell d6.2 (o := 1) (x := w.heap.size) sww hwne).trans rb1; have f0 := (gro_frozen d6.2 (o := 0) (x := w.heap.size) sww hwne).trans fb0; have f1 := (gro_frozen d6.2 (o := 1) (x := w.heap.size) sww hwne).trans fb1; have sz6 := d6.2.size; have HO := Lib.hid (rdb_gro (rdb_bel HO.out (by ((repeat' (first | (with_reducible exact Below.refl _ _) | (with_reducible apply bel_al) | (with_reducible apply bel_dr))); done))) hd.2 hBb); have HFL := Lib.hid (rdb_gro (rdb_bel HFL.out (by ((repeat' (first | (with_reducible exact Below.refl _ _) | (with_reducible apply bel_al) | (with_reducible apply bel_dr))); done))) hd.2 hBb); have HD6 := Lib.hid d6; clear d6 hd) | (go_at_call 81; refine (nodeOf_c B l HL.out (K + 0) (by omega) _ (HDb.out.1.below (by ((repeat' (first | (with_reducible exact Below.refl _ _) | (with_reducible apply bel_al) | (with_reducible apply bel_dr))); done))) n Av L.length cv).mono ?_; rintro e W5 ⟨x, rfl, hd⟩; have d5 := (HDb.out.bel (by ((repeat' (first | (with_reducible exact Below.refl _ _) | (with_reducible apply bel_al) | (with_reducible apply bel_dr))); done))).trans hd; have t0 := (gro_cell d5.2 (o := 0) (x := RT) szR hRTB).trans tb0; have t1 := (gro_cell d5.2 (o := 1) (x := RT) szR hRTB).trans tb1; have r0 := (gro_cell d5.2 (o := 0) (x := w.heap.size) sww hwne).trans rb0; have r1 := (gro_cell d5.2 (o := 1) (x := w.heap.size) sww hwne).trans rb1; have f0 := (gro_frozen d5.2 (o := 0) (x := w.heap.size) sww hwne).trans fb0; have f1 := (gro_frozen d5.2 (o := 1) (x := w.heap.size) sww hwne).trans fb1; have sz5 := d5.2.size; have HO := Lib.hid (rdb_gro (rdb_bel HO.out (by ((repeat' (first | (with_reducible exact Below.refl _ _) | (with_reducible apply bel_al) | (with_reducible apply bel_dr))); done))) hd.2 hBb); have HFL := Lib.hid (rdb_gro (rdb_bel HFL.out (by ((repeat' (first | (with_reducible exact Below.refl _ _) | (with_reducible apply bel_al) | (with_reducible apply bel_dr))); done))) hd.2 hBb); have HD5 := Lib.hid d5; clear d5 hd) | fail)
  all_goals
    go_wp2
    have HDD := Lib.hid (HD.out.trans (by rw [hK]; exact HD6.out))
    have HOO : Below W0.heap.size W0 W6 := by have h := HDD.out; rw [← HBD.out] at h; exact Drew.out HB1.out h
    refine bodyPost_ret (v := .tuple #[.agg #[.int .i64 n, .slice Av L.length cv], .slice Af F.length cf, .int .i64 x, .int .i64 lim]) (by simp [results, Tryz.results42, go_sem, r0, r1]) rfl ?_
    have hg : World.grownBy W6 ((World.setCell W6 ⟨w.heap.size, 0, none⟩ (.int .i64 n)).setCell ⟨w.heap.size, 1, none⟩ (.slice Av L.length cv)) (some w.heap.size) := (only_setCell (only_setCell (World.grownBy.refl _ _) 0 _) 1 _)
    exact ⟨⟨n, _, L, _, F, x, lim, rfl, (rdb_gro HO.out hg (by omega)).1, (rdb_gro HFL.out hg (by omega)).1, hF, HFS.out⟩, bel_grown (bel_then HB0.out HOO) hg (fun q e => Nat.le_of_eq (Option.some.inj e))⟩
set_option maxRecDepth 100000 in
set_option maxHeartbeats 4000000 in
theorem drawAttendanceTime_c (v : Value) (l : List Int) (hn : l.length ≤ 9223372036854775807) (hl : BytesOk l) (w : World) (hr : Rd w v l.length (bys l)) :
    Calls Tryz.prog 45 #[v] w fun e w' => (∃ (n : Int) (s : Value) (T : List St) (vf : Value) (F : List Ap) (x : Int) (vs : Value) (q : List ByteArray), e = .returned (.tuple #[.agg #[.int .i64 n, s], vf, .int .i64 x, vs]) ∧ Rd w' s T.length (T.flatMap St.cells) ∧ Rd w' vf F.length (F.flatMap Ap.cells) ∧ F.length ≤ 13 ∧ (∀ x ∈ F, x.nm.size ≤ 7) ∧ RdS w' vs q ∧ q.length ≤ 1001 ∧ (∀ x ∈ q, x.size ≤ 7)) ∧ Below w.heap.size w w' := by
  have HB9 := Lib.hid hr
  have HL := Lib.hid hl
  obtain ⟨A0, c0, rfl, _⟩ := hr
  clear hl
  go_enter Tryz.func45, Tryz.ntmps45
  go_upto_region 1 with fail
  generalize hW : World.alloc w _ = W0
  have hf0 : FreshT W0 w.heap.size := by subst hW; exact fresh_new w _ rfl
  have hb0 : Below w.heap.size w W0 := by subst hW; exact bel_al (Below.refl _ _) _
  have sz0 : W0.heap.size = w.heap.size + 1 := by subst hW; simp
  have HF := Lib.hid hf0
  have HB0 := Lib.hid hb0
  have HRd := Lib.hid (rd_below HB9.out hb0)
  have HSZ := Lib.hid sz0
  have sz0' : w.heap.size < W0.heap.size := by omega
  clear hW hf0 hb0 sz0
  go_upto_region 2 with fail
  generalize hW : World.alloc W0 _ = W1
  have hc := cur_new W0 _ l HRd.out hn W1 (by subst hW; simp [go_sem]) (by subst hW; simp [go_sem]) (by subst hW; simp [go_sem]) (by subst hW; simp [go_sem]) (by subst hW; simp [go_sem]) (by subst hW; exact bel_al (Below.refl _ _) _)
  have hb1 : Below W0.heap.size W0 W1 := by subst hW; exact bel_al (Below.refl _ _) _
  have HF := Lib.hid (own_below HF.out hb1 : FreshT W1 w.heap.size)
  have HB1 := Lib.hid hb1
  have sz1 := hb1.size
  obtain ⟨B, hBd⟩ : ∃ B, W0.heap.size = B := ⟨_, rfl⟩
  rw [hBd] at hc ⊢
  have HBD := Lib.hid hBd
  have hwB : w.heap.size < B := by omega
  have hwB1 : B ≤ w.heap.size + 1 := by have := HSZ.out; omega
  have hBb : B < W1.heap.size := hc.lt
  obtain ⟨a, ha0, ha1⟩ : ∃ a : Nat, a = 0 ∧ a ≤ 0 := ⟨0, rfl, Nat.le_refl _⟩
  rw [← ha0] at hc
  have HD := Lib.hid (Drew.refl hc 0)
  clear hW hb1 hBd hc ha0
  go_wp2_with fail
  refine (turnout_c B l HL.out (a + 0) (by omega) _ HD.out.1).mono ?_; rintro e W2 ⟨n, v, L, vf, F, rfl, ho, hof, hF, hFs, hd⟩
  obtain ⟨Av, cv, rfl, -⟩ := ho.1
  obtain ⟨Af, cf, rfl, -⟩ := hof.1
  have HD := Lib.hid (HD.out.trans hd)
  have HF := Lib.hid (fresh_gro HF.out hd.2 (by omega))
  have HO := Lib.hid ho
  have HFL := Lib.hid hof
  have HFS := Lib.hid hFs
  have sz2 := hd.2.size
  clear hd ho hof hFs
  go_upto_region 3 with fail
  generalize hW : World.alloc W2 _ = W3
  have ht : W3.ownsRow W1.heap.size 47 2 (.slice (some ⟨W2.heap.size, 0, none⟩) 1 1) 1 [.int .i64 n, .slice Av L.length cv] := by subst hW; exact own_base (row_new W2 _ _ 1 2 rfl (by omega) (by omega)) (by omega)
  have hbl : Below W2.heap.size W2 W3 := by subst hW; exact bel_al (Below.refl _ _) _
  have szR : W2.heap.size < W3.heap.size := by subst hW; simp
  obtain ⟨RT, hRT⟩ : ∃ RT, W2.heap.size = RT := ⟨_, rfl⟩
  have hRTw : w.heap.size < RT := by omega
  have hRTB : RT ≠ B := by omega
  rw [hRT] at ht szR ⊢
  have HD := Lib.hid (HD.out.bel hbl)
  have HF := Lib.hid (own_below HF.out hbl : FreshT W3 w.heap.size)
  have HO := Lib.hid (rdb_bel HO.out hbl)
  have HFL := Lib.hid (rdb_bel HFL.out hbl)
  have HT := Lib.hid ht
  have sw3 : W1.heap.size ≤ W3.heap.size := by omega
  clear hW ht hbl hRT
  obtain ⟨K, hK⟩ : ∃ K : Nat, a + (0 + 9000) = K := ⟨_, rfl⟩
  have hK1 : K ≤ 10000 := by omega
  have HDb : Hid (Drew B l K 0 W3 W3) := Lib.hid (by have h := Drew.refl HD.out.1 0; rw [hK] at h; exact h)
  have t0 := HT.out.cellAt 0 (by omega)
  have t1 := HT.out.cellAt 1 (by omega)
  dsimp only [List.getElem?_cons_zero, List.getElem?_cons_succ] at t0 t1
  have r0 := fresh_c0 HF.out
  have r1 := fresh_c1 HF.out
  have f0 := fresh_f HF.out 0
  have f1 := fresh_f HF.out 1
  have tb0 := t0
  have tb1 := t1
  have rb0 := r0
  have rb1 := r1
  have fb0 := f0
  have fb1 := f1
  have hwne : w.heap.size ≠ B := by omega
  have sww : w.heap.size < W3.heap.size := by omega
  have hRw : RT ≠ w.heap.size := by omega
  go_wp2_with fail
  go_region_held3 (fun W' => W'.cell? ⟨RT, 0, none⟩ = some (.int .i64 n) ∧ W'.cell? ⟨RT, 1, none⟩ = some (.slice Av L.length cv)) (first | (with_reducible exact ⟨t0, t1⟩) | (refine ⟨?_, ?_⟩ <;> ((repeat' (first | (with_reducible assumption) | (with_reducible apply cell_drw) | (with_reducible apply cellAl) | (with_reducible refine cell_set_ne ?_ (by omega)))); done))) (first | (have _q := HD5; go_at_call 108; refine (namesOf_c B l HL.out (K + 20) (by omega) _ (HD5.out.1.below (by ((repeat' (first | (with_reducible exact Below.refl _ _) | (with_reducible apply bel_al) | (with_reducible apply bel_dr))); done))) W1.heap.size _ F (rdb_bel HFL.out (by ((repeat' (first | (with_reducible exact Below.refl _ _) | (with_reducible apply bel_al) | (with_reducible apply bel_dr))); done))) hBb HFS.out (by omega)).mono ?_; rintro e W6 ⟨vs, q, rfl, ho, hq, hqs, hd⟩; have d6 := (HD5.out.bel (by ((repeat' (first | (with_reducible exact Below.refl _ _) | (with_reducible apply bel_al) | (with_reducible apply bel_dr))); done))).trans hd; have t0 := (gro_cell d6.2 (o := 0) (x := RT) szR hRTB).trans tb0; have t1 := (gro_cell d6.2 (o := 1) (x := RT) szR hRTB).trans tb1; have r0 := (gro_cell d6.2 (o := 0) (x := w.heap.size) sww hwne).trans rb0; have r1 := (gro_cell d6.2 (o := 1) (x := w.heap.size) sww hwne).trans rb1; have f0 := (gro_frozen d6.2 (o := 0) (x := w.heap.size) sww hwne).trans fb0; have f1 := (gro_frozen d6.2 (o := 1) (x := w.heap.size) sww hwne).trans fb1; have sz6 := d6.2.size; have HO := Lib.hid (rdb_gro (rdb_bel HO.out (by ((repeat' (first | (with_reducible exact Below.refl _ _) | (with_reducible apply bel_al) | (with_reducible apply bel_dr))); done))) hd.2 hBb); have HFL := Lib.hid (rdb_gro (rdb_bel HFL.out (by ((repeat' (first | (with_reducible exact Below.refl _ _) | (with_reducible apply bel_al) | (with_reducible apply bel_dr))); done))) hd.2 hBb); have HS := Lib.hid (rdb_base (rdb_own ho) (by first | omega | (simp only [size_dr]; omega)) : RdB W1.heap.size _ _ _ (strs q)); clear ho; have HD6 := Lib.hid d6; clear d6 hd) | (go_at_call 81; refine (nodeOf_c B l HL.out (K + 0) (by omega) _ (HDb.out.1.below (by ((repeat' (first | (with_reducible exact Below.refl _ _) | (with_reducible apply bel_al) | (with_reducible apply bel_dr))); done))) n Av L.length cv).mono ?_; rintro e W5 ⟨x, rfl, hd⟩; have d5 := (HDb.out.bel (by ((repeat' (first | (with_reducible exact Below.refl _ _) | (with_reducible apply bel_al) | (with_reducible apply bel_dr))); done))).trans hd; have t0 := (gro_cell d5.2 (o := 0) (x := RT) szR hRTB).trans tb0; have t1 := (gro_cell d5.2 (o := 1) (x := RT) szR hRTB).trans tb1; have r0 := (gro_cell d5.2 (o := 0) (x := w.heap.size) sww hwne).trans rb0; have r1 := (gro_cell d5.2 (o := 1) (x := w.heap.size) sww hwne).trans rb1; have f0 := (gro_frozen d5.2 (o := 0) (x := w.heap.size) sww hwne).trans fb0; have f1 := (gro_frozen d5.2 (o := 1) (x := w.heap.size) sww hwne).trans fb1; have sz5 := d5.2.size; have HO := Lib.hid (rdb_gro (rdb_bel HO.out (by ((repeat' (first | (with_reducible exact Below.refl _ _) | (with_reducible apply bel_al) | (with_reducible apply bel_dr))); done))) hd.2 hBb); have HFL := Lib.hid (rdb_gro (rdb_bel HFL.out (by ((repeat' (first | (with_reducible exact Below.refl _ _) | (with_reducible apply bel_al) | (with_reducible apply bel_dr))); done))) hd.2 hBb); have HD5 := Lib.hid d5; clear d5 hd) | fail)
  all_goals
    go_wp2
    have HDD := Lib.hid (HD.out.trans (by rw [hK]; exact HD6.out))
    have HOO : Below W0.heap.size W0 W6 := by have h := HDD.out; rw [← HBD.out] at h; exact Drew.out HB1.out h
    refine bodyPost_ret (v := .tuple #[.agg #[.int .i64 n, .slice Av L.length cv], .slice Af F.length cf, .int .i64 x, vs]) (by simp [results, Tryz.results45, go_sem, r0, r1]) rfl ?_
    have hg : World.grownBy W6 ((World.setCell W6 ⟨w.heap.size, 0, none⟩ (.int .i64 n)).setCell ⟨w.heap.size, 1, none⟩ (.slice Av L.length cv)) (some w.heap.size) := (only_setCell (only_setCell (World.grownBy.refl _ _) 0 _) 1 _)
    exact ⟨⟨n, _, L, _, F, x, _, q, rfl, (rdb_gro HO.out hg (by omega)).1, (rdb_gro HFL.out hg (by omega)).1, hF, HFS.out, (rdb_gro HS.out hg (by omega)).1, hq, hqs⟩, bel_grown (bel_then HB0.out HOO) hg (fun q e => Nat.le_of_eq (Option.some.inj e))⟩
end Go.Proofs.YthgegghdkoeofaaGreatDoor
