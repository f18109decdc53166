/-
  Public draws of towns, stations, movers and limits (printed by gen_drawcv.py). Draws of towns, stations and limits (printed by gen_drawcv.py). (joined by pack.py: DrawPu DrawCv)
-/
import Derived.Test.YtahehdgkbhjpoaaK21
import Derived.Test.YtahehdgkbhjpoaaK22
import Derived.Test.YtahehdgkbhjpoaaK18
import Derived.Deep.RegionHeld3
import Derived.Deep.DeepCutAuto
import Derived.Deep.CutBlock
namespace Go.Proofs.Ytahehdgkbhjpoaa
set_option linter.unusedVariables false
set_option linter.unusedSimpArgs false
open Go.RowKit

theorem fresh_gro {w w' : World} {R B : Nat} (h : FreshT w R) (g : w.grownBy w' (some B)) (hne : R ≠ B) : FreshT w' R :=
  World.ownsRow.kept h g (.inr (fun e => hne (Option.some.inj e)))
theorem rd_of {w : World} {v : Value} {n : Nat} {xs : List Value} (h : Rd w v n xs) : ∃ A c, v = .slice A n c := by obtain ⟨A, c, e, _⟩ := h; exact ⟨A, c, e⟩

set_option maxRecDepth 100000 in
set_option maxHeartbeats 4000000 in
theorem dDrawAreStations_b (v : Value) (l : List Int) (hn : l.length ≤ 9223372036854775807) (hl : BytesOk l) (w : World) (hr : Rd w v l.length (bys l)) :
    Calls Try.prog 76 #[v] w fun e w' => (∃ (n : Int) (s : Value) (T : List St) (q0 : Value) (Q0 : List Int), e = .returned (.tuple #[.agg #[.int .i64 n, s], q0]) ∧ RdB (w.heap.size + 1) w' s T.length (T.flatMap St.cells) ∧ RdB (w.heap.size + 1) w' q0 Q0.length (ints Q0) ∧ Q0.length ≤ 8) ∧ Below w.heap.size w w' := by
  have HB9 := Lib.hid hr
  have HL := Lib.hid hl
  obtain ⟨A0, c0, rfl, _⟩ := hr
  clear hl
  go_enter Try.func76, Try.ntmps76
  go_upto_region 1 with fail
  generalize hW : World.alloc w _ = W0
  have hf0 : FreshT W0 w.heap.size := by subst hW; exact fresh_new w _ rfl
  have hb0 : Below w.heap.size w W0 := by subst hW; exact bel_al (Below.refl _ _) _
  have sz0 : W0.heap.size = w.heap.size + 1 := by subst hW; simp
  have HF := Lib.hid hf0
  have HB0 := Lib.hid hb0
  have HRd := Lib.hid (rd_below HB9.out hb0)
  have HSZ := Lib.hid sz0
  have sz0' : w.heap.size < W0.heap.size := by omega
  clear hW hf0 hb0 sz0
  go_upto_region 2 with fail
  generalize hW : World.alloc W0 _ = W1
  have hc := cur_new W0 _ l HRd.out hn W1 (by subst hW; simp [go_sem]) (by subst hW; simp [go_sem]) (by subst hW; simp [go_sem]) (by subst hW; simp [go_sem]) (by subst hW; simp [go_sem]) (by subst hW; exact bel_al (Below.refl _ _) _)
  have hb1 : Below W0.heap.size W0 W1 := by subst hW; exact bel_al (Below.refl _ _) _
  have HF := Lib.hid (own_below HF.out hb1 : FreshT W1 w.heap.size)
  have HB1 := Lib.hid hb1
  have sz1 := hb1.size
  obtain ⟨B, hBd⟩ : ∃ B, W0.heap.size = B := ⟨_, rfl⟩
  rw [hBd] at hc ⊢
  have HBD := Lib.hid hBd
  have hwB : w.heap.size < B := by omega
  have hwB1 : B ≤ w.heap.size + 1 := by have := HSZ.out; omega
  have hBb : B < W1.heap.size := hc.lt
  obtain ⟨a, ha0, ha1⟩ : ∃ a : Nat, a = 0 ∧ a ≤ 0 := ⟨0, rfl, Nat.le_refl _⟩
  rw [← ha0] at hc
  have HD := Lib.hid (Drew.refl hc 0)
  clear hW hb1 hBd hc ha0
  go_wp2_with fail
  refine (anyTown_c B l HL.out (a + 0) (by omega) _ HD.out.1).mono ?_; rintro e W2 ⟨n, v, L, rfl, ho, hd⟩
  obtain ⟨Av, cv, rfl, -⟩ := own_rd ho
  have HD := Lib.hid (HD.out.trans hd)
  have HF := Lib.hid (fresh_gro HF.out hd.2 (by omega))
  have HO := Lib.hid (rdb_base (rdb_own ho) (by omega : W1.heap.size ≤ W1.heap.size))
  have sz2 := hd.2.size
  clear hd ho
  go_upto_region 3 with fail
  generalize hW : World.alloc W2 _ = W3
  have ht : W3.ownsRow W1.heap.size 26 2 (.slice (some ⟨W2.heap.size, 0, none⟩) 1 1) 1 [.int .i64 n, .slice Av L.length cv] := by subst hW; exact own_base (row_new W2 _ _ 1 2 rfl (by omega) (by omega)) (by omega)
  have hbl : Below W2.heap.size W2 W3 := by subst hW; exact bel_al (Below.refl _ _) _
  have sz3 : W2.heap.size < W3.heap.size := by subst hW; simp
  obtain ⟨RT, hRT⟩ : ∃ RT, W2.heap.size = RT := ⟨_, rfl⟩
  have hRTw : w.heap.size < RT := by omega
  have hRTB : RT ≠ B := by omega
  rw [hRT] at ht sz3 ⊢
  have HD := Lib.hid (HD.out.bel hbl)
  have HF := Lib.hid (own_below HF.out hbl : FreshT W3 w.heap.size)
  have HO := Lib.hid (rdb_bel HO.out hbl)
  have HT := Lib.hid ht
  have sw3 : W1.heap.size ≤ W3.heap.size := by omega
  clear hW ht hbl hRT
  obtain ⟨A, hA⟩ : ∃ A : Nat, a + (0 + 4300) = A := ⟨_, rfl⟩
  have hA1 : A ≤ 5000 := by omega
  have HDb : Hid (Drew B l A 0 W3 W3) := Lib.hid (by have h := Drew.refl HD.out.1 0; rw [hA] at h; exact h)
  have t0 := HT.out.cellAt 0 (by omega)
  have t1 := HT.out.cellAt 1 (by omega)
  dsimp only [List.getElem?_cons_zero, List.getElem?_cons_succ] at t0 t1
  have r0 := fresh_c0 HF.out
  have r1 := fresh_c1 HF.out
  have f0 := fresh_f HF.out 0
  have f1 := fresh_f HF.out 1
  have tb0 := t0
  have tb1 := t1
  have rb0 := r0
  have rb1 := r1
  have fb0 := f0
  have fb1 := f1
  have hwne : w.heap.size ≠ B := by omega
  have sww : w.heap.size < W3.heap.size := by omega
  have hRw : RT ≠ w.heap.size := by omega
  go_wp2_with fail
  go_region_held3 (fun W' => W'.cell? ⟨RT, 0, none⟩ = some (.int .i64 n) ∧ W'.cell? ⟨RT, 1, none⟩ = some (.slice Av L.length cv)) (first | (with_reducible exact ⟨t0, t1⟩) | (refine ⟨?_, ?_⟩ <;> ((repeat' (first | (with_reducible assumption) | (with_reducible apply cell_drw) | (with_reducible apply cellAl) | (with_reducible refine cell_set_ne ?_ (by omega)))); done))) (first | (go_at_call 55; refine (stationsOf_c B l HL.out (A + 0) (by omega) _ (HDb.out.1.below (by ((repeat' (first | (with_reducible exact Below.refl _ _) | (with_reducible apply bel_al) | (with_reducible apply bel_dr))); done))) n Av L.length cv).mono ?_; rintro e W5 ⟨vs, QS, rfl, ho, hQS, hd⟩; have d5 := (HDb.out.bel (by ((repeat' (first | (with_reducible exact Below.refl _ _) | (with_reducible apply bel_al) | (with_reducible apply bel_dr))); done))).trans hd; have t0 := (gro_cell d5.2 (o := 0) (x := RT) sz3 hRTB).trans tb0; have t1 := (gro_cell d5.2 (o := 1) (x := RT) sz3 hRTB).trans tb1; have r0 := (gro_cell d5.2 (o := 0) (x := w.heap.size) sww hwne).trans rb0; have r1 := (gro_cell d5.2 (o := 1) (x := w.heap.size) sww hwne).trans rb1; have f0 := (gro_frozen d5.2 (o := 0) (x := w.heap.size) sww hwne).trans fb0; have f1 := (gro_frozen d5.2 (o := 1) (x := w.heap.size) sww hwne).trans fb1; have sz5 := d5.2.size; have HO := Lib.hid (rdb_gro (rdb_bel HO.out (by ((repeat' (first | (with_reducible exact Below.refl _ _) | (with_reducible apply bel_al) | (with_reducible apply bel_dr))); done))) hd.2 hBb); have HQS := Lib.hid (rdb_base (rdb_ints ho) (by first | omega | (simp only [size_dr]; omega)) : RdB W1.heap.size _ _ _ (ints QS)); clear ho; obtain ⟨As, cs, rfl, -⟩ := HQS.out.1; have HD5 := Lib.hid d5; clear d5 hd))
  all_goals
    go_wp2
    have HDD := Lib.hid ((HD.out).trans (by rw [hA]; exact HD5.out))
    have HOO : Below W0.heap.size W0 W5 := by have h := HDD.out; rw [← HBD.out] at h; exact Drew.out HB1.out h
    refine bodyPost_ret (v := .tuple #[.agg #[.int .i64 n, .slice Av L.length cv], .slice As QS.length cs]) (by simp [results, Try.results76, go_sem, r0, r1]) rfl ?_
    have hg : World.grownBy W5 ((World.setCell W5 ⟨w.heap.size, 0, none⟩ (.int .i64 n)).setCell ⟨w.heap.size, 1, none⟩ (.slice Av L.length cv)) (some w.heap.size) := (only_setCell (only_setCell (World.grownBy.refl _ _) 0 _) 1 _)
    exact ⟨⟨n, _, L, _, _, rfl, rdb_base (rdb_gro HO.out hg (by omega)) (by omega), rdb_base (rdb_gro HQS.out hg (by omega)) (by omega), by omega⟩, bel_grown (bel_then HB0.out HOO) hg (fun q e => Nat.le_of_eq (Option.some.inj e))⟩
set_option maxRecDepth 100000 in
set_option maxHeartbeats 4000000 in
theorem dDrawCoveredNodes_b (v : Value) (l : List Int) (hn : l.length ≤ 9223372036854775807) (hl : BytesOk l) (w : World) (hr : Rd w v l.length (bys l)) :
    Calls Try.prog 7 #[v] w fun e w' => (∃ (n : Int) (s : Value) (T : List St) (q0 : Value) (Q0 : List Int) (i1 : Int), e = .returned (.tuple #[.agg #[.int .i64 n, s], q0, .int .i64 i1]) ∧ RdB (w.heap.size + 1) w' s T.length (T.flatMap St.cells) ∧ RdB (w.heap.size + 1) w' q0 Q0.length (ints Q0) ∧ Q0.length ≤ 8) ∧ Below w.heap.size w w' := by
  have HB9 := Lib.hid hr
  have HL := Lib.hid hl
  obtain ⟨A0, c0, rfl, _⟩ := hr
  clear hl
  go_enter Try.func7, Try.ntmps7
  go_upto_region 1 with fail
  generalize hW : World.alloc w _ = W0
  have hf0 : FreshT W0 w.heap.size := by subst hW; exact fresh_new w _ rfl
  have hb0 : Below w.heap.size w W0 := by subst hW; exact bel_al (Below.refl _ _) _
  have sz0 : W0.heap.size = w.heap.size + 1 := by subst hW; simp
  have HF := Lib.hid hf0
  have HB0 := Lib.hid hb0
  have HRd := Lib.hid (rd_below HB9.out hb0)
  have HSZ := Lib.hid sz0
  have sz0' : w.heap.size < W0.heap.size := by omega
  clear hW hf0 hb0 sz0
  go_upto_region 2 with fail
  generalize hW : World.alloc W0 _ = W1
  have hc := cur_new W0 _ l HRd.out hn W1 (by subst hW; simp [go_sem]) (by subst hW; simp [go_sem]) (by subst hW; simp [go_sem]) (by subst hW; simp [go_sem]) (by subst hW; simp [go_sem]) (by subst hW; exact bel_al (Below.refl _ _) _)
  have hb1 : Below W0.heap.size W0 W1 := by subst hW; exact bel_al (Below.refl _ _) _
  have HF := Lib.hid (own_below HF.out hb1 : FreshT W1 w.heap.size)
  have HB1 := Lib.hid hb1
  have sz1 := hb1.size
  obtain ⟨B, hBd⟩ : ∃ B, W0.heap.size = B := ⟨_, rfl⟩
  rw [hBd] at hc ⊢
  have HBD := Lib.hid hBd
  have hwB : w.heap.size < B := by omega
  have hwB1 : B ≤ w.heap.size + 1 := by have := HSZ.out; omega
  have hBb : B < W1.heap.size := hc.lt
  obtain ⟨a, ha0, ha1⟩ : ∃ a : Nat, a = 0 ∧ a ≤ 0 := ⟨0, rfl, Nat.le_refl _⟩
  rw [← ha0] at hc
  have HD := Lib.hid (Drew.refl hc 0)
  clear hW hb1 hBd hc ha0
  go_wp2_with fail
  refine (anyTown_c B l HL.out (a + 0) (by omega) _ HD.out.1).mono ?_; rintro e W2 ⟨n, v, L, rfl, ho, hd⟩
  obtain ⟨Av, cv, rfl, -⟩ := own_rd ho
  have HD := Lib.hid (HD.out.trans hd)
  have HF := Lib.hid (fresh_gro HF.out hd.2 (by omega))
  have HO := Lib.hid (rdb_base (rdb_own ho) (by omega : W1.heap.size ≤ W1.heap.size))
  have sz2 := hd.2.size
  clear hd ho
  go_upto_region 3 with fail
  generalize hW : World.alloc W2 _ = W3
  have ht : W3.ownsRow W1.heap.size 26 2 (.slice (some ⟨W2.heap.size, 0, none⟩) 1 1) 1 [.int .i64 n, .slice Av L.length cv] := by subst hW; exact own_base (row_new W2 _ _ 1 2 rfl (by omega) (by omega)) (by omega)
  have hbl : Below W2.heap.size W2 W3 := by subst hW; exact bel_al (Below.refl _ _) _
  have sz3 : W2.heap.size < W3.heap.size := by subst hW; simp
  obtain ⟨RT, hRT⟩ : ∃ RT, W2.heap.size = RT := ⟨_, rfl⟩
  have hRTw : w.heap.size < RT := by omega
  have hRTB : RT ≠ B := by omega
  rw [hRT] at ht sz3 ⊢
  have HD := Lib.hid (HD.out.bel hbl)
  have HF := Lib.hid (own_below HF.out hbl : FreshT W3 w.heap.size)
  have HO := Lib.hid (rdb_bel HO.out hbl)
  have HT := Lib.hid ht
  have sw3 : W1.heap.size ≤ W3.heap.size := by omega
  clear hW ht hbl hRT
  obtain ⟨A, hA⟩ : ∃ A : Nat, a + (0 + 4300) = A := ⟨_, rfl⟩
  have hA1 : A ≤ 5000 := by omega
  have HDb : Hid (Drew B l A 0 W3 W3) := Lib.hid (by have h := Drew.refl HD.out.1 0; rw [hA] at h; exact h)
  have t0 := HT.out.cellAt 0 (by omega)
  have t1 := HT.out.cellAt 1 (by omega)
  dsimp only [List.getElem?_cons_zero, List.getElem?_cons_succ] at t0 t1
  have r0 := fresh_c0 HF.out
  have r1 := fresh_c1 HF.out
  have f0 := fresh_f HF.out 0
  have f1 := fresh_f HF.out 1
  have tb0 := t0
  have tb1 := t1
  have rb0 := r0
  have rb1 := r1
  have fb0 := f0
  have fb1 := f1
  have hwne : w.heap.size ≠ B := by omega
  have sww : w.heap.size < W3.heap.size := by omega
  have hRw : RT ≠ w.heap.size := by omega
  go_wp2_with fail
  go_region_held3 (fun W' => W'.cell? ⟨RT, 0, none⟩ = some (.int .i64 n) ∧ W'.cell? ⟨RT, 1, none⟩ = some (.slice Av L.length cv)) (first | (with_reducible exact ⟨t0, t1⟩) | (refine ⟨?_, ?_⟩ <;> ((repeat' (first | (with_reducible assumption) | (with_reducible apply cell_drw) | (with_reducible apply cellAl) | (with_reducible refine cell_set_ne ?_ (by omega)))); done))) (first | (have _q := HD5; go_at_call 56; refine (limitSeconds_c B l HL.out (A + 20) (by omega) _ (HD5.out.1.below (by ((repeat' (first | (with_reducible exact Below.refl _ _) | (with_reducible apply bel_al) | (with_reducible apply bel_dr))); done)))).mono ?_; rintro e W6 ⟨lim, rfl, hd⟩; have d6 := (HD5.out.bel (by ((repeat' (first | (with_reducible exact Below.refl _ _) | (with_reducible apply bel_al) | (with_reducible apply bel_dr))); done))).trans hd; have t0 := (gro_cell d6.2 (o := 0) (x := RT) sz3 hRTB).trans tb0; have t1 := (gro_cell d6.2 (o := 1) (x := RT) sz3 hRTB).trans tb1; have r0 := (gro_cell d6.2 (o := 0) (x := w.heap.size) sww hwne).trans rb0; have r1 := (gro_cell d6.2 (o := 1) (x := w.heap.size) sww hwne).trans rb1; have f0 := (gro_frozen d6.2 (o := 0) (x := w.heap.size) sww hwne).trans fb0; have f1 := (gro_frozen d6.2 (o := 1) (x := w.heap.size) sww hwne).trans fb1; have sz6 := d6.2.size; have HO := Lib.hid (rdb_gro (rdb_bel HO.out (by ((repeat' (first | (with_reducible exact Below.refl _ _) | (with_reducible apply bel_al) | (with_reducible apply bel_dr))); done))) hd.2 hBb); have HQS := Lib.hid (rdb_gro (rdb_bel HQS.out (by ((repeat' (first | (with_reducible exact Below.refl _ _) | (with_reducible apply bel_al) | (with_reducible apply bel_dr))); done))) hd.2 hBb); have HD6 := Lib.hid d6; clear d6 hd) | (go_at_call 55; refine (stationsOf_c B l HL.out (A + 0) (by omega) _ (HDb.out.1.below (by ((repeat' (first | (with_reducible exact Below.refl _ _) | (with_reducible apply bel_al) | (with_reducible apply bel_dr))); done))) n Av L.length cv).mono ?_; rintro e W5 ⟨vs, QS, rfl, ho, hQS, hd⟩; have d5 := (HDb.out.bel (by ((repeat' (first | (with_reducible exact Below.refl _ _) | (with_reducible apply bel_al) | (with_reducible apply bel_dr))); done))).trans hd; have t0 := (gro_cell d5.2 (o := 0) (x := RT) sz3 hRTB).trans tb0; have t1 := (gro_cell d5.2 (o := 1) (x := RT) sz3 hRTB).trans tb1; have r0 := (gro_cell d5.2 (o := 0) (x := w.heap.size) sww hwne).trans rb0; have r1 := (gro_cell d5.2 (o := 1) (x := w.heap.size) sww hwne).trans rb1; have f0 := (gro_frozen d5.2 (o := 0) (x := w.heap.size) sww hwne).trans fb0; have f1 := (gro_frozen d5.2 (o := 1) (x := w.heap.size) sww hwne).trans fb1; have sz5 := d5.2.size; have HO := Lib.hid (rdb_gro (rdb_bel HO.out (by ((repeat' (first | (with_reducible exact Below.refl _ _) | (with_reducible apply bel_al) | (with_reducible apply bel_dr))); done))) hd.2 hBb); have HQS := Lib.hid (rdb_base (rdb_ints ho) (by first | omega | (simp only [size_dr]; omega)) : RdB W1.heap.size _ _ _ (ints QS)); clear ho; obtain ⟨As, cs, rfl, -⟩ := HQS.out.1; have HD5 := Lib.hid d5; clear d5 hd))
  all_goals
    go_wp2
    have HDD := Lib.hid ((HD.out).trans (by rw [hA]; exact HD6.out))
    have HOO : Below W0.heap.size W0 W6 := by have h := HDD.out; rw [← HBD.out] at h; exact Drew.out HB1.out h
    refine bodyPost_ret (v := .tuple #[.agg #[.int .i64 n, .slice Av L.length cv], .slice As QS.length cs, .int .i64 lim]) (by simp [results, Try.results7, go_sem, r0, r1]) rfl ?_
    have hg : World.grownBy W6 ((World.setCell W6 ⟨w.heap.size, 0, none⟩ (.int .i64 n)).setCell ⟨w.heap.size, 1, none⟩ (.slice Av L.length cv)) (some w.heap.size) := (only_setCell (only_setCell (World.grownBy.refl _ _) 0 _) 1 _)
    exact ⟨⟨n, _, L, _, _, _, rfl, rdb_base (rdb_gro HO.out hg (by omega)) (by omega), rdb_base (rdb_gro HQS.out hg (by omega)) (by omega), by omega⟩, bel_grown (bel_then HB0.out HOO) hg (fun q e => Nat.le_of_eq (Option.some.inj e))⟩
set_option maxRecDepth 100000 in
set_option maxHeartbeats 4000000 in
theorem dDrawReachTable_b (v : Value) (l : List Int) (hn : l.length ≤ 9223372036854775807) (hl : BytesOk l) (w : World) (hr : Rd w v l.length (bys l)) :
    Calls Try.prog 87 #[v] w fun e w' => (∃ (n : Int) (s : Value) (T : List St) (q0 : Value) (Q0 : List Int) (q1 : Value) (Q1 : List Int) (i2 : Int), e = .returned (.tuple #[.agg #[.int .i64 n, s], q0, q1, .int .i64 i2]) ∧ RdB (w.heap.size + 1) w' s T.length (T.flatMap St.cells) ∧ RdB (w.heap.size + 1) w' q0 Q0.length (ints Q0) ∧ Q0.length ≤ 8 ∧ RdB (w.heap.size + 1) w' q1 Q1.length (ints Q1) ∧ Q1.length ≤ 8) ∧ Below w.heap.size w w' := by
  have HB9 := Lib.hid hr
  have HL := Lib.hid hl
  obtain ⟨A0, c0, rfl, _⟩ := hr
  clear hl
  go_enter Try.func87, Try.ntmps87
  go_upto_region 1 with fail
  generalize hW : World.alloc w _ = W0
  have hf0 : FreshT W0 w.heap.size := by subst hW; exact fresh_new w _ rfl
  have hb0 : Below w.heap.size w W0 := by subst hW; exact bel_al (Below.refl _ _) _
  have sz0 : W0.heap.size = w.heap.size + 1 := by subst hW; simp
  have HF := Lib.hid hf0
  have HB0 := Lib.hid hb0
  have HRd := Lib.hid (rd_below HB9.out hb0)
  have HSZ := Lib.hid sz0
  have sz0' : w.heap.size < W0.heap.size := by omega
  clear hW hf0 hb0 sz0
  go_upto_region 2 with fail
  generalize hW : World.alloc W0 _ = W1
  have hc := cur_new W0 _ l HRd.out hn W1 (by subst hW; simp [go_sem]) (by subst hW; simp [go_sem]) (by subst hW; simp [go_sem]) (by subst hW; simp [go_sem]) (by subst hW; simp [go_sem]) (by subst hW; exact bel_al (Below.refl _ _) _)
  have hb1 : Below W0.heap.size W0 W1 := by subst hW; exact bel_al (Below.refl _ _) _
  have HF := Lib.hid (own_below HF.out hb1 : FreshT W1 w.heap.size)
  have HB1 := Lib.hid hb1
  have sz1 := hb1.size
  obtain ⟨B, hBd⟩ : ∃ B, W0.heap.size = B := ⟨_, rfl⟩
  rw [hBd] at hc ⊢
  have HBD := Lib.hid hBd
  have hwB : w.heap.size < B := by omega
  have hwB1 : B ≤ w.heap.size + 1 := by have := HSZ.out; omega
  have hBb : B < W1.heap.size := hc.lt
  obtain ⟨a, ha0, ha1⟩ : ∃ a : Nat, a = 0 ∧ a ≤ 0 := ⟨0, rfl, Nat.le_refl _⟩
  rw [← ha0] at hc
  have HD := Lib.hid (Drew.refl hc 0)
  clear hW hb1 hBd hc ha0
  go_wp2_with fail
  refine (anyTown_c B l HL.out (a + 0) (by omega) _ HD.out.1).mono ?_; rintro e W2 ⟨n, v, L, rfl, ho, hd⟩
  obtain ⟨Av, cv, rfl, -⟩ := own_rd ho
  have HD := Lib.hid (HD.out.trans hd)
  have HF := Lib.hid (fresh_gro HF.out hd.2 (by omega))
  have HO := Lib.hid (rdb_base (rdb_own ho) (by omega : W1.heap.size ≤ W1.heap.size))
  have sz2 := hd.2.size
  clear hd ho
  go_upto_region 3 with fail
  generalize hW : World.alloc W2 _ = W3
  have ht : W3.ownsRow W1.heap.size 26 2 (.slice (some ⟨W2.heap.size, 0, none⟩) 1 1) 1 [.int .i64 n, .slice Av L.length cv] := by subst hW; exact own_base (row_new W2 _ _ 1 2 rfl (by omega) (by omega)) (by omega)
  have hbl : Below W2.heap.size W2 W3 := by subst hW; exact bel_al (Below.refl _ _) _
  have sz3 : W2.heap.size < W3.heap.size := by subst hW; simp
  obtain ⟨RT, hRT⟩ : ∃ RT, W2.heap.size = RT := ⟨_, rfl⟩
  have hRTw : w.heap.size < RT := by omega
  have hRTB : RT ≠ B := by omega
  rw [hRT] at ht sz3 ⊢
  have HD := Lib.hid (HD.out.bel hbl)
  have HF := Lib.hid (own_below HF.out hbl : FreshT W3 w.heap.size)
  have HO := Lib.hid (rdb_bel HO.out hbl)
  have HT := Lib.hid ht
  have sw3 : W1.heap.size ≤ W3.heap.size := by omega
  clear hW ht hbl hRT
  obtain ⟨A, hA⟩ : ∃ A : Nat, a + (0 + 4300) = A := ⟨_, rfl⟩
  have hA1 : A ≤ 5000 := by omega
  have HDb : Hid (Drew B l A 0 W3 W3) := Lib.hid (by have h := Drew.refl HD.out.1 0; rw [hA] at h; exact h)
  have t0 := HT.out.cellAt 0 (by omega)
  have t1 := HT.out.cellAt 1 (by omega)
  dsimp only [List.getElem?_cons_zero, List.getElem?_cons_succ] at t0 t1
  have r0 := fresh_c0 HF.out
  have r1 := fresh_c1 HF.out
  have f0 := fresh_f HF.out 0
  have f1 := fresh_f HF.out 1
  have tb0 := t0
  have tb1 := t1
  have rb0 := r0
  have rb1 := r1
  have fb0 := f0
  have fb1 := f1
  have hwne : w.heap.size ≠ B := by omega
  have sww : w.heap.size < W3.heap.size := by omega
  have hRw : RT ≠ w.heap.size := by omega
  go_wp2_with fail
  go_region_held3 (fun W' => W'.cell? ⟨RT, 0, none⟩ = some (.int .i64 n) ∧ W'.cell? ⟨RT, 1, none⟩ = some (.slice Av L.length cv)) (first | (with_reducible exact ⟨t0, t1⟩) | (refine ⟨?_, ?_⟩ <;> ((repeat' (first | (with_reducible assumption) | (with_reducible apply cell_drw) | (with_reducible apply cellAl) | (with_reducible refine cell_set_ne ?_ (by omega)))); done))) (first | (have _q := HD6; go_at_call 56; refine (limitSeconds_c B l HL.out (A + 52) (by omega) _ (HD6.out.1.below (by ((repeat' (first | (with_reducible exact Below.refl _ _) | (with_reducible apply bel_al) | (with_reducible apply bel_dr))); done)))).mono ?_; rintro e W7 ⟨lim, rfl, hd⟩; have d7 := (HD6.out.bel (by ((repeat' (first | (with_reducible exact Below.refl _ _) | (with_reducible apply bel_al) | (with_reducible apply bel_dr))); done))).trans hd; have t0 := (gro_cell d7.2 (o := 0) (x := RT) sz3 hRTB).trans tb0; have t1 := (gro_cell d7.2 (o := 1) (x := RT) sz3 hRTB).trans tb1; have r0 := (gro_cell d7.2 (o := 0) (x := w.heap.size) sww hwne).trans rb0; have r1 := (gro_cell d7.2 (o := 1) (x := w.heap.size) sww hwne).trans rb1; have f0 := (gro_frozen d7.2 (o := 0) (x := w.heap.size) sww hwne).trans fb0; have f1 := (gro_frozen d7.2 (o := 1) (x := w.heap.size) sww hwne).trans fb1; have sz7 := d7.2.size; have HO := Lib.hid (rdb_gro (rdb_bel HO.out (by ((repeat' (first | (with_reducible exact Below.refl _ _) | (with_reducible apply bel_al) | (with_reducible apply bel_dr))); done))) hd.2 hBb); have HQM := Lib.hid (rdb_gro (rdb_bel HQM.out (by ((repeat' (first | (with_reducible exact Below.refl _ _) | (with_reducible apply bel_al) | (with_reducible apply bel_dr))); done))) hd.2 hBb); have HQS := Lib.hid (rdb_gro (rdb_bel HQS.out (by ((repeat' (first | (with_reducible exact Below.refl _ _) | (with_reducible apply bel_al) | (with_reducible apply bel_dr))); done))) hd.2 hBb); have HD7 := Lib.hid d7; clear d7 hd) | (have _q := HD5; go_at_call 123; refine (fewStations_c B l HL.out (A + 30) (by omega) _ (HD5.out.1.below (by ((repeat' (first | (with_reducible exact Below.refl _ _) | (with_reducible apply bel_al) | (with_reducible apply bel_dr))); done))) n Av L.length cv).mono ?_; rintro e W6 ⟨vs, QS, rfl, ho, hQS, hd⟩; have d6 := (HD5.out.bel (by ((repeat' (first | (with_reducible exact Below.refl _ _) | (with_reducible apply bel_al) | (with_reducible apply bel_dr))); done))).trans hd; have t0 := (gro_cell d6.2 (o := 0) (x := RT) sz3 hRTB).trans tb0; have t1 := (gro_cell d6.2 (o := 1) (x := RT) sz3 hRTB).trans tb1; have r0 := (gro_cell d6.2 (o := 0) (x := w.heap.size) sww hwne).trans rb0; have r1 := (gro_cell d6.2 (o := 1) (x := w.heap.size) sww hwne).trans rb1; have f0 := (gro_frozen d6.2 (o := 0) (x := w.heap.size) sww hwne).trans fb0; have f1 := (gro_frozen d6.2 (o := 1) (x := w.heap.size) sww hwne).trans fb1; have sz6 := d6.2.size; have HO := Lib.hid (rdb_gro (rdb_bel HO.out (by ((repeat' (first | (with_reducible exact Below.refl _ _) | (with_reducible apply bel_al) | (with_reducible apply bel_dr))); done))) hd.2 hBb); have HQM := Lib.hid (rdb_gro (rdb_bel HQM.out (by ((repeat' (first | (with_reducible exact Below.refl _ _) | (with_reducible apply bel_al) | (with_reducible apply bel_dr))); done))) hd.2 hBb); have HQS := Lib.hid (rdb_base ho (by first | omega | (simp only [size_dr]; omega)) : RdB W1.heap.size _ _ _ (ints QS)); clear ho; have HD6 := Lib.hid d6; clear d6 hd) | (go_at_call 122; refine (moversOf_c B l HL.out (A + 0) (by omega) _ (HDb.out.1.below (by ((repeat' (first | (with_reducible exact Below.refl _ _) | (with_reducible apply bel_al) | (with_reducible apply bel_dr))); done))) n Av L.length cv).mono ?_; rintro e W5 ⟨vm, QM, rfl, ho, hQM, hd⟩; have d5 := (HDb.out.bel (by ((repeat' (first | (with_reducible exact Below.refl _ _) | (with_reducible apply bel_al) | (with_reducible apply bel_dr))); done))).trans hd; have t0 := (gro_cell d5.2 (o := 0) (x := RT) sz3 hRTB).trans tb0; have t1 := (gro_cell d5.2 (o := 1) (x := RT) sz3 hRTB).trans tb1; have r0 := (gro_cell d5.2 (o := 0) (x := w.heap.size) sww hwne).trans rb0; have r1 := (gro_cell d5.2 (o := 1) (x := w.heap.size) sww hwne).trans rb1; have f0 := (gro_frozen d5.2 (o := 0) (x := w.heap.size) sww hwne).trans fb0; have f1 := (gro_frozen d5.2 (o := 1) (x := w.heap.size) sww hwne).trans fb1; have sz5 := d5.2.size; have HO := Lib.hid (rdb_gro (rdb_bel HO.out (by ((repeat' (first | (with_reducible exact Below.refl _ _) | (with_reducible apply bel_al) | (with_reducible apply bel_dr))); done))) hd.2 hBb); have HQM := Lib.hid (rdb_base (rdb_ints ho) (by first | omega | (simp only [size_dr]; omega)) : RdB W1.heap.size _ _ _ (ints QM)); clear ho; have HD5 := Lib.hid d5; clear d5 hd))
  all_goals
    go_wp2
    have HDD := Lib.hid ((HD.out).trans (by rw [hA]; exact HD7.out))
    have HOO : Below W0.heap.size W0 W7 := by have h := HDD.out; rw [← HBD.out] at h; exact Drew.out HB1.out h
    refine bodyPost_ret (v := .tuple #[.agg #[.int .i64 n, .slice Av L.length cv], vm, vs, .int .i64 lim]) (by simp [results, Try.results87, go_sem, r0, r1]) rfl ?_
    have hg : World.grownBy W7 ((World.setCell W7 ⟨w.heap.size, 0, none⟩ (.int .i64 n)).setCell ⟨w.heap.size, 1, none⟩ (.slice Av L.length cv)) (some w.heap.size) := (only_setCell (only_setCell (World.grownBy.refl _ _) 0 _) 1 _)
    exact ⟨⟨n, _, L, _, _, _, _, _, rfl, rdb_base (rdb_gro HO.out hg (by omega)) (by omega), rdb_base (rdb_gro HQM.out hg (by omega)) (by omega), by omega, rdb_base (rdb_gro HQS.out hg (by omega)) (by omega), by omega⟩, bel_grown (bel_then HB0.out HOO) hg (fun q e => Nat.le_of_eq (Option.some.inj e))⟩
set_option maxRecDepth 100000 in
set_option maxHeartbeats 4000000 in
theorem dDrawWeakestNode_b (v : Value) (l : List Int) (hn : l.length ≤ 9223372036854775807) (hl : BytesOk l) (w : World) (hr : Rd w v l.length (bys l)) :
    Calls Try.prog 23 #[v] w fun e w' => (∃ (n : Int) (s : Value) (T : List St) (q0 : Value) (Q0 : List Int), e = .returned (.tuple #[.agg #[.int .i64 n, s], q0]) ∧ RdB (w.heap.size + 1) w' s T.length (T.flatMap St.cells) ∧ RdB (w.heap.size + 1) w' q0 Q0.length (ints Q0) ∧ Q0.length ≤ 8) ∧ Below w.heap.size w w' := by
  have HB9 := Lib.hid hr
  have HL := Lib.hid hl
  obtain ⟨A0, c0, rfl, _⟩ := hr
  clear hl
  go_enter Try.func23, Try.ntmps23
  go_upto_region 1 with fail
  generalize hW : World.alloc w _ = W0
  have hf0 : FreshT W0 w.heap.size := by subst hW; exact fresh_new w _ rfl
  have hb0 : Below w.heap.size w W0 := by subst hW; exact bel_al (Below.refl _ _) _
  have sz0 : W0.heap.size = w.heap.size + 1 := by subst hW; simp
  have HF := Lib.hid hf0
  have HB0 := Lib.hid hb0
  have HRd := Lib.hid (rd_below HB9.out hb0)
  have HSZ := Lib.hid sz0
  have sz0' : w.heap.size < W0.heap.size := by omega
  clear hW hf0 hb0 sz0
  go_wp2_with fail
  refine (dDrawAreStations_b _ l hn HL.out W0 HRd.out).mono ?_; rintro e W1 ⟨⟨n, s, T, q0, Q0, he, h0, h1, b1⟩, hb⟩
  subst he
  have HF1 := Lib.hid (own_below HF.out hb : FreshT W1 w.heap.size)
  obtain ⟨At, ct, rfl⟩ := rd_of h0.1
  have HT := Lib.hid h0
  have HQ0 := Lib.hid h1
  clear h1
  have HB1 := Lib.hid (bel_then HB0.out hb)
  clear h0 hb
  have r0 := fresh_c0 HF1.out
  have r1 := fresh_c1 HF1.out
  have f0 := fresh_f HF1.out 0
  have f1 := fresh_f HF1.out 1
  go_wp2
  refine bodyPost_ret (v := .tuple #[.agg #[.int .i64 n, .slice At T.length ct], q0]) (by simp [results, Try.results23, go_sem, r0, r1]) rfl ?_
  have hg : W1.grownBy ((W1.setCell ⟨w.heap.size, 0, none⟩ (.int .i64 n)).setCell ⟨w.heap.size, 1, none⟩ (.slice At T.length ct)) (some w.heap.size) := (only_setCell (only_setCell (World.grownBy.refl _ _) 0 _) 1 _)
  exact ⟨⟨n, _, T, _, Q0, rfl, rdb_base (rdb_gro HT.out hg (by omega)) (by omega), rdb_base (rdb_gro HQ0.out hg (by omega)) (by omega), b1⟩, bel_grown HB1.out hg (fun q e => Nat.le_of_eq (Option.some.inj e))⟩
set_option maxRecDepth 100000 in
set_option maxHeartbeats 4000000 in
theorem dDrawBestFurther_b (v : Value) (l : List Int) (hn : l.length ≤ 9223372036854775807) (hl : BytesOk l) (w : World) (hr : Rd w v l.length (bys l)) :
    Calls Try.prog 34 #[v] w fun e w' => (∃ (n : Int) (s : Value) (T : List St) (q0 : Value) (Q0 : List Int) (i1 : Int), e = .returned (.tuple #[.agg #[.int .i64 n, s], q0, .int .i64 i1]) ∧ RdB (w.heap.size + 1) w' s T.length (T.flatMap St.cells) ∧ RdB (w.heap.size + 1) w' q0 Q0.length (ints Q0) ∧ Q0.length ≤ 8) ∧ Below w.heap.size w w' := by
  have HB9 := Lib.hid hr
  have HL := Lib.hid hl
  obtain ⟨A0, c0, rfl, _⟩ := hr
  clear hl
  go_enter Try.func34, Try.ntmps34
  go_upto_region 1 with fail
  generalize hW : World.alloc w _ = W0
  have hf0 : FreshT W0 w.heap.size := by subst hW; exact fresh_new w _ rfl
  have hb0 : Below w.heap.size w W0 := by subst hW; exact bel_al (Below.refl _ _) _
  have sz0 : W0.heap.size = w.heap.size + 1 := by subst hW; simp
  have HF := Lib.hid hf0
  have HB0 := Lib.hid hb0
  have HRd := Lib.hid (rd_below HB9.out hb0)
  have HSZ := Lib.hid sz0
  have sz0' : w.heap.size < W0.heap.size := by omega
  clear hW hf0 hb0 sz0
  go_wp2_with fail
  refine (dDrawCoveredNodes_b _ l hn HL.out W0 HRd.out).mono ?_; rintro e W1 ⟨⟨n, s, T, q0, Q0, i1, he, h0, h1, b1⟩, hb⟩
  subst he
  have HF1 := Lib.hid (own_below HF.out hb : FreshT W1 w.heap.size)
  obtain ⟨At, ct, rfl⟩ := rd_of h0.1
  have HT := Lib.hid h0
  have HQ0 := Lib.hid h1
  clear h1
  have HB1 := Lib.hid (bel_then HB0.out hb)
  clear h0 hb
  have r0 := fresh_c0 HF1.out
  have r1 := fresh_c1 HF1.out
  have f0 := fresh_f HF1.out 0
  have f1 := fresh_f HF1.out 1
  go_wp2
  refine bodyPost_ret (v := .tuple #[.agg #[.int .i64 n, .slice At T.length ct], q0, .int .i64 i1]) (by simp [results, Try.results34, go_sem, r0, r1]) rfl ?_
  have hg : W1.grownBy ((W1.setCell ⟨w.heap.size, 0, none⟩ (.int .i64 n)).setCell ⟨w.heap.size, 1, none⟩ (.slice At T.length ct)) (some w.heap.size) := (only_setCell (only_setCell (World.grownBy.refl _ _) 0 _) 1 _)
  exact ⟨⟨n, _, T, _, Q0, _, rfl, rdb_base (rdb_gro HT.out hg (by omega)) (by omega), rdb_base (rdb_gro HQ0.out hg (by omega)) (by omega), b1⟩, bel_grown HB1.out hg (fun q e => Nat.le_of_eq (Option.some.inj e))⟩
set_option maxRecDepth 100000 in
set_option maxHeartbeats 4000000 in
theorem dDrawFillStations_b (v : Value) (l : List Int) (hn : l.length ≤ 9223372036854775807) (hl : BytesOk l) (w : World) (hr : Rd w v l.length (bys l)) :
    Calls Try.prog 37 #[v] w fun e w' => (∃ (n : Int) (s : Value) (T : List St) (q0 : Value) (Q0 : List Int) (q1 : Value) (Q1 : List Int) (i2 : Int), e = .returned (.tuple #[.agg #[.int .i64 n, s], q0, q1, .int .i64 i2]) ∧ RdB (w.heap.size + 1) w' s T.length (T.flatMap St.cells) ∧ RdB (w.heap.size + 1) w' q0 Q0.length (ints Q0) ∧ Q0.length ≤ 8 ∧ RdB (w.heap.size + 1) w' q1 Q1.length (ints Q1) ∧ Q1.length ≤ 8) ∧ Below w.heap.size w w' := by
  have HB9 := Lib.hid hr
  have HL := Lib.hid hl
  obtain ⟨A0, c0, rfl, _⟩ := hr
  clear hl
  go_enter Try.func37, Try.ntmps37
  go_upto_region 1 with fail
  generalize hW : World.alloc w _ = W0
  have hf0 : FreshT W0 w.heap.size := by subst hW; exact fresh_new w _ rfl
  have hb0 : Below w.heap.size w W0 := by subst hW; exact bel_al (Below.refl _ _) _
  have sz0 : W0.heap.size = w.heap.size + 1 := by subst hW; simp
  have HF := Lib.hid hf0
  have HB0 := Lib.hid hb0
  have HRd := Lib.hid (rd_below HB9.out hb0)
  have HSZ := Lib.hid sz0
  have sz0' : w.heap.size < W0.heap.size := by omega
  clear hW hf0 hb0 sz0
  go_wp2_with fail
  refine (dDrawReachTable_b _ l hn HL.out W0 HRd.out).mono ?_; rintro e W1 ⟨⟨n, s, T, q0, Q0, q1, Q1, i2, he, h0, h1, b1, h2, b2⟩, hb⟩
  subst he
  have HF1 := Lib.hid (own_below HF.out hb : FreshT W1 w.heap.size)
  obtain ⟨At, ct, rfl⟩ := rd_of h0.1
  have HT := Lib.hid h0
  have HQ0 := Lib.hid h1
  clear h1
  have HQ1 := Lib.hid h2
  clear h2
  have HB1 := Lib.hid (bel_then HB0.out hb)
  clear h0 hb
  have r0 := fresh_c0 HF1.out
  have r1 := fresh_c1 HF1.out
  have f0 := fresh_f HF1.out 0
  have f1 := fresh_f HF1.out 1
  go_wp2
  refine bodyPost_ret (v := .tuple #[.agg #[.int .i64 n, .slice At T.length ct], q0, q1, .int .i64 i2]) (by simp [results, Try.results37, go_sem, r0, r1]) rfl ?_
  have hg : W1.grownBy ((W1.setCell ⟨w.heap.size, 0, none⟩ (.int .i64 n)).setCell ⟨w.heap.size, 1, none⟩ (.slice At T.length ct)) (some w.heap.size) := (only_setCell (only_setCell (World.grownBy.refl _ _) 0 _) 1 _)
  exact ⟨⟨n, _, T, _, Q0, _, Q1, _, rfl, rdb_base (rdb_gro HT.out hg (by omega)) (by omega), rdb_base (rdb_gro HQ0.out hg (by omega)) (by omega), b1, rdb_base (rdb_gro HQ1.out hg (by omega)) (by omega), b2⟩, bel_grown HB1.out hg (fun q e => Nat.le_of_eq (Option.some.inj e))⟩
set_option maxRecDepth 100000 in
set_option maxHeartbeats 4000000 in
theorem dDrawFewestStations_b (v : Value) (l : List Int) (hn : l.length ≤ 9223372036854775807) (hl : BytesOk l) (w : World) (hr : Rd w v l.length (bys l)) :
    Calls Try.prog 17 #[v] w fun e w' => (∃ (n : Int) (s : Value) (T : List St) (i0 : Int), e = .returned (.tuple #[.agg #[.int .i64 n, s], .int .i64 i0]) ∧ RdB (w.heap.size + 1) w' s T.length (T.flatMap St.cells)) ∧ Below w.heap.size w w' := by
  have HB9 := Lib.hid hr
  have HL := Lib.hid hl
  obtain ⟨A0, c0, rfl, _⟩ := hr
  clear hl
  go_enter Try.func17, Try.ntmps17
  go_upto_region 1 with fail
  generalize hW : World.alloc w _ = W0
  have hf0 : FreshT W0 w.heap.size := by subst hW; exact fresh_new w _ rfl
  have hb0 : Below w.heap.size w W0 := by subst hW; exact bel_al (Below.refl _ _) _
  have sz0 : W0.heap.size = w.heap.size + 1 := by subst hW; simp
  have HF := Lib.hid hf0
  have HB0 := Lib.hid hb0
  have HRd := Lib.hid (rd_below HB9.out hb0)
  have HSZ := Lib.hid sz0
  have sz0' : w.heap.size < W0.heap.size := by omega
  clear hW hf0 hb0 sz0
  go_upto_region 2 with fail
  generalize hW : World.alloc W0 _ = W1
  have hc := cur_new W0 _ l HRd.out hn W1 (by subst hW; simp [go_sem]) (by subst hW; simp [go_sem]) (by subst hW; simp [go_sem]) (by subst hW; simp [go_sem]) (by subst hW; simp [go_sem]) (by subst hW; exact bel_al (Below.refl _ _) _)
  have hb1 : Below W0.heap.size W0 W1 := by subst hW; exact bel_al (Below.refl _ _) _
  have HF := Lib.hid (own_below HF.out hb1 : FreshT W1 w.heap.size)
  have HB1 := Lib.hid hb1
  have sz1 := hb1.size
  obtain ⟨B, hBd⟩ : ∃ B, W0.heap.size = B := ⟨_, rfl⟩
  rw [hBd] at hc ⊢
  have HBD := Lib.hid hBd
  have hwB : w.heap.size < B := by omega
  have hwB1 : B ≤ w.heap.size + 1 := by have := HSZ.out; omega
  have hBb : B < W1.heap.size := hc.lt
  obtain ⟨a, ha0, ha1⟩ : ∃ a : Nat, a = 0 ∧ a ≤ 0 := ⟨0, rfl, Nat.le_refl _⟩
  rw [← ha0] at hc
  have HD := Lib.hid (Drew.refl hc 0)
  clear hW hb1 hBd hc ha0
  go_wp2_with fail
  refine (anyTown_c B l HL.out (a + 0) (by omega) _ HD.out.1).mono ?_; rintro e W2 ⟨n, v, L, rfl, ho, hd⟩
  obtain ⟨Av, cv, rfl, -⟩ := own_rd ho
  have HD := Lib.hid (HD.out.trans hd)
  have HF := Lib.hid (fresh_gro HF.out hd.2 (by omega))
  have HO := Lib.hid (rdb_base (rdb_own ho) (by omega : W1.heap.size ≤ W1.heap.size))
  have sz2 := hd.2.size
  clear hd ho
  go_wp2_with fail
  refine (limitSeconds_c B l HL.out (a + (0 + 4300)) (by omega) _ HD.out.1).mono ?_; rintro e W3 ⟨lim, rfl, hd⟩
  have HDD := Lib.hid (HD.out.trans hd)
  have HF := Lib.hid (fresh_gro HF.out hd.2 (by omega))
  have HO := Lib.hid (rdb_gro HO.out hd.2 hBb)
  clear hd
  have r0 := fresh_c0 HF.out
  have r1 := fresh_c1 HF.out
  have f0 := fresh_f HF.out 0
  have f1 := fresh_f HF.out 1
  go_wp2
  have HOO : Below W0.heap.size W0 W3 := by have h := HDD.out; rw [← HBD.out] at h; exact Drew.out HB1.out h
  refine bodyPost_ret (v := .tuple #[.agg #[.int .i64 n, .slice Av L.length cv], .int .i64 lim]) (by simp [results, Try.results17, go_sem, r0, r1]) rfl ?_
  have hg : World.grownBy W3 ((World.setCell W3 ⟨w.heap.size, 0, none⟩ (.int .i64 n)).setCell ⟨w.heap.size, 1, none⟩ (.slice Av L.length cv)) (some w.heap.size) := (only_setCell (only_setCell (World.grownBy.refl _ _) 0 _) 1 _)
  exact ⟨⟨n, _, L, _, rfl, rdb_base (rdb_gro HO.out hg (by omega)) (by omega)⟩, bel_grown (bel_then HB0.out HOO) hg (fun q e => Nat.le_of_eq (Option.some.inj e))⟩
set_option maxRecDepth 100000 in
set_option maxHeartbeats 4000000 in
theorem dDrawLostWithout_b (v : Value) (l : List Int) (hn : l.length ≤ 9223372036854775807) (hl : BytesOk l) (w : World) (hr : Rd w v l.length (bys l)) :
    Calls Try.prog 30 #[v] w fun e w' => (∃ (n : Int) (s : Value) (T : List St) (q0 : Value) (Q0 : List Int) (i1 : Int) (i2 : Int), e = .returned (.tuple #[.agg #[.int .i64 n, s], q0, .int .i64 i1, .int .i64 i2]) ∧ RdB (w.heap.size + 1) w' s T.length (T.flatMap St.cells) ∧ RdB (w.heap.size + 1) w' q0 Q0.length (ints Q0) ∧ Q0.length ≤ 8) ∧ Below w.heap.size w w' := by
  have HB9 := Lib.hid hr
  have HL := Lib.hid hl
  obtain ⟨A0, c0, rfl, _⟩ := hr
  clear hl
  go_enter Try.func30, Try.ntmps30
  go_upto_region 1 with fail
  generalize hW : World.alloc w _ = W0
  have hf0 : FreshT W0 w.heap.size := by subst hW; exact fresh_new w _ rfl
  have hb0 : Below w.heap.size w W0 := by subst hW; exact bel_al (Below.refl _ _) _
  have sz0 : W0.heap.size = w.heap.size + 1 := by subst hW; simp
  have HF := Lib.hid hf0
  have HB0 := Lib.hid hb0
  have HRd := Lib.hid (rd_below HB9.out hb0)
  have HSZ := Lib.hid sz0
  have sz0' : w.heap.size < W0.heap.size := by omega
  clear hW hf0 hb0 sz0
  go_upto_region 2 with fail
  generalize hW : World.alloc W0 _ = W1
  have hc := cur_new W0 _ l HRd.out hn W1 (by subst hW; simp [go_sem]) (by subst hW; simp [go_sem]) (by subst hW; simp [go_sem]) (by subst hW; simp [go_sem]) (by subst hW; simp [go_sem]) (by subst hW; exact bel_al (Below.refl _ _) _)
  have hb1 : Below W0.heap.size W0 W1 := by subst hW; exact bel_al (Below.refl _ _) _
  have HF := Lib.hid (own_below HF.out hb1 : FreshT W1 w.heap.size)
  have HB1 := Lib.hid hb1
  have sz1 := hb1.size
  obtain ⟨B, hBd⟩ : ∃ B, W0.heap.size = B := ⟨_, rfl⟩
  rw [hBd] at hc ⊢
  have HBD := Lib.hid hBd
  have hwB : w.heap.size < B := by omega
  have hwB1 : B ≤ w.heap.size + 1 := by have := HSZ.out; omega
  have hBb : B < W1.heap.size := hc.lt
  obtain ⟨a, ha0, ha1⟩ : ∃ a : Nat, a = 0 ∧ a ≤ 0 := ⟨0, rfl, Nat.le_refl _⟩
  rw [← ha0] at hc
  have HD := Lib.hid (Drew.refl hc 0)
  clear hW hb1 hBd hc ha0
  go_wp2_with fail
  refine (anyTown_c B l HL.out (a + 0) (by omega) _ HD.out.1).mono ?_; rintro e W2 ⟨n, v, L, rfl, ho, hd⟩
  obtain ⟨Av, cv, rfl, -⟩ := own_rd ho
  have HD := Lib.hid (HD.out.trans hd)
  have HF := Lib.hid (fresh_gro HF.out hd.2 (by omega))
  have HO := Lib.hid (rdb_base (rdb_own ho) (by omega : W1.heap.size ≤ W1.heap.size))
  have sz2 := hd.2.size
  clear hd ho
  go_upto_region 3 with fail
  generalize hW : World.alloc W2 _ = W3
  have ht : W3.ownsRow W1.heap.size 26 2 (.slice (some ⟨W2.heap.size, 0, none⟩) 1 1) 1 [.int .i64 n, .slice Av L.length cv] := by subst hW; exact own_base (row_new W2 _ _ 1 2 rfl (by omega) (by omega)) (by omega)
  have hbl : Below W2.heap.size W2 W3 := by subst hW; exact bel_al (Below.refl _ _) _
  have sz3 : W2.heap.size < W3.heap.size := by subst hW; simp
  obtain ⟨RT, hRT⟩ : ∃ RT, W2.heap.size = RT := ⟨_, rfl⟩
  have hRTw : w.heap.size < RT := by omega
  have hRTB : RT ≠ B := by omega
  rw [hRT] at ht sz3 ⊢
  have HD := Lib.hid (HD.out.bel hbl)
  have HF := Lib.hid (own_below HF.out hbl : FreshT W3 w.heap.size)
  have HO := Lib.hid (rdb_bel HO.out hbl)
  have HT := Lib.hid ht
  have sw3 : W1.heap.size ≤ W3.heap.size := by omega
  clear hW ht hbl hRT
  have t0 := HT.out.cellAt 0 (by omega)
  have t1 := HT.out.cellAt 1 (by omega)
  dsimp only [List.getElem?_cons_zero, List.getElem?_cons_succ] at t0 t1
  go_wp2_with fail
  refine (stationsOf_c B l HL.out (a + (0 + 4300)) (by omega) _ HD.out.1 n Av L.length cv).mono ?_; rintro e W4 ⟨vs, QS, rfl, ho, hQS, hd⟩
  have HQS : Hid (RdB W1.heap.size W4 vs QS.length (ints QS)) := Lib.hid (rdb_base (rdb_ints ho) (by omega))
  obtain ⟨As, cs, rfl, -⟩ := HQS.out.1
  have HD := Lib.hid (HD.out.trans hd)
  have HF := Lib.hid (fresh_gro HF.out hd.2 (by omega))
  have HO := Lib.hid (rdb_gro HO.out hd.2 hBb)
  have HT := Lib.hid (own_draw HT.out hd.2 hBb)
  have sz4 := hd.2.size
  have sz3' : RT < W4.heap.size := by omega
  clear hd ho t0 t1 sz3
  have sz3 := sz3'
  obtain ⟨A, hA⟩ : ∃ A : Nat, a + (0 + 4300 + 20) = A := ⟨_, rfl⟩
  have hA1 : A ≤ 5000 := by omega
  have HDb : Hid (Drew B l A 0 W4 W4) := Lib.hid (by have h := Drew.refl HD.out.1 0; rw [hA] at h; exact h)
  have e1 : IntKind.i64.wrap ((QS.length : Int) + 1) = (QS.length : Int) + 1 := IntWalk.i64_in _ (by omega)
  have e2 : Hid (IntKind.i64.wrap ((QS.length : Int) + 1) ≤ 4294967296) := Lib.hid (by rw [e1]; omega)
  clear e1
  have t0 := HT.out.cellAt 0 (by omega)
  have t1 := HT.out.cellAt 1 (by omega)
  dsimp only [List.getElem?_cons_zero, List.getElem?_cons_succ] at t0 t1
  have r0 := fresh_c0 HF.out
  have r1 := fresh_c1 HF.out
  have f0 := fresh_f HF.out 0
  have f1 := fresh_f HF.out 1
  have tb0 := t0
  have tb1 := t1
  have rb0 := r0
  have rb1 := r1
  have fb0 := f0
  have fb1 := f1
  have hwne : w.heap.size ≠ B := by omega
  have sww : w.heap.size < W4.heap.size := by omega
  have hRw : RT ≠ w.heap.size := by omega
  go_wp2_with fail
  go_region_held3 (fun W' => W'.cell? ⟨RT, 0, none⟩ = some (.int .i64 n) ∧ W'.cell? ⟨RT, 1, none⟩ = some (.slice Av L.length cv)) (first | (with_reducible exact ⟨t0, t1⟩) | (refine ⟨?_, ?_⟩ <;> ((repeat' (first | (with_reducible assumption) | (with_reducible apply cell_drw) | (with_reducible apply cellAl) | (with_reducible refine cell_set_ne ?_ (by omega)))); done))) (first | (have _q := HD6; go_at_call 56; refine (limitSeconds_c B l HL.out (A + 4) (by omega) _ (HD6.out.1.below (by ((repeat' (first | (with_reducible exact Below.refl _ _) | (with_reducible apply bel_al) | (with_reducible apply bel_dr))); done)))).mono ?_; rintro e W7 ⟨lim, rfl, hd⟩; have d7 := (HD6.out.bel (by ((repeat' (first | (with_reducible exact Below.refl _ _) | (with_reducible apply bel_al) | (with_reducible apply bel_dr))); done))).trans hd; have t0 := (gro_cell d7.2 (o := 0) (x := RT) sz3 hRTB).trans tb0; have t1 := (gro_cell d7.2 (o := 1) (x := RT) sz3 hRTB).trans tb1; have r0 := (gro_cell d7.2 (o := 0) (x := w.heap.size) sww hwne).trans rb0; have r1 := (gro_cell d7.2 (o := 1) (x := w.heap.size) sww hwne).trans rb1; have f0 := (gro_frozen d7.2 (o := 0) (x := w.heap.size) sww hwne).trans fb0; have f1 := (gro_frozen d7.2 (o := 1) (x := w.heap.size) sww hwne).trans fb1; have sz7 := d7.2.size; have HO := Lib.hid (rdb_gro (rdb_bel HO.out (by ((repeat' (first | (with_reducible exact Below.refl _ _) | (with_reducible apply bel_al) | (with_reducible apply bel_dr))); done))) hd.2 hBb); have HQS := Lib.hid (rdb_gro (rdb_bel HQS.out (by ((repeat' (first | (with_reducible exact Below.refl _ _) | (with_reducible apply bel_al) | (with_reducible apply bel_dr))); done))) hd.2 hBb); have HD7 := Lib.hid d7; clear d7 hd) | (have _q := HD5; go_at_call 83; refine (among_at HL.out HD5.out (by ((repeat' (first | (with_reducible exact Below.refl _ _) | (with_reducible apply bel_al) | (with_reducible apply bel_dr))); done)) (by omega) [0, 0, 1, (x : Int), (QS.length : Int), -1] (by simp) (by simp) (by ((repeat' (first | (refine rs_new (q := [0, 0, 1, (x : Int), (QS.length : Int), -1]) (HD5.out.1) ?_ (by simp) ?_; rotate_left; (first | rfl | simp); (((repeat' (first | (with_reducible exact Below.refl _ _) | (with_reducible apply bel_al) | (with_reducible apply bel_dr))); done))) | (with_reducible apply rs_dr) | (with_reducible apply rs_al))); done))).mono ?_; rintro e W6 ⟨y, rfl, d6, hg⟩; have t0 := (gro_cell d6.2 (o := 0) (x := RT) sz3 hRTB).trans tb0; have t1 := (gro_cell d6.2 (o := 1) (x := RT) sz3 hRTB).trans tb1; have r0 := (gro_cell d6.2 (o := 0) (x := w.heap.size) sww hwne).trans rb0; have r1 := (gro_cell d6.2 (o := 1) (x := w.heap.size) sww hwne).trans rb1; have f0 := (gro_frozen d6.2 (o := 0) (x := w.heap.size) sww hwne).trans fb0; have f1 := (gro_frozen d6.2 (o := 1) (x := w.heap.size) sww hwne).trans fb1; have sz6 := d6.2.size; have HO := Lib.hid (rdb_gro (rdb_bel HO.out (by ((repeat' (first | (with_reducible exact Below.refl _ _) | (with_reducible apply bel_al) | (with_reducible apply bel_dr))); done))) hg hBb); have HQS := Lib.hid (rdb_gro (rdb_bel HQS.out (by ((repeat' (first | (with_reducible exact Below.refl _ _) | (with_reducible apply bel_al) | (with_reducible apply bel_dr))); done))) hg hBb); have HD6 := Lib.hid d6; clear d6 hg) | (go_at_call 84; refine (pick_c B l HL.out (A + 0) (by omega) (IntKind.i64.wrap ((QS.length : Int) + 1)) e2.out _ (HDb.out.1.below (by ((repeat' (first | (with_reducible exact Below.refl _ _) | (with_reducible apply bel_al) | (with_reducible apply bel_dr))); done)))).mono ?_; rintro e W5 ⟨x, rfl, hx, hd⟩; have d5 := (HDb.out.bel (by ((repeat' (first | (with_reducible exact Below.refl _ _) | (with_reducible apply bel_al) | (with_reducible apply bel_dr))); done))).trans hd; have t0 := (gro_cell d5.2 (o := 0) (x := RT) sz3 hRTB).trans tb0; have t1 := (gro_cell d5.2 (o := 1) (x := RT) sz3 hRTB).trans tb1; have r0 := (gro_cell d5.2 (o := 0) (x := w.heap.size) sww hwne).trans rb0; have r1 := (gro_cell d5.2 (o := 1) (x := w.heap.size) sww hwne).trans rb1; have f0 := (gro_frozen d5.2 (o := 0) (x := w.heap.size) sww hwne).trans fb0; have f1 := (gro_frozen d5.2 (o := 1) (x := w.heap.size) sww hwne).trans fb1; have sz5 := d5.2.size; have HO := Lib.hid (rdb_gro (rdb_bel HO.out (by ((repeat' (first | (with_reducible exact Below.refl _ _) | (with_reducible apply bel_al) | (with_reducible apply bel_dr))); done))) hd.2 hBb); have HQS := Lib.hid (rdb_gro (rdb_bel HQS.out (by ((repeat' (first | (with_reducible exact Below.refl _ _) | (with_reducible apply bel_al) | (with_reducible apply bel_dr))); done))) hd.2 hBb); have HD5 := Lib.hid d5; clear d5 hd))
  all_goals
    go_wp2
    have HDD := Lib.hid ((HD.out).trans (by rw [hA]; exact HD7.out))
    have HOO : Below W0.heap.size W0 W7 := by have h := HDD.out; rw [← HBD.out] at h; exact Drew.out HB1.out h
    refine bodyPost_ret (v := .tuple #[.agg #[.int .i64 n, .slice Av L.length cv], .slice As QS.length cs, .int .i64 y, .int .i64 lim]) (by simp [results, Try.results30, go_sem, r0, r1]) rfl ?_
    have hg : World.grownBy W7 ((World.setCell W7 ⟨w.heap.size, 0, none⟩ (.int .i64 n)).setCell ⟨w.heap.size, 1, none⟩ (.slice Av L.length cv)) (some w.heap.size) := (only_setCell (only_setCell (World.grownBy.refl _ _) 0 _) 1 _)
    exact ⟨⟨n, _, L, _, _, _, _, rfl, rdb_base (rdb_gro HO.out hg (by omega)) (by omega), rdb_base (rdb_gro HQS.out hg (by omega)) (by omega), by omega⟩, bel_grown (bel_then HB0.out HOO) hg (fun q e => Nat.le_of_eq (Option.some.inj e))⟩
end Go.Proofs.Ytahehdgkbhjpoaa

namespace Go.Proofs.Ytahehdgkbhjpoaa
set_option linter.unusedVariables false
set_option linter.unusedSimpArgs false
open Go.RowKit
theorem drawCoveredNodes_c (v : Value) (l : List Int) (hn : l.length ≤ 9223372036854775807) (hl : BytesOk l) (w : World) (hr : Rd w v l.length (bys l)) :
    Calls Try.prog 7 #[v] w fun e w' => (∃ (n : Int) (s : Value) (T : List St) (q0 : Value) (Q0 : List Int) (i1 : Int), e = .returned (.tuple #[.agg #[.int .i64 n, s], q0, .int .i64 i1]) ∧ Rd w' s T.length (T.flatMap St.cells) ∧ RdI w' q0 Q0) ∧ Below w.heap.size w w' :=
  (dDrawCoveredNodes_b v l hn hl w hr).mono fun _ _ ⟨⟨n, s, T, q0, Q0, i1, he, h0, h1, b1⟩, hb⟩ => ⟨⟨n, s, T, q0, Q0, i1, he, h0.1, h1.1⟩, hb⟩
theorem drawFewestStations_c (v : Value) (l : List Int) (hn : l.length ≤ 9223372036854775807) (hl : BytesOk l) (w : World) (hr : Rd w v l.length (bys l)) :
    Calls Try.prog 17 #[v] w fun e w' => (∃ (n : Int) (s : Value) (T : List St) (i0 : Int), e = .returned (.tuple #[.agg #[.int .i64 n, s], .int .i64 i0]) ∧ Rd w' s T.length (T.flatMap St.cells)) ∧ Below w.heap.size w w' :=
  (dDrawFewestStations_b v l hn hl w hr).mono fun _ _ ⟨⟨n, s, T, i0, he, h0⟩, hb⟩ => ⟨⟨n, s, T, i0, he, h0.1⟩, hb⟩
theorem drawWeakestNode_c (v : Value) (l : List Int) (hn : l.length ≤ 9223372036854775807) (hl : BytesOk l) (w : World) (hr : Rd w v l.length (bys l)) :
    Calls Try.prog 23 #[v] w fun e w' => (∃ (n : Int) (s : Value) (T : List St) (q0 : Value) (Q0 : List Int), e = .returned (.tuple #[.agg #[.int .i64 n, s], q0]) ∧ Rd w' s T.length (T.flatMap St.cells) ∧ RdI w' q0 Q0) ∧ Below w.heap.size w w' :=
  (dDrawWeakestNode_b v l hn hl w hr).mono fun _ _ ⟨⟨n, s, T, q0, Q0, he, h0, h1, b1⟩, hb⟩ => ⟨⟨n, s, T, q0, Q0, he, h0.1, h1.1⟩, hb⟩
theorem drawLostWithout_c (v : Value) (l : List Int) (hn : l.length ≤ 9223372036854775807) (hl : BytesOk l) (w : World) (hr : Rd w v l.length (bys l)) :
    Calls Try.prog 30 #[v] w fun e w' => (∃ (n : Int) (s : Value) (T : List St) (q0 : Value) (Q0 : List Int) (i1 : Int) (i2 : Int), e = .returned (.tuple #[.agg #[.int .i64 n, s], q0, .int .i64 i1, .int .i64 i2]) ∧ Rd w' s T.length (T.flatMap St.cells) ∧ RdI w' q0 Q0) ∧ Below w.heap.size w w' :=
  (dDrawLostWithout_b v l hn hl w hr).mono fun _ _ ⟨⟨n, s, T, q0, Q0, i1, i2, he, h0, h1, b1⟩, hb⟩ => ⟨⟨n, s, T, q0, Q0, i1, i2, he, h0.1, h1.1⟩, hb⟩
theorem drawBestFurther_c (v : Value) (l : List Int) (hn : l.length ≤ 9223372036854775807) (hl : BytesOk l) (w : World) (hr : Rd w v l.length (bys l)) :
    Calls Try.prog 34 #[v] w fun e w' => (∃ (n : Int) (s : Value) (T : List St) (q0 : Value) (Q0 : List Int) (i1 : Int), e = .returned (.tuple #[.agg #[.int .i64 n, s], q0, .int .i64 i1]) ∧ Rd w' s T.length (T.flatMap St.cells) ∧ RdI w' q0 Q0) ∧ Below w.heap.size w w' :=
  (dDrawBestFurther_b v l hn hl w hr).mono fun _ _ ⟨⟨n, s, T, q0, Q0, i1, he, h0, h1, b1⟩, hb⟩ => ⟨⟨n, s, T, q0, Q0, i1, he, h0.1, h1.1⟩, hb⟩
end Go.Proofs.Ytahehdgkbhjpoaa
