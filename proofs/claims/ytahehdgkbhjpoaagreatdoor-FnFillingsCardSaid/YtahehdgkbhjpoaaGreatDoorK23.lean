/-
  Draws of fillings (printed by gen_drawif.py). (joined by pack.py: DrawIf)
-/
import Derived.Test.YtahehdgkbhjpoaaGreatDoorK22
import Derived.Test.YtahehdgkbhjpoaaGreatDoorK11
import Derived.Test.YtahehdgkbhjpoaaGreatDoorK13
namespace Go.Proofs.YtahehdgkbhjpoaaGreatDoor
set_option linter.unusedVariables false
set_option linter.unusedSimpArgs false
open Go.RowKit

theorem ss_gro {w w' : World} {v : Value} {ls : List (List Int)} {base B : Nat} (h : SS w base v ls) (g : w.grownBy w' (some B)) (hB : B < base) : SS w' base v ls := by
  obtain ⟨vs, h⟩ := h
  exact ⟨vs, h.len, own_draw h.outer g hB, fun i u l hu hl => own_draw (h.inner i u l hu hl) g hB, h.sep, h.apart⟩
theorem bel_draw {w W W' : World} {B : Nat} (h : Below w.heap.size w W) (g : W.grownBy W' (some B)) (hB : w.heap.size ≤ B) : Below w.heap.size w W' := bel_grown h g (fun q e => by have := Option.some.inj e; omega)
set_option maxRecDepth 100000 in
set_option maxHeartbeats 4000000 in
theorem drawLeastFillLimit_c (v : Value) (l : List Int) (hn : l.length ≤ 9223372036854775807) (hl : BytesOk l) (w : World) (hr : Rd w v l.length (bys l)) :
    Calls Tryz.prog 4 #[v] w fun e w' => (∃ (n : Int) (s : Value) (T : List St) (p : Value) (P : List Int) (q : Value) (Q : List Int), e = .returned (.tuple #[.agg #[.int .i64 n, s], p, q]) ∧ Rd w' s T.length (T.flatMap St.cells) ∧ RdI w' p P ∧ RdI w' q Q) ∧ Below w.heap.size w w' := by
  have HB9 := Lib.hid hr
  have HL := Lib.hid hl
  obtain ⟨A0, c0, rfl, _⟩ := hr
  clear hl
  go_enter Tryz.func4, Tryz.ntmps4
  go_upto_region 1 with fail
  generalize hW : World.alloc w _ = W0
  have hf0 : FreshT W0 w.heap.size := by subst hW; exact fresh_new w _ rfl
  have hb0 : Below w.heap.size w W0 := by subst hW; exact bel_al (Below.refl _ _) _
  have sz0 : W0.heap.size = w.heap.size + 1 := by subst hW; simp
  have HF := Lib.hid hf0
  have HB0 := Lib.hid hb0
  have HRd := Lib.hid (rd_below HB9.out hb0)
  have HSZ := Lib.hid sz0
  have sz0' : w.heap.size < W0.heap.size := by omega
  clear hW hf0 hb0 sz0
  go_wp2_with fail
  refine (dDrawReachTable_b _ l hn HL.out W0 HRd.out).mono ?_; rintro e W1 ⟨⟨n, s, T, q0, Q0, q1, Q1, i2, he, h0, h1, b1, h2, b2⟩, hb⟩
  subst he
  have HF1 := Lib.hid (own_below HF.out hb : FreshT W1 w.heap.size)
  obtain ⟨At, ct, rfl⟩ := rd_of h0.1
  have HT := Lib.hid h0
  have HP := Lib.hid h1
  have HQ := Lib.hid h2
  have HB1 := Lib.hid (bel_then HB0.out hb)
  have sz1 := hb.size
  clear h0 h1 h2 hb
  go_upto_region 2 with fail
  generalize hW : World.alloc W1 _ = W2
  have hbl : Below W1.heap.size W1 W2 := by subst hW; exact bel_al (Below.refl _ _) _
  have t0 : W2.cell? ⟨W1.heap.size, 0, none⟩ = some (.int .i64 n) := by subst hW; simp [go_sem]
  have t1 : W2.cell? ⟨W1.heap.size, 1, none⟩ = some (.slice At T.length ct) := by subst hW; simp [go_sem]
  have HF2 := Lib.hid (own_below HF1.out hbl : FreshT W2 w.heap.size)
  have hne : w.heap.size ≠ W1.heap.size := by omega
  have hne2 : W1.heap.size ≠ w.heap.size := by omega
  have r0 := fresh_c0 HF2.out
  have r1 := fresh_c1 HF2.out
  have f0 := fresh_f HF2.out 0
  have f1 := fresh_f HF2.out 1
  have HBL := Lib.hid hbl
  clear hW hbl
  go_wp2
  refine bodyPost_ret (v := .tuple #[.agg #[.int .i64 n, .slice At T.length ct], q0, q1]) (by simp [results, Tryz.results4, go_sem, r0, r1, t0, t1, hne, hne2]) rfl ?_
  have hg : W2.grownBy ((W2.setCell ⟨w.heap.size, 0, none⟩ (.int .i64 n)).setCell ⟨w.heap.size, 1, none⟩ (.slice At T.length ct)) (some w.heap.size) := (only_setCell (only_setCell (World.grownBy.refl _ _) 0 _) 1 _)
  exact ⟨⟨n, _, T, _, Q0, _, Q1, rfl, (rdb_gro (rdb_bel HT.out HBL.out) hg (by omega)).1, (rdb_gro (rdb_bel HP.out HBL.out) hg (by omega)).1, (rdb_gro (rdb_bel HQ.out HBL.out) hg (by omega)).1⟩, bel_grown (bel_then HB1.out HBL.out) hg (fun q e => Nat.le_of_eq (Option.some.inj e))⟩
set_option maxRecDepth 100000 in
set_option maxHeartbeats 8000000 in
theorem dDrawIsFilling_b (v : Value) (l : List Int) (hn : l.length ≤ 9223372036854775807) (hl : BytesOk l) (w : World) (hr : Rd w v l.length (bys l)) :
    Calls Tryz.prog 7 #[v] w fun e w' => (∃ (n : Int) (s : Value) (T : List St) (p : Value) (P : List Int) (q : Value) (Q : List Int) (i2 : Int) (x : Value) (X : List Int), e = .returned (.tuple #[.agg #[.int .i64 n, s], p, q, .int .i64 i2, x]) ∧ RdB (w.heap.size + 1) w' s T.length (T.flatMap St.cells) ∧ RdB (w.heap.size + 1) w' p P.length (ints P) ∧ RdB (w.heap.size + 1) w' q Q.length (ints Q) ∧ RdB (w.heap.size + 1) w' x X.length (ints X)) ∧ Below w.heap.size w w' := by
  have HB9 := Lib.hid hr
  have HL := Lib.hid hl
  obtain ⟨A0, c0, rfl, _⟩ := hr
  obtain ⟨i0, hi, hz0, hz1, hz2⟩ := info_parts Tryz.infoInt
  clear hl
  go_enter Tryz.func7, Tryz.ntmps7
  go_upto_region 1 with fail
  generalize hW : World.alloc w _ = W0
  have hf0 : FreshT W0 w.heap.size := by subst hW; exact fresh_new w _ rfl
  have hb0 : Below w.heap.size w W0 := by subst hW; exact bel_al (Below.refl _ _) _
  have sz0 : W0.heap.size = w.heap.size + 1 := by subst hW; simp
  have HF := Lib.hid hf0
  have HB0 := Lib.hid hb0
  have HRd := Lib.hid (rd_below HB9.out hb0)
  have HSZ := Lib.hid sz0
  have sz0' : w.heap.size < W0.heap.size := by omega
  clear hW hf0 hb0 sz0
  go_upto_region 2 with fail
  generalize hW : World.alloc W0 _ = W1
  have hc := cur_new W0 _ l HRd.out hn W1 (by subst hW; simp [go_sem]) (by subst hW; simp [go_sem]) (by subst hW; simp [go_sem]) (by subst hW; simp [go_sem]) (by subst hW; simp [go_sem]) (by subst hW; exact bel_al (Below.refl _ _) _)
  have hb1 : Below W0.heap.size W0 W1 := by subst hW; exact bel_al (Below.refl _ _) _
  have HF := Lib.hid (own_below HF.out hb1 : FreshT W1 w.heap.size)
  have HB1 := Lib.hid (bel_then HB0.out hb1)
  have HRd := Lib.hid (rd_below HRd.out hb1)
  have sz1 := hb1.size
  obtain ⟨B, hBd⟩ : ∃ B, W0.heap.size = B := ⟨_, rfl⟩
  rw [hBd] at hc ⊢
  have hwB : w.heap.size < B := by omega
  have hwB1 : B ≤ w.heap.size + 1 := by have := HSZ.out; omega
  have hBb : B < W1.heap.size := hc.lt
  have HC := Lib.hid hc
  have HBD := Lib.hid hBd
  clear hW hb1 hBd hc
  go_wp2_with fail
  refine (dDrawReachTable_b _ l hn HL.out W1 HRd.out).mono ?_; rintro e W2 ⟨⟨n, s, T, q0, Q0, q1, Q1, i2, he, h0, h1, b1, h2, b2⟩, hb⟩
  subst he
  obtain ⟨At, ct, rfl⟩ := rd_of h0.1
  obtain ⟨Ap, cp, rfl⟩ := rd_of h1.1
  obtain ⟨Aq, cq, rfl⟩ := rd_of h2.1
  have HC := Lib.hid (HC.out.below hb)
  have HF := Lib.hid (own_below HF.out hb : FreshT W2 w.heap.size)
  have HB2 := Lib.hid (bel_then HB1.out hb)
  have HT := Lib.hid h0
  have HP := Lib.hid h1
  have HQ := Lib.hid h2
  have sz2 := hb.size
  clear h0 h1 h2 hb
  go_upto_region 3 with fail
  generalize hW : World.alloc W2 _ = W3
  have hbl : Below W2.heap.size W2 W3 := by subst hW; exact bel_al (Below.refl _ _) _
  have t0 : W3.cell? ⟨W2.heap.size, 0, none⟩ = some (.int .i64 n) := by subst hW; simp [go_sem]
  have t1 : W3.cell? ⟨W2.heap.size, 1, none⟩ = some (.slice At T.length ct) := by subst hW; simp [go_sem]
  have sz3 : W2.heap.size < W3.heap.size := by subst hW; simp
  obtain ⟨RT, hRT⟩ : ∃ RT, W2.heap.size = RT := ⟨_, rfl⟩
  have HC := Lib.hid (HC.out.below hbl)
  have HF := Lib.hid (own_below HF.out hbl : FreshT W3 w.heap.size)
  have HB3 := Lib.hid (bel_then HB2.out hbl)
  have HT := Lib.hid (rdb_bel HT.out hbl)
  have HP := Lib.hid (rdb_bel HP.out hbl)
  have HQ := Lib.hid (rdb_bel HQ.out hbl)
  rw [hRT] at t0 t1 sz3 ⊢
  have hRTw : w.heap.size < RT := by omega
  have hRTB : RT ≠ B := by omega
  clear hW hbl hRT
  obtain ⟨ok, hok⟩ : ∃ b, askM n T Q0 Q1 i2 = b := ⟨_, rfl⟩
  obtain ⟨TB, hTB⟩ : ∃ z, (reachTableV n T Q0 Q1 i2).1 = z := ⟨_, rfl⟩
  have hTB2 : (reachTableV n T Q0 Q1 i2).2 = ok := by
    unfold reachTableV; split <;> rename_i h
    · rw [← hok, h]
    · simp at h; rw [← hok, h]
  have HOK := Lib.hid hok
  have HTB := Lib.hid hTB
  have HTB2 := Lib.hid hTB2
  clear hok hTB hTB2
  go_wp2_with fail
  refine (reachTableS_c n _ T _ Q0 _ Q1 i2 _ HT.out.1 HP.out.1 HQ.out.1).mono ?_; unfold OwnSB; rw [HTB.out, HTB2.out]; rintro e W4 ⟨vt, rfl, hot, hb⟩
  have HC := Lib.hid (HC.out.below hb)
  have HF := Lib.hid (own_below HF.out hb : FreshT W4 w.heap.size)
  have HB4 := Lib.hid (bel_then HB3.out hb)
  have HT := Lib.hid (rdb_bel HT.out hb)
  have HP := Lib.hid (rdb_bel HP.out hb)
  have HQ := Lib.hid (rdb_bel HQ.out hb)
  have tb0 := (hb.cell (p := ⟨RT, 0, none⟩) sz3).trans t0
  have tb1 := (hb.cell (p := ⟨RT, 1, none⟩) sz3).trans t1
  have sz4 : RT < W4.heap.size := Nat.lt_of_lt_of_le sz3 hb.size
  have hs34 := hb.size
  have HSS := Lib.hid hot
  clear hb hot t0 t1
  have rb0 := fresh_c0 HF.out
  have rb1 := fresh_c1 HF.out
  have fb0 := fresh_f HF.out 0
  have fb1 := fresh_f HF.out 1
  have hwne : w.heap.size ≠ B := by omega
  have sww : w.heap.size < W4.heap.size := by omega
  have hne : w.heap.size ≠ RT := by omega
  have hne2 : RT ≠ w.heap.size := by omega
  have hBW4 : B < W4.heap.size := by omega
  have HD0 : Hid (Drew B l 0 0 W4 W4) := Lib.hid (Drew.refl HC.out 0)
  cases ok with
  | true =>
    go_wp2_with fail
    refine (one_c B l HL.out (0 + 0) (by omega) 2 (by omega) _ HD0.out.1).mono ?_; rintro e W5 ⟨b, rfl, hd⟩
    have HD5 := Lib.hid (HD0.out.trans hd)
    clear hd
    cases b with
    | false =>
      go_wp2_with fail
      go_loopw [15, 67] (fun vo vi wr => ∃ (j : Nat) (X : List Int) (A : Option Addr) (c : Nat), j ≤ Q1.length ∧ vi = .int .i64 j ∧ vo = .slice A X.length c ∧ X.length = j ∧ Hid (wr.ownsRow W4.heap.size 3 1 (.slice A X.length c) X.length (ints X)) ∧ Hid (Drew B l 0 (2 + 2 * j) W4 wr)) (fun _ vi _ => Q1.length - (intOf vi).toNat)
      case atStart => exact ⟨0, [], none, 0, Nat.zero_le _, rfl, rfl, rfl, Lib.hid (World.ownsRow_nil _ _ _ _), HD5⟩
      case round =>
        obtain ⟨j, X, A, c, hj, rfl, rfl, hXj, HX, HDR⟩ := hrel
        have hXl : X.length ≤ 8 := by omega
        have HXJ := Lib.hid hXj
        clear hXj
        obtain ⟨wA, rfl⟩ : ∃ wA : World, wA = wr := ⟨_, rfl⟩
        by_cases hlt : j < Q1.length
        · have hlt2 : (j : Int) < (Q1.length : Int) := by omega
          have e1 : IntKind.i64.wrap ((Q0.length : Int) + 2) = (Q0.length : Int) + 2 := IntWalk.i64_in _ (by omega)
          go_wp2_with fail
          refine (pick_c B l HL.out (0 + (2 + 2 * j)) (by omega) ((Q0.length : Int) + 2) (by omega) _ HDR.out.1).mono ?_; rintro e W8 ⟨x, rfl, hxb, hd⟩
          have HX := Lib.hid (own_draw HX.out hd.2 hBW4)
          have HD8 := Lib.hid (HDR.out.trans hd)
          clear hd e1
          have hs8 := HD8.out.2.size
          have s1 : IntKind.i64.wrap ((x : Int) - 1) = (x : Int) - 1 := IntWalk.i64_in _ (by omega)
          go_wp2_with (at_builtin; go_loud (refine wpList_app_rd _ rfl _ _ 26 rfl W4.heap.size 3 i0 (.int .i64 0) 1 8 Tryz.underlying26 hi hz0 hz1 hz2 rfl (by decide) _ _ _ rfl (HX.out.alloc _) _ 1 [.int .i64 ((x : Int) - 1)] rfl (rd_new _ rfl (Nat.le_refl _) (by rw [maxLen_eq]; omega)) rfl (ints_one [((x : Int) - 1)]) (by rw [maxLen_eq]; omega) (by omega) (by simp; omega) ?_); intro v7 w7 hown7 hgrow7 _)
          obtain ⟨A7, c7, rfl, _⟩ := own_rd hown7
          have hlo := HX.out.lt
          have hB7 := HD8.out.app hgrow7 (fun q e => (hlo q e).1) hBW4
          refine ⟨⟨j + 1, X ++ [(x : Int) - 1], A7, c7, by omega, by go_num, by simp, by rw [List.length_append, HXJ.out]; rfl, Lib.hid ?_, Lib.hid (hB7.more (by omega))⟩, by simp [intOf]; omega⟩
          rw [ints_append, List.length_append]; exact hown7
        · obtain rfl : j = Q1.length := by omega
          go_wp2_with fail
          refine (one_c B l HL.out (0 + (2 + 2 * Q1.length)) (by omega) 12 (by omega) _ HDR.out.1).mono ?_; rintro e W8 ⟨b, rfl, hd⟩
          have HX := Lib.hid (own_draw HX.out hd.2 hBW4)
          have HD8 := Lib.hid (HDR.out.trans hd)
          clear hd
          have hs8 := HD8.out.2.size
          cases b with
          | false =>
            obtain ⟨wE, rfl⟩ : ∃ x : World, x = W8 := ⟨_, rfl⟩
            have HGE := Lib.hid HD8.out.2
            have HBE := Lib.hid (bel_draw HB4.out HGE.out (by omega))
            have HXE := Lib.hid (rdb_ints HX.out)
            have t0 := (gro_cell HGE.out (o := 0) (x := RT) sz4 hRTB).trans tb0
            have t1 := (gro_cell HGE.out (o := 1) (x := RT) sz4 hRTB).trans tb1
            have r0 := (gro_cell HGE.out (o := 0) (x := w.heap.size) sww hwne).trans rb0
            have r1 := (gro_cell HGE.out (o := 1) (x := w.heap.size) sww hwne).trans rb1
            have f0 := (gro_frozen HGE.out (o := 0) (x := w.heap.size) sww hwne).trans fb0
            have f1 := (gro_frozen HGE.out (o := 1) (x := w.heap.size) sww hwne).trans fb1
            go_wp2
            refine bodyPost_ret (v := .tuple #[.agg #[.int .i64 n, .slice At T.length ct], .slice Ap Q0.length cp, .slice Aq Q1.length cq, .int .i64 i2, .slice A X.length c]) (by simp [results, Tryz.results7, go_sem, r0, r1, t0, t1, hne, hne2]) rfl ?_
            have hg : World.grownBy wE ((wE.setCell ⟨w.heap.size, 0, none⟩ (.int .i64 n)).setCell ⟨w.heap.size, 1, none⟩ (.slice At T.length ct)) (some w.heap.size) := (only_setCell (only_setCell (World.grownBy.refl _ _) 0 _) 1 _)
            have hq : ∀ {v : Value} {k : Nat} {xs : List Value}, RdB (W1.heap.size + 1) W4 v k xs → RdB (w.heap.size + 1) ((wE.setCell ⟨w.heap.size, 0, none⟩ (.int .i64 n)).setCell ⟨w.heap.size, 1, none⟩ (.slice At T.length ct)) v k xs := fun h => rdb_base (rdb_gro (rdb_gro h HGE.out (by omega)) hg (by omega)) (by omega)
            exact ⟨⟨n, _, T, _, Q0, _, Q1, i2, _, _, rfl, hq HT.out, hq HP.out, hq HQ.out, rdb_base (rdb_gro HXE.out hg (by omega)) (by omega)⟩, bel_grown HBE.out hg (fun q e => Nat.le_of_eq (Option.some.inj e))⟩
          | true =>
            go_upto_region 16 with (at_builtin; go_loud (refine wpList_app_rd _ rfl _ _ 26 rfl W4.heap.size 3 i0 (.int .i64 0) 1 8 Tryz.underlying26 hi hz0 hz1 hz2 rfl (by decide) _ _ _ rfl (HX.out.alloc _) _ 1 [.int .i64 (-1)] rfl (rd_new _ rfl (Nat.le_refl _) (by rw [maxLen_eq]; omega)) rfl (ints_one [(-1)]) (by rw [maxLen_eq]; omega) (by omega) (by simp; omega) ?_); intro v7 w7 hown7 hgrow7 _)
            obtain ⟨A7, c7, rfl, _⟩ := own_rd hown7
            have hlo := HX.out.lt
            have hB7 := HD8.out.app hgrow7 (fun q e => (hlo q e).1) hBW4
            obtain ⟨wE, rfl⟩ : ∃ x : World, x = w7 := ⟨_, rfl⟩
            have HGE := Lib.hid hB7.2
            have HBE := Lib.hid (bel_draw HB4.out HGE.out (by omega))
            have HXE : Hid (RdB W4.heap.size wE (.slice A7 (X.length + 1) c7) (X ++ [-1]).length (ints (X ++ [-1]))) := Lib.hid (rdb_ints (l := X ++ [-1]) (n := X.length + 1) (by rw [ints_append]; exact hown7))
            clear hown7 hgrow7 hB7
            have t0 := (gro_cell HGE.out (o := 0) (x := RT) sz4 hRTB).trans tb0
            have t1 := (gro_cell HGE.out (o := 1) (x := RT) sz4 hRTB).trans tb1
            have r0 := (gro_cell HGE.out (o := 0) (x := w.heap.size) sww hwne).trans rb0
            have r1 := (gro_cell HGE.out (o := 1) (x := w.heap.size) sww hwne).trans rb1
            have f0 := (gro_frozen HGE.out (o := 0) (x := w.heap.size) sww hwne).trans fb0
            have f1 := (gro_frozen HGE.out (o := 1) (x := w.heap.size) sww hwne).trans fb1
            go_wp2
            refine bodyPost_ret (v := .tuple #[.agg #[.int .i64 n, .slice At T.length ct], .slice Ap Q0.length cp, .slice Aq Q1.length cq, .int .i64 i2, .slice A7 (X.length + 1) c7]) (by simp [results, Tryz.results7, go_sem, r0, r1, t0, t1, hne, hne2]) rfl ?_
            have hg : World.grownBy wE ((wE.setCell ⟨w.heap.size, 0, none⟩ (.int .i64 n)).setCell ⟨w.heap.size, 1, none⟩ (.slice At T.length ct)) (some w.heap.size) := (only_setCell (only_setCell (World.grownBy.refl _ _) 0 _) 1 _)
            have hq : ∀ {v : Value} {k : Nat} {xs : List Value}, RdB (W1.heap.size + 1) W4 v k xs → RdB (w.heap.size + 1) ((wE.setCell ⟨w.heap.size, 0, none⟩ (.int .i64 n)).setCell ⟨w.heap.size, 1, none⟩ (.slice At T.length ct)) v k xs := fun h => rdb_base (rdb_gro (rdb_gro h HGE.out (by omega)) hg (by omega)) (by omega)
            exact ⟨⟨n, _, T, _, Q0, _, Q1, i2, _, _, rfl, hq HT.out, hq HP.out, hq HQ.out, rdb_base (rdb_gro HXE.out hg (by omega)) (by omega)⟩, bel_grown HBE.out hg (fun q e => Nat.le_of_eq (Option.some.inj e))⟩
    | true =>
      have HTAB : Hid (Tab TB) := Lib.hid (by
        obtain ⟨hg, _⟩ := askM_true HOK.out
        obtain ⟨_, _, g3, g4, _⟩ := goodMv_true hg
        have e : TB = reachL n.toNat (arcs T) Q0 Q1 i2 := by rw [← HTB.out]; unfold reachTableV; rw [if_pos HOK.out]
        rw [e]; exact reachL_tab g4 g3)
      have HSS5 := Lib.hid (ss_gro HSS.out HD5.out.2 (by omega)).rd
      have hs5 := HD5.out.2.size
      go_wp2_with fail
      refine (mvBest_c _ TB _ HTAB.out HSS5.out).mono ?_; unfold OwnI; rintro e W6 ⟨vx, rfl, hox, hb⟩
      obtain ⟨X, hX⟩ : ∃ X, fillR TB noneP (mostR TB noneP) = X := ⟨_, rfl⟩
      have hXl : X.length ≤ 6 := by rw [← hX, fillR_len]; exact HTAB.out.1
      rw [hX] at hox
      obtain ⟨Ax, cx, rfl, -⟩ := own_rd hox
      have HX := Lib.hid (own_base hox hs5)
      have HD6 := Lib.hid (HD5.out.bel hb)
      have hs6 := hb.size
      clear hb hox hX
      by_cases hx0 : 0 < X.length
      · have hx0i : (0 : Int) < (X.length : Int) := by omega
        go_wp2_with fail
        refine (one_c B l HL.out (0 + (0 + 2)) (by omega) 3 (by omega) _ HD6.out.1).mono ?_; rintro e W7 ⟨b, rfl, hd⟩
        have HX := Lib.hid (own_draw HX.out hd.2 hBW4)
        have HD7 := Lib.hid (HD6.out.trans hd)
        clear hd
        cases b with
        | false =>
          obtain ⟨wE, rfl⟩ : ∃ x : World, x = W7 := ⟨_, rfl⟩
          have HGE := Lib.hid HD7.out.2
          have HBE := Lib.hid (bel_draw HB4.out HGE.out (by omega))
          have HXE := Lib.hid (rdb_ints HX.out)
          have t0 := (gro_cell HGE.out (o := 0) (x := RT) sz4 hRTB).trans tb0
          have t1 := (gro_cell HGE.out (o := 1) (x := RT) sz4 hRTB).trans tb1
          have r0 := (gro_cell HGE.out (o := 0) (x := w.heap.size) sww hwne).trans rb0
          have r1 := (gro_cell HGE.out (o := 1) (x := w.heap.size) sww hwne).trans rb1
          have f0 := (gro_frozen HGE.out (o := 0) (x := w.heap.size) sww hwne).trans fb0
          have f1 := (gro_frozen HGE.out (o := 1) (x := w.heap.size) sww hwne).trans fb1
          go_wp2
          refine bodyPost_ret (v := .tuple #[.agg #[.int .i64 n, .slice At T.length ct], .slice Ap Q0.length cp, .slice Aq Q1.length cq, .int .i64 i2, .slice Ax X.length cx]) (by simp [results, Tryz.results7, go_sem, r0, r1, t0, t1, hne, hne2]) rfl ?_
          have hg : World.grownBy wE ((wE.setCell ⟨w.heap.size, 0, none⟩ (.int .i64 n)).setCell ⟨w.heap.size, 1, none⟩ (.slice At T.length ct)) (some w.heap.size) := (only_setCell (only_setCell (World.grownBy.refl _ _) 0 _) 1 _)
          have hq : ∀ {v : Value} {k : Nat} {xs : List Value}, RdB (W1.heap.size + 1) W4 v k xs → RdB (w.heap.size + 1) ((wE.setCell ⟨w.heap.size, 0, none⟩ (.int .i64 n)).setCell ⟨w.heap.size, 1, none⟩ (.slice At T.length ct)) v k xs := fun h => rdb_base (rdb_gro (rdb_gro h HGE.out (by omega)) hg (by omega)) (by omega)
          exact ⟨⟨n, _, T, _, Q0, _, Q1, i2, _, _, rfl, hq HT.out, hq HP.out, hq HQ.out, rdb_base (rdb_gro HXE.out hg (by omega)) (by omega)⟩, bel_grown HBE.out hg (fun q e => Nat.le_of_eq (Option.some.inj e))⟩
        | true =>
          go_wp2_with fail
          refine (pick_c B l HL.out (0 + (0 + 2 + 2)) (by omega) (X.length : Int) (by omega) _ HD7.out.1).mono ?_; rintro e W8 ⟨x, rfl, hxb, hd⟩
          have HX := Lib.hid (own_draw HX.out hd.2 hBW4)
          have HD8 := Lib.hid (HD7.out.trans hd)
          clear hd
          have e1 : IntKind.i64.wrap ((Q0.length : Int) + 1) = (Q0.length : Int) + 1 := IntWalk.i64_in _ (by omega)
          go_wp2_with fail
          refine (pick_c B l HL.out (0 + (0 + 2 + 2 + 2)) (by omega) ((Q0.length : Int) + 1) (by omega) _ HD8.out.1).mono ?_; rintro e W9 ⟨y, rfl, hyb, hd⟩
          have HX := Lib.hid (own_draw HX.out hd.2 hBW4)
          have HD9 := Lib.hid (HD8.out.trans hd)
          clear hd e1
          have s1 : IntKind.i64.wrap ((y : Int) - 1) = (y : Int) - 1 := IntWalk.i64_in _ (by omega)
          have hxl : x < X.length := by omega
          have hxli : (x : Int) < (X.length : Int) := by omega
          have hx00 : (0 : Int) ≤ (x : Int) := by omega
          obtain ⟨g, rfl, hg0, hg1⟩ := own_at HX.out hx0
          have t9 := HX.out.cellAt x (by omega)
          have f9 := HX.out.frozenAt x
          obtain ⟨xv, hxv⟩ : ∃ z, X[x]? = some z := ⟨_, List.getElem?_eq_getElem hxl⟩
          rw [ints_get hxv] at t9
          have HP9 : Hid ((W9.setCell ⟨g, x, none⟩ (.int .i64 ((y : Int) - 1))).ownsRow W4.heap.size 3 1 (.slice (some ⟨g, 0, none⟩) X.length cx) X.length (putAt (ints X) x [.int .i64 ((y : Int) - 1)])) := Lib.hid (own_put [.int .i64 ((y : Int) - 1)] W9 _ x HX.out)
          have HIS : Hid (putAt (ints X) x [.int .i64 ((y : Int) - 1)] = ints (X.set x ((y : Int) - 1))) := Lib.hid (by simp [putAt, ints, List.map_set])
          have HSD := Lib.hid (HD9.out.own (only_setCell (World.grownBy.refl _ (some g)) x (.int .i64 ((y : Int) - 1))) hg0 hBW4)
          go_upto_region 8 with fail
          generalize hW : World.setCell W9 _ _ = wE
          rw [hW] at HP9 HSD
          have HGE := Lib.hid HSD.out.2
          have HBE := Lib.hid (bel_draw HB4.out HGE.out (by omega))
          have HXE : Hid (RdB W4.heap.size wE (.slice (some ⟨g, 0, none⟩) X.length cx) (X.set x ((y : Int) - 1)).length (ints (X.set x ((y : Int) - 1)))) := Lib.hid (by have h := HP9.out; rw [HIS.out] at h; exact rdb_ints h)
          clear hW t9 f9 s1 HX HP9 HSD HD9
          have t0 := (gro_cell HGE.out (o := 0) (x := RT) sz4 hRTB).trans tb0
          have t1 := (gro_cell HGE.out (o := 1) (x := RT) sz4 hRTB).trans tb1
          have r0 := (gro_cell HGE.out (o := 0) (x := w.heap.size) sww hwne).trans rb0
          have r1 := (gro_cell HGE.out (o := 1) (x := w.heap.size) sww hwne).trans rb1
          have f0 := (gro_frozen HGE.out (o := 0) (x := w.heap.size) sww hwne).trans fb0
          have f1 := (gro_frozen HGE.out (o := 1) (x := w.heap.size) sww hwne).trans fb1
          go_wp2
          refine bodyPost_ret (v := .tuple #[.agg #[.int .i64 n, .slice At T.length ct], .slice Ap Q0.length cp, .slice Aq Q1.length cq, .int .i64 i2, .slice (some ⟨g, 0, none⟩) X.length cx]) (by simp [results, Tryz.results7, go_sem, r0, r1, t0, t1, hne, hne2]) rfl ?_
          have hg : World.grownBy wE ((wE.setCell ⟨w.heap.size, 0, none⟩ (.int .i64 n)).setCell ⟨w.heap.size, 1, none⟩ (.slice At T.length ct)) (some w.heap.size) := (only_setCell (only_setCell (World.grownBy.refl _ _) 0 _) 1 _)
          have hq : ∀ {v : Value} {k : Nat} {xs : List Value}, RdB (W1.heap.size + 1) W4 v k xs → RdB (w.heap.size + 1) ((wE.setCell ⟨w.heap.size, 0, none⟩ (.int .i64 n)).setCell ⟨w.heap.size, 1, none⟩ (.slice At T.length ct)) v k xs := fun h => rdb_base (rdb_gro (rdb_gro h HGE.out (by omega)) hg (by omega)) (by omega)
          exact ⟨⟨n, _, T, _, Q0, _, Q1, i2, _, _, rfl, hq HT.out, hq HP.out, hq HQ.out, rdb_base (rdb_gro HXE.out hg (by omega)) (by omega)⟩, bel_grown HBE.out hg (fun q e => Nat.le_of_eq (Option.some.inj e))⟩
      · have hx0i : (X.length : Int) ≤ 0 := by omega
        obtain ⟨wE, rfl⟩ : ∃ x : World, x = W6 := ⟨_, rfl⟩
        have HGE := Lib.hid HD6.out.2
        have HBE := Lib.hid (bel_draw HB4.out HGE.out (by omega))
        have HXE := Lib.hid (rdb_ints HX.out)
        have t0 := (gro_cell HGE.out (o := 0) (x := RT) sz4 hRTB).trans tb0
        have t1 := (gro_cell HGE.out (o := 1) (x := RT) sz4 hRTB).trans tb1
        have r0 := (gro_cell HGE.out (o := 0) (x := w.heap.size) sww hwne).trans rb0
        have r1 := (gro_cell HGE.out (o := 1) (x := w.heap.size) sww hwne).trans rb1
        have f0 := (gro_frozen HGE.out (o := 0) (x := w.heap.size) sww hwne).trans fb0
        have f1 := (gro_frozen HGE.out (o := 1) (x := w.heap.size) sww hwne).trans fb1
        go_wp2
        refine bodyPost_ret (v := .tuple #[.agg #[.int .i64 n, .slice At T.length ct], .slice Ap Q0.length cp, .slice Aq Q1.length cq, .int .i64 i2, .slice Ax X.length cx]) (by simp [results, Tryz.results7, go_sem, r0, r1, t0, t1, hne, hne2]) rfl ?_
        have hg : World.grownBy wE ((wE.setCell ⟨w.heap.size, 0, none⟩ (.int .i64 n)).setCell ⟨w.heap.size, 1, none⟩ (.slice At T.length ct)) (some w.heap.size) := (only_setCell (only_setCell (World.grownBy.refl _ _) 0 _) 1 _)
        have hq : ∀ {v : Value} {k : Nat} {xs : List Value}, RdB (W1.heap.size + 1) W4 v k xs → RdB (w.heap.size + 1) ((wE.setCell ⟨w.heap.size, 0, none⟩ (.int .i64 n)).setCell ⟨w.heap.size, 1, none⟩ (.slice At T.length ct)) v k xs := fun h => rdb_base (rdb_gro (rdb_gro h HGE.out (by omega)) hg (by omega)) (by omega)
        exact ⟨⟨n, _, T, _, Q0, _, Q1, i2, _, _, rfl, hq HT.out, hq HP.out, hq HQ.out, rdb_base (rdb_gro HXE.out hg (by omega)) (by omega)⟩, bel_grown HBE.out hg (fun q e => Nat.le_of_eq (Option.some.inj e))⟩
  | false =>
    obtain ⟨W5, hW5⟩ : ∃ x : World, x = W4 := ⟨_, rfl⟩
    have HD5 : Hid (Drew B l 0 (0 + 2) W4 W5) := Lib.hid (by rw [hW5]; exact HD0.out.more (by omega))
    rw [← hW5]
    clear hW5
    go_wp2_with fail
    go_loopw [15, 67] (fun vo vi wr => ∃ (j : Nat) (X : List Int) (A : Option Addr) (c : Nat), j ≤ Q1.length ∧ vi = .int .i64 j ∧ vo = .slice A X.length c ∧ X.length = j ∧ Hid (wr.ownsRow W4.heap.size 3 1 (.slice A X.length c) X.length (ints X)) ∧ Hid (Drew B l 0 (2 + 2 * j) W4 wr)) (fun _ vi _ => Q1.length - (intOf vi).toNat)
    case atStart => exact ⟨0, [], none, 0, Nat.zero_le _, rfl, rfl, rfl, Lib.hid (World.ownsRow_nil _ _ _ _), HD5⟩
    case round =>
      obtain ⟨j, X, A, c, hj, rfl, rfl, hXj, HX, HDR⟩ := hrel
      have hXl : X.length ≤ 8 := by omega
      have HXJ := Lib.hid hXj
      clear hXj
      obtain ⟨wA, rfl⟩ : ∃ wA : World, wA = wr := ⟨_, rfl⟩
      by_cases hlt : j < Q1.length
      · have hlt2 : (j : Int) < (Q1.length : Int) := by omega
        have e1 : IntKind.i64.wrap ((Q0.length : Int) + 2) = (Q0.length : Int) + 2 := IntWalk.i64_in _ (by omega)
        go_wp2_with fail
        refine (pick_c B l HL.out (0 + (2 + 2 * j)) (by omega) ((Q0.length : Int) + 2) (by omega) _ HDR.out.1).mono ?_; rintro e W8 ⟨x, rfl, hxb, hd⟩
        have HX := Lib.hid (own_draw HX.out hd.2 hBW4)
        have HD8 := Lib.hid (HDR.out.trans hd)
        clear hd e1
        have hs8 := HD8.out.2.size
        have s1 : IntKind.i64.wrap ((x : Int) - 1) = (x : Int) - 1 := IntWalk.i64_in _ (by omega)
        go_wp2_with (at_builtin; go_loud (refine wpList_app_rd _ rfl _ _ 26 rfl W4.heap.size 3 i0 (.int .i64 0) 1 8 Tryz.underlying26 hi hz0 hz1 hz2 rfl (by decide) _ _ _ rfl (HX.out.alloc _) _ 1 [.int .i64 ((x : Int) - 1)] rfl (rd_new _ rfl (Nat.le_refl _) (by rw [maxLen_eq]; omega)) rfl (ints_one [((x : Int) - 1)]) (by rw [maxLen_eq]; omega) (by omega) (by simp; omega) ?_); intro v7 w7 hown7 hgrow7 _)
        obtain ⟨A7, c7, rfl, _⟩ := own_rd hown7
        have hlo := HX.out.lt
        have hB7 := HD8.out.app hgrow7 (fun q e => (hlo q e).1) hBW4
        refine ⟨⟨j + 1, X ++ [(x : Int) - 1], A7, c7, by omega, by go_num, by simp, by rw [List.length_append, HXJ.out]; rfl, Lib.hid ?_, Lib.hid (hB7.more (by omega))⟩, by simp [intOf]; omega⟩
        rw [ints_append, List.length_append]; exact hown7
      · obtain rfl : j = Q1.length := by omega
        go_wp2_with fail
        refine (one_c B l HL.out (0 + (2 + 2 * Q1.length)) (by omega) 12 (by omega) _ HDR.out.1).mono ?_; rintro e W8 ⟨b, rfl, hd⟩
        have HX := Lib.hid (own_draw HX.out hd.2 hBW4)
        have HD8 := Lib.hid (HDR.out.trans hd)
        clear hd
        have hs8 := HD8.out.2.size
        cases b with
        | false =>
          obtain ⟨wE, rfl⟩ : ∃ x : World, x = W8 := ⟨_, rfl⟩
          have HGE := Lib.hid HD8.out.2
          have HBE := Lib.hid (bel_draw HB4.out HGE.out (by omega))
          have HXE := Lib.hid (rdb_ints HX.out)
          have t0 := (gro_cell HGE.out (o := 0) (x := RT) sz4 hRTB).trans tb0
          have t1 := (gro_cell HGE.out (o := 1) (x := RT) sz4 hRTB).trans tb1
          have r0 := (gro_cell HGE.out (o := 0) (x := w.heap.size) sww hwne).trans rb0
          have r1 := (gro_cell HGE.out (o := 1) (x := w.heap.size) sww hwne).trans rb1
          have f0 := (gro_frozen HGE.out (o := 0) (x := w.heap.size) sww hwne).trans fb0
          have f1 := (gro_frozen HGE.out (o := 1) (x := w.heap.size) sww hwne).trans fb1
          go_wp2
          refine bodyPost_ret (v := .tuple #[.agg #[.int .i64 n, .slice At T.length ct], .slice Ap Q0.length cp, .slice Aq Q1.length cq, .int .i64 i2, .slice A X.length c]) (by simp [results, Tryz.results7, go_sem, r0, r1, t0, t1, hne, hne2]) rfl ?_
          have hg : World.grownBy wE ((wE.setCell ⟨w.heap.size, 0, none⟩ (.int .i64 n)).setCell ⟨w.heap.size, 1, none⟩ (.slice At T.length ct)) (some w.heap.size) := (only_setCell (only_setCell (World.grownBy.refl _ _) 0 _) 1 _)
          have hq : ∀ {v : Value} {k : Nat} {xs : List Value}, RdB (W1.heap.size + 1) W4 v k xs → RdB (w.heap.size + 1) ((wE.setCell ⟨w.heap.size, 0, none⟩ (.int .i64 n)).setCell ⟨w.heap.size, 1, none⟩ (.slice At T.length ct)) v k xs := fun h => rdb_base (rdb_gro (rdb_gro h HGE.out (by omega)) hg (by omega)) (by omega)
          exact ⟨⟨n, _, T, _, Q0, _, Q1, i2, _, _, rfl, hq HT.out, hq HP.out, hq HQ.out, rdb_base (rdb_gro HXE.out hg (by omega)) (by omega)⟩, bel_grown HBE.out hg (fun q e => Nat.le_of_eq (Option.some.inj e))⟩
        | true =>
          go_upto_region 16 with (at_builtin; go_loud (refine wpList_app_rd _ rfl _ _ 26 rfl W4.heap.size 3 i0 (.int .i64 0) 1 8 Tryz.underlying26 hi hz0 hz1 hz2 rfl (by decide) _ _ _ rfl (HX.out.alloc _) _ 1 [.int .i64 (-1)] rfl (rd_new _ rfl (Nat.le_refl _) (by rw [maxLen_eq]; omega)) rfl (ints_one [(-1)]) (by rw [maxLen_eq]; omega) (by omega) (by simp; omega) ?_); intro v7 w7 hown7 hgrow7 _)
          obtain ⟨A7, c7, rfl, _⟩ := own_rd hown7
          have hlo := HX.out.lt
          have hB7 := HD8.out.app hgrow7 (fun q e => (hlo q e).1) hBW4
          obtain ⟨wE, rfl⟩ : ∃ x : World, x = w7 := ⟨_, rfl⟩
          have HGE := Lib.hid hB7.2
          have HBE := Lib.hid (bel_draw HB4.out HGE.out (by omega))
          have HXE : Hid (RdB W4.heap.size wE (.slice A7 (X.length + 1) c7) (X ++ [-1]).length (ints (X ++ [-1]))) := Lib.hid (rdb_ints (l := X ++ [-1]) (n := X.length + 1) (by rw [ints_append]; exact hown7))
          clear hown7 hgrow7 hB7
          have t0 := (gro_cell HGE.out (o := 0) (x := RT) sz4 hRTB).trans tb0
          have t1 := (gro_cell HGE.out (o := 1) (x := RT) sz4 hRTB).trans tb1
          have r0 := (gro_cell HGE.out (o := 0) (x := w.heap.size) sww hwne).trans rb0
          have r1 := (gro_cell HGE.out (o := 1) (x := w.heap.size) sww hwne).trans rb1
          have f0 := (gro_frozen HGE.out (o := 0) (x := w.heap.size) sww hwne).trans fb0
          have f1 := (gro_frozen HGE.out (o := 1) (x := w.heap.size) sww hwne).trans fb1
          go_wp2
          refine bodyPost_ret (v := .tuple #[.agg #[.int .i64 n, .slice At T.length ct], .slice Ap Q0.length cp, .slice Aq Q1.length cq, .int .i64 i2, .slice A7 (X.length + 1) c7]) (by simp [results, Tryz.results7, go_sem, r0, r1, t0, t1, hne, hne2]) rfl ?_
          have hg : World.grownBy wE ((wE.setCell ⟨w.heap.size, 0, none⟩ (.int .i64 n)).setCell ⟨w.heap.size, 1, none⟩ (.slice At T.length ct)) (some w.heap.size) := (only_setCell (only_setCell (World.grownBy.refl _ _) 0 _) 1 _)
          have hq : ∀ {v : Value} {k : Nat} {xs : List Value}, RdB (W1.heap.size + 1) W4 v k xs → RdB (w.heap.size + 1) ((wE.setCell ⟨w.heap.size, 0, none⟩ (.int .i64 n)).setCell ⟨w.heap.size, 1, none⟩ (.slice At T.length ct)) v k xs := fun h => rdb_base (rdb_gro (rdb_gro h HGE.out (by omega)) hg (by omega)) (by omega)
          exact ⟨⟨n, _, T, _, Q0, _, Q1, i2, _, _, rfl, hq HT.out, hq HP.out, hq HQ.out, rdb_base (rdb_gro HXE.out hg (by omega)) (by omega)⟩, bel_grown HBE.out hg (fun q e => Nat.le_of_eq (Option.some.inj e))⟩
theorem drawIsFilling_c (v : Value) (l : List Int) (hn : l.length ≤ 9223372036854775807) (hl : BytesOk l) (w : World) (hr : Rd w v l.length (bys l)) :
    Calls Tryz.prog 7 #[v] w fun e w' => (∃ (n : Int) (s : Value) (T : List St) (p : Value) (P : List Int) (q : Value) (Q : List Int) (i2 : Int) (x : Value) (X : List Int), e = .returned (.tuple #[.agg #[.int .i64 n, s], p, q, .int .i64 i2, x]) ∧ Rd w' s T.length (T.flatMap St.cells) ∧ RdI w' p P ∧ RdI w' q Q ∧ RdI w' x X) ∧ Below w.heap.size w w' :=
  (dDrawIsFilling_b v l hn hl w hr).mono fun _ _ ⟨⟨n, s, T, p, P, q, Q, i2, x, X, he, h0, h1, h2, h3⟩, hb⟩ => ⟨⟨n, s, T, p, P, q, Q, i2, x, X, he, h0.1, h1.1, h2.1, h3.1⟩, hb⟩
set_option maxRecDepth 100000 in
set_option maxHeartbeats 4000000 in
theorem drawMovesText_c (v : Value) (l : List Int) (hn : l.length ≤ 9223372036854775807) (hl : BytesOk l) (w : World) (hr : Rd w v l.length (bys l)) :
    Calls Tryz.prog 14 #[v] w fun e w' => (∃ (p : Value) (P : List Int) (q : Value) (Q : List Int) (x : Value) (X : List Int), e = .returned (.tuple #[p, q, x]) ∧ RdI w' p P ∧ RdI w' q Q ∧ RdI w' x X) ∧ Below w.heap.size w w' := by
  have HB9 := Lib.hid hr
  have HL := Lib.hid hl
  obtain ⟨A0, c0, rfl, _⟩ := hr
  clear hl
  go_enter Tryz.func14, Tryz.ntmps14
  go_wp2_with fail
  refine (drawIsFilling_c _ l hn HL.out w HB9.out).mono ?_; rintro e W1 ⟨⟨n, s, T, p, P, q, Q, i2, x, X, he, h0, h1, h2, h3⟩, hb⟩
  subst he
  obtain ⟨At, ct, rfl⟩ := rd_of h0
  have HP := Lib.hid h1
  have HQ := Lib.hid h2
  have HX := Lib.hid h3
  have HB1 := Lib.hid hb
  clear h0 h1 h2 h3 hb
  go_upto_region 2 with fail
  generalize hW : World.alloc W1 _ = W2
  have hbl : Below W1.heap.size W1 W2 := by subst hW; exact bel_al (Below.refl _ _) _
  have HBL := Lib.hid hbl
  clear hW hbl
  go_wp2
  refine bodyPost_ret (v := .tuple #[p, q, x]) (by simp [results, Tryz.results14, go_sem]) rfl ?_
  exact ⟨⟨_, P, _, Q, _, X, rfl, rdi_below HP.out HBL.out, rdi_below HQ.out HBL.out, rdi_below HX.out HBL.out⟩, bel_then HB1.out HBL.out⟩
end Go.Proofs.YtahehdgkbhjpoaaGreatDoor
