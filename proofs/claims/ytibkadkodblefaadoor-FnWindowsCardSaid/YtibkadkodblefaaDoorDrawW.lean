/-
  Draws of short ladders and windows (printed by gen_draww.py).
-/
import Derived.Test.YtibkadkodblefaaDoorDrawP
namespace Go.Proofs.YtibkadkodblefaaDoor
open Go.RowKit

set_option maxRecDepth 100000 in
set_option maxHeartbeats 2000000 in
theorem shortLadder_c (B : Nat) (l : List Int) (hl : BytesOk l) (a : Nat) (ha : a ≤ 4611686018427369000) (w : World) (hc : CurAt B l a w) :
    Calls Tryd.prog 82 #[.pointer (some ⟨B, 0, none⟩)] w fun e w' => ∃ b n o s m : Int, e = .returned (ldV b n o s m) ∧ Drew B l a 22 w w' := by
  have HL := Lib.hid hl
  have HD := Lib.hid (Drew.refl hc 0)
  have hBb : B < w.heap.size := hc.lt
  clear hc hl
  go_enter Tryd.func82, Tryd.ntmps82
  go_upto_region 1 with fail
  generalize hW : World.alloc w _ = W0
  have hr0 : W0.ownsRow w.heap.size 31 5 (.slice (some ⟨w.heap.size, 0, none⟩) 1 1) 1 [.int .i64 0, .int .i64 0, .int .i64 0, .int .i64 0, .int .i64 0] := by subst hW; exact row_new w _ _ 1 5 rfl (by omega) (by omega)
  have HD := Lib.hid (HD.out.bel (show Below w.heap.size w W0 by subst hW; exact bel_al (Below.refl _ _) _))
  have sz0 : w.heap.size < W0.heap.size := by subst hW; simp
  have HR := Lib.hid hr0
  clear hW hr0
  go_wp2_with fail
  refine (ladder_c B l HL.out (a + 0) (by omega) _ HD.out.1).mono ?_; rintro e W1 ⟨b, n, o, s, m, rfl, hd⟩
  have HD := Lib.hid (HD.out.trans hd)
  have HR := Lib.hid (own_draw HR.out hd.2 hBb)
  have sz1 := hd.2.size
  clear hd
  go_upto_region 2 with fail
  generalize hW : World.alloc W1 _ = W2
  have hr0 : W2.ownsRow w.heap.size 31 5 (.slice (some ⟨W1.heap.size, 0, none⟩) 1 1) 1 [.int .i64 b, .int .i64 n, .int .i64 o, .int .i64 s, .int .i64 m] := by subst hW; exact own_base (row_new W1 _ _ 1 5 rfl (by omega) (by omega)) (by omega)
  have hbl : Below W1.heap.size W1 W2 := by subst hW; exact bel_al (Below.refl _ _) _
  have HD := Lib.hid (HD.out.bel hbl)
  have HR := Lib.hid (own_below HR.out hbl)
  obtain ⟨R, hRR⟩ : ∃ R, W1.heap.size = R := ⟨_, rfl⟩
  have hwR : w.heap.size < R := by omega
  have hne : w.heap.size ≠ R := by omega
  have hne2 : R ≠ w.heap.size := by omega
  rw [hRR] at hr0 ⊢
  have HT := Lib.hid hr0
  clear hW hr0 hbl hRR
  by_cases hlt : 180 < n
  · have t9 := HT.out.cellAt 1 (by omega)
    have f9 := HT.out.frozenAt 1
    have HT2 : Hid ((W2.setCell ⟨R, 1, none⟩ (.int .i64 120)).ownsRow w.heap.size 31 5 (.slice (some ⟨R, 0, none⟩) 1 1) 1 [.int .i64 b, .int .i64 120, .int .i64 o, .int .i64 s, .int .i64 m]) := Lib.hid (own_put [_] W2 _ 1 HT.out)
    have HR2 := Lib.hid (show (W2.setCell ⟨R, 1, none⟩ (.int .i64 120)).ownsRow w.heap.size 31 5 (.slice (some ⟨w.heap.size, 0, none⟩) 1 1) 1 [.int .i64 0, .int .i64 0, .int .i64 0, .int .i64 0, .int .i64 0] from gro_other HR.out (only_setCell (World.grownBy.refl _ (some R)) 1 _) (fun hq => by have : w.heap.size = R := Option.some.inj hq; omega))
    have HSD := Lib.hid (HD.out.own (only_setCell (World.grownBy.refl _ (some R)) 1 (.int .i64 120)) (by omega) hBb)
    clear t9
    have t0 := HT.out.cellAt 0 (by omega)
    have t1 := HT.out.cellAt 1 (by omega)
    have t2 := HT.out.cellAt 2 (by omega)
    have t3 := HT.out.cellAt 3 (by omega)
    have t4 := HT.out.cellAt 4 (by omega)
    have r0 := HR.out.cellAt 0 (by omega)
    have f0 := HR.out.frozenAt 0
    have r1 := HR.out.cellAt 1 (by omega)
    have f1 := HR.out.frozenAt 1
    have r2 := HR.out.cellAt 2 (by omega)
    have f2 := HR.out.frozenAt 2
    have r3 := HR.out.cellAt 3 (by omega)
    have f3 := HR.out.frozenAt 3
    have r4 := HR.out.cellAt 4 (by omega)
    have f4 := HR.out.frozenAt 4
    dsimp only [List.getElem?_cons_zero, List.getElem?_cons_succ] at t0 t1 t2 t3 t4 r0 r1 r2 r3 r4
    go_wp2
    refine bodyPost_ret (v := ldV b 120 o s m) (by simp [results, Tryd.results82, go_sem, r0, r1, r2, r3, r4, hne, hne2]) rfl ?_
    have HEND := HSD.out.more (k' := 22) (by omega)
    first | exact ⟨b, 120, o, s, m, rfl, HEND.own (only_setCell (only_setCell (only_setCell (only_setCell (only_setCell (World.grownBy.refl _ _) 0 _) 1 _) 2 _) 3 _) 4 _) (Nat.le_refl _) hBb⟩ | exact ⟨⟨b, 120, o, s, m, rfl⟩, HEND.own (only_setCell (only_setCell (only_setCell (only_setCell (only_setCell (World.grownBy.refl _ _) 0 _) 1 _) 2 _) 3 _) 4 _) (Nat.le_refl _) hBb⟩
  · have hge : n ≤ 180 := by omega
    have t0 := HT.out.cellAt 0 (by omega)
    have t1 := HT.out.cellAt 1 (by omega)
    have t2 := HT.out.cellAt 2 (by omega)
    have t3 := HT.out.cellAt 3 (by omega)
    have t4 := HT.out.cellAt 4 (by omega)
    have r0 := HR.out.cellAt 0 (by omega)
    have f0 := HR.out.frozenAt 0
    have r1 := HR.out.cellAt 1 (by omega)
    have f1 := HR.out.frozenAt 1
    have r2 := HR.out.cellAt 2 (by omega)
    have f2 := HR.out.frozenAt 2
    have r3 := HR.out.cellAt 3 (by omega)
    have f3 := HR.out.frozenAt 3
    have r4 := HR.out.cellAt 4 (by omega)
    have f4 := HR.out.frozenAt 4
    dsimp only [List.getElem?_cons_zero, List.getElem?_cons_succ] at t0 t1 t2 t3 t4 r0 r1 r2 r3 r4
    go_wp2
    refine bodyPost_ret (v := ldV b n o s m) (by simp [results, Tryd.results82, go_sem, r0, r1, r2, r3, r4, hne, hne2]) rfl ?_
    have HEND := HD.out.more (k' := 22) (by omega)
    first | exact ⟨b, n, o, s, m, rfl, HEND.own (only_setCell (only_setCell (only_setCell (only_setCell (only_setCell (World.grownBy.refl _ _) 0 _) 1 _) 2 _) 3 _) 4 _) (Nat.le_refl _) hBb⟩ | exact ⟨⟨b, n, o, s, m, rfl⟩, HEND.own (only_setCell (only_setCell (only_setCell (only_setCell (only_setCell (World.grownBy.refl _ _) 0 _) 1 _) 2 _) 3 _) 4 _) (Nat.le_refl _) hBb⟩
theorem Tryd.infoWnD : (Tryd.prog.info? 81).map (fun i => (i.zero, i.size, i.bytes)) = some (some (.agg #[.int .i64 0, .int .i64 0]), 2, 16) := by kernel_rfl
theorem flat_snoc_wn (l : List Wn) (t : Wn) : (l ++ [t]).flatMap Wn.cells = l.flatMap Wn.cells ++ [.int .i64 t.al, .int .i64 t.up] := by rw [List.flatMap_append]; simp [Wn.cells]
theorem own_at {w : World} {base : Nat} {e : TypeId} {sz n c : Nat} {A : Option Addr} {xs : List Value} (h : w.ownsRow base e sz (.slice A n c) n xs) (h0 : 0 < n) : ∃ g, A = some ⟨g, 0, none⟩ ∧ base ≤ g ∧ g < w.heap.size := by
  rcases h.2 with ⟨_, hq⟩ | ⟨g, cap, cur, hv, hb, hg, _⟩
  · omega
  · simp only [Value.slice.injEq] at hv
    exact ⟨g, hv.1, hb, (Array.getElem?_eq_some_iff.1 hg).1⟩

set_option maxRecDepth 100000 in
set_option maxHeartbeats 4000000 in
theorem windows_c (B : Nat) (l : List Int) (hl : BytesOk l) (a : Nat) (ha : a ≤ 4611686018427369000) (w : World) (hc : CurAt B l a w) :
    Calls Tryd.prog 84 #[.pointer (some ⟨B, 0, none⟩)] w fun e w' => ∃ (v : Value) (T : List Wn), e = .returned v ∧ w'.ownsRow w.heap.size 81 2 v T.length (T.flatMap Wn.cells) ∧ T.length ≤ 14 ∧ Drew B l a 200 w w' := by
  have HL := Lib.hid hl
  have HD := Lib.hid (Drew.refl hc 0)
  have hBb : B < w.heap.size := hc.lt

  obtain ⟨i0, hi, hz0, hz1, hz2⟩ := info_parts Tryd.infoWnD
  clear hc hl
  go_enter Tryd.func84, Tryd.ntmps84
  go_wp2_with fail
  refine (pick_c B l HL.out (a + 0) (by omega) 5 (by omega) _ HD.out.1).mono ?_; rintro e w1 ⟨x, rfl, hx, hd⟩
  have HD := Lib.hid (HD.out.trans hd)
  clear hd
  go_wp2_with fail
  refine (one_c B l HL.out (a + 2) (by omega) 16 (by omega) _ HD.out.1).mono ?_; rintro e w2 ⟨b, rfl, hd⟩
  have HD := Lib.hid (HD.out.trans hd)
  clear hd
  cases b
  · obtain ⟨w3, hw3⟩ : ∃ w3 : World, w2 = w3 := ⟨_, rfl⟩
    obtain ⟨n, hn0⟩ : ∃ n : Nat, x = n := ⟨_, rfl⟩
    have hn : n ≤ 14 := by omega
    rw [hw3] at HD ⊢
    rw [hn0] at ⊢
    have HD6 := Lib.hid (HD.out.more (k' := 6) (by omega))
    have hs3 := HD6.out.2.size
    clear hw3 hn0 hx
    have hn00 := hn
    go_wp2_with fail
    go_loopw [3] (fun v3 wr => ∃ (T : List Wn) (A : Option Addr) (c : Nat), v3 = .slice A T.length c ∧ T.length ≤ n ∧ Hid (wr.ownsRow w.heap.size 81 2 (.slice A T.length c) T.length (T.flatMap Wn.cells)) ∧ Hid (Drew B l a (6 + 6 * T.length) w wr)) (fun v3 _ => n - lenOf v3)
    case atStart => exact ⟨[], none, 0, rfl, Nat.zero_le _, Lib.hid (World.ownsRow_nil _ _ _ _), HD6⟩
    case round =>
      obtain ⟨T, A, c, rfl, hTn, HOW, HDR⟩ := hrel
      obtain ⟨wA, rfl⟩ : ∃ wA : World, wA = wr := ⟨_, rfl⟩
      by_cases hlt : T.length < n
      · have hlt2 : (T.length : Int) < (n : Int) := by omega
        have hdR := HDR.out
        obtain ⟨q, hq0⟩ : ∃ q, 6 + 6 * T.length = q := ⟨_, rfl⟩
        rw [hq0] at hdR
        have hq1 : q ≤ 100 := by omega
        have HD := Lib.hid hdR
        clear hdR
        go_wp2_with fail
        refine (pick_c B l HL.out (a + q) (by omega) 13 (by omega) _ HD.out.1).mono ?_; rintro e W10 ⟨x, rfl, hx, hd⟩
        have HOW := Lib.hid (own_draw HOW.out hd.2 hBb)
        have HD := Lib.hid (HD.out.trans hd)
        clear hd
        have sx : IntKind.i64.wrap (50 * (x : Int)) = 50 * (x : Int) := IntWalk.i64_in _ (by omega)
        go_wp2_with fail
        refine (pick_c B l HL.out (a + (q + 2)) (by omega) 200 (by omega) _ HD.out.1).mono ?_; rintro e W11 ⟨y, rfl, hy, hd⟩
        have HOW := Lib.hid (own_draw HOW.out hd.2 hBb)
        have HD := Lib.hid (HD.out.trans hd)
        clear hd
        go_wp2_with fail
        generalize hW : World.alloc W11 _ = W12
        have hq : RdI W12 (.slice (some ⟨W11.heap.size, 0, none⟩) 5 5) [30, 60, 90, 120, (y : Int)] := by subst hW; exact rd_new W11 rfl (Nat.le_refl _) (by rw [maxLen_eq]; omega)
        have hbl : Below W11.heap.size W11 W12 := by subst hW; exact bel_al (Below.refl _ _) _
        have hBW := HD.out.1.lt
        have HD := Lib.hid (HD.out.bel hbl)
        have HOW := Lib.hid (own_below HOW.out hbl)
        clear hW hbl
        refine (among_c B l HL.out (a + (q + 4)) (by omega) _ [30, 60, 90, 120, (y : Int)] (by simp) (by simp) _ HD.out.1 hq (lit_ne hBW)).mono ?_; rintro e W13 ⟨z, rfl, _, hd⟩
        clear hq hBW
        have HOW4 := Lib.hid (own_draw HOW.out hd.2 hBb)
        have HD4 := Lib.hid (HD.out.trans hd)
        have hs4 := HD4.out.2.size
        clear hd
        obtain ⟨al, hal⟩ : ∃ al : Int, 50 * (x : Int) = al := ⟨_, rfl⟩
        simp only [sx, hal]
        clear hal sx
        go_wp2_with (at_builtin; refine wpList_app_rd _ rfl _ _ 44 rfl w.heap.size 81 i0 _ 2 16 Tryd.underlying44 hi hz0 hz1 hz2 rfl (by decide) _ _ _ rfl (HOW4.out.alloc _) _ 1 [.int .i64 al, .int .i64 z] rfl (rd_new _ rfl (Nat.le_refl _) (by rw [maxLen_eq]; omega)) rfl (by intro u hu; simp at hu; rcases hu with rfl | rfl <;> rfl) (by rw [maxLen_eq]; omega) (by omega) (by simp; omega) ?_; intro v7 w7 hown7 hgrow7 _)
        obtain ⟨A7, c7, rfl, _⟩ := own_rd hown7
        have hlo := HOW4.out.lt
        have hB7 : Drew B l a (q + 6) w w7 := HD4.out.app hgrow7 (fun q e => (hlo q e).1) hBb
        refine ⟨⟨T ++ [⟨al, z⟩], A7, c7, by simp, by simp; omega, Lib.hid ?_, Lib.hid ?_⟩, by simp [lenOf]; omega⟩
        · rw [flat_snoc_wn, List.length_append]; exact hown7
        · rw [List.length_append]; exact hB7.more (by simp; omega)
      · have hge : (n : Int) ≤ (T.length : Int) := by omega
        have HD90 := Lib.hid (HDR.out.more (k' := 90) (by omega))
        clear HDR
        by_cases hT0 : T.length = 0
        · have hn0 : n = 0 := by omega
          subst hn0
          have HT0 := Lib.hid hT0
          clear hT0
          go_wp2
          go_ret
          exact ⟨_, T, rfl, HOW.out, by have := HT0.out; omega, HD90.out.more (by omega)⟩
        · obtain ⟨g, rfl, hg0, hg1⟩ := own_at HOW.out (by omega)
          obtain ⟨t0, T1, hT⟩ : ∃ t0 T1, T = t0 :: T1 := by
            cases T with
            | nil => simp at hT0
            | cons x y => exact ⟨_, _, rfl⟩
          have HTC := Lib.hid hT
          have hnp : (0 : Int) < (n : Int) := by omega
          have hnp2 : 0 < n := by omega
          have hlI : (0 : Int) < (T.length : Int) := by omega
          have HLE := Lib.hid hTn
          clear hT hTn hT0
          go_wp2_with fail
          refine (one_c B l HL.out (a + 90) (by omega) 20 (by omega) _ HD90.out.1).mono ?_; rintro e W20 ⟨b2, rfl, hd⟩
          have HOW := Lib.hid (own_draw HOW.out hd.2 hBb)
          have HD := Lib.hid (HD90.out.trans hd)
          have sz20 := hd.2.size
          clear hd
          cases b2
          · go_wp2
            go_ret
            exact ⟨_, T, rfl, HOW.out, by have := HLE.out; omega, HD.out.more (by omega)⟩
          · go_wp2_with fail
            generalize hW : World.alloc W20 _ = W21
            have hq : RdI W21 (.slice (some ⟨W20.heap.size, 0, none⟩) 2 2) [601, -1] := by subst hW; exact rd_new W20 rfl (Nat.le_refl _) (by rw [maxLen_eq]; omega)
            have hbl : Below W20.heap.size W20 W21 := by subst hW; exact bel_al (Below.refl _ _) _
            have hBW := HD.out.1.lt
            have HD := Lib.hid (HD.out.bel hbl)
            have HOW := Lib.hid (own_below HOW.out hbl)
            clear hW hbl
            refine (among_c B l HL.out (a + 92) (by omega) _ [601, -1] (by simp) (by simp) _ HD.out.1 hq (lit_ne hBW)).mono ?_; rintro e W22 ⟨z, rfl, _, hd⟩
            clear hq hBW
            have HOW := Lib.hid (own_draw HOW.out hd.2 hBb)
            have HD := Lib.hid (HD.out.trans hd)
            clear hd
            have t9 := HOW.out.cellAt 0 (by omega)
            have f9 := HOW.out.frozenAt 0
            rw [HTC.out] at t9
            simp only [List.flatMap_cons, Wn.cells, List.cons_append, List.getElem?_cons_zero] at t9
            have HP : Hid ((W22.setCell ⟨g, 0, none⟩ (.int .i64 z)).ownsRow w.heap.size 81 2 (.slice (some ⟨g, 0, none⟩) T.length c) T.length ((⟨z, t0.up⟩ :: T1 : List Wn).flatMap Wn.cells)) := Lib.hid (by
              have h := own_put [.int .i64 z] W22 _ 0 HOW.out
              rw [HTC.out] at h ⊢
              exact h)
            have HSD := Lib.hid (HD.out.own (only_setCell (World.grownBy.refl _ (some g)) 0 (.int .i64 z)) (by omega) hBb)
            go_wp2
            go_ret
            exact ⟨_, ⟨z, t0.up⟩ :: T1, rfl, by have h := HP.out; have e : (⟨z, t0.up⟩ :: T1 : List Wn).length = T.length := by rw [HTC.out]; rfl
                                                rw [e]; exact h, by have := HLE.out; rw [HTC.out] at this; simp at this ⊢; omega, HSD.out.more (by omega)⟩
  · go_wp2_with fail
    refine (pick_c B l HL.out (a + 4) (by omega) 2 (by omega) _ HD.out.1).mono ?_; rintro e w3 ⟨y, rfl, hy, hd⟩
    have HD6 := Lib.hid (HD.out.trans hd)
    have s1 : IntKind.i64.wrap (12 + (y : Int)) = ((12 + y : Nat) : Int) := by rw [IntWalk.i64_in _ (by omega)]; omega
    obtain ⟨n, hn0⟩ : ∃ n : Nat, 12 + y = n := ⟨_, rfl⟩
    have hn : n ≤ 14 := by omega
    have hs3 := HD6.out.2.size
    rw [hn0] at s1
    clear hd hn0 hx hy
    have hn00 := hn
    go_wp2_with fail
    go_loopw [3] (fun v3 wr => ∃ (T : List Wn) (A : Option Addr) (c : Nat), v3 = .slice A T.length c ∧ T.length ≤ n ∧ Hid (wr.ownsRow w.heap.size 81 2 (.slice A T.length c) T.length (T.flatMap Wn.cells)) ∧ Hid (Drew B l a (6 + 6 * T.length) w wr)) (fun v3 _ => n - lenOf v3)
    case atStart => exact ⟨[], none, 0, rfl, Nat.zero_le _, Lib.hid (World.ownsRow_nil _ _ _ _), HD6⟩
    case round =>
      obtain ⟨T, A, c, rfl, hTn, HOW, HDR⟩ := hrel
      obtain ⟨wA, rfl⟩ : ∃ wA : World, wA = wr := ⟨_, rfl⟩
      by_cases hlt : T.length < n
      · have hlt2 : (T.length : Int) < (n : Int) := by omega
        have hdR := HDR.out
        obtain ⟨q, hq0⟩ : ∃ q, 6 + 6 * T.length = q := ⟨_, rfl⟩
        rw [hq0] at hdR
        have hq1 : q ≤ 100 := by omega
        have HD := Lib.hid hdR
        clear hdR
        go_wp2_with fail
        refine (pick_c B l HL.out (a + q) (by omega) 13 (by omega) _ HD.out.1).mono ?_; rintro e W10 ⟨x, rfl, hx, hd⟩
        have HOW := Lib.hid (own_draw HOW.out hd.2 hBb)
        have HD := Lib.hid (HD.out.trans hd)
        clear hd
        have sx : IntKind.i64.wrap (50 * (x : Int)) = 50 * (x : Int) := IntWalk.i64_in _ (by omega)
        go_wp2_with fail
        refine (pick_c B l HL.out (a + (q + 2)) (by omega) 200 (by omega) _ HD.out.1).mono ?_; rintro e W11 ⟨y, rfl, hy, hd⟩
        have HOW := Lib.hid (own_draw HOW.out hd.2 hBb)
        have HD := Lib.hid (HD.out.trans hd)
        clear hd
        go_wp2_with fail
        generalize hW : World.alloc W11 _ = W12
        have hq : RdI W12 (.slice (some ⟨W11.heap.size, 0, none⟩) 5 5) [30, 60, 90, 120, (y : Int)] := by subst hW; exact rd_new W11 rfl (Nat.le_refl _) (by rw [maxLen_eq]; omega)
        have hbl : Below W11.heap.size W11 W12 := by subst hW; exact bel_al (Below.refl _ _) _
        have hBW := HD.out.1.lt
        have HD := Lib.hid (HD.out.bel hbl)
        have HOW := Lib.hid (own_below HOW.out hbl)
        clear hW hbl
        refine (among_c B l HL.out (a + (q + 4)) (by omega) _ [30, 60, 90, 120, (y : Int)] (by simp) (by simp) _ HD.out.1 hq (lit_ne hBW)).mono ?_; rintro e W13 ⟨z, rfl, _, hd⟩
        clear hq hBW
        have HOW4 := Lib.hid (own_draw HOW.out hd.2 hBb)
        have HD4 := Lib.hid (HD.out.trans hd)
        have hs4 := HD4.out.2.size
        clear hd
        obtain ⟨al, hal⟩ : ∃ al : Int, 50 * (x : Int) = al := ⟨_, rfl⟩
        simp only [sx, hal]
        clear hal sx
        go_wp2_with (at_builtin; refine wpList_app_rd _ rfl _ _ 44 rfl w.heap.size 81 i0 _ 2 16 Tryd.underlying44 hi hz0 hz1 hz2 rfl (by decide) _ _ _ rfl (HOW4.out.alloc _) _ 1 [.int .i64 al, .int .i64 z] rfl (rd_new _ rfl (Nat.le_refl _) (by rw [maxLen_eq]; omega)) rfl (by intro u hu; simp at hu; rcases hu with rfl | rfl <;> rfl) (by rw [maxLen_eq]; omega) (by omega) (by simp; omega) ?_; intro v7 w7 hown7 hgrow7 _)
        obtain ⟨A7, c7, rfl, _⟩ := own_rd hown7
        have hlo := HOW4.out.lt
        have hB7 : Drew B l a (q + 6) w w7 := HD4.out.app hgrow7 (fun q e => (hlo q e).1) hBb
        refine ⟨⟨T ++ [⟨al, z⟩], A7, c7, by simp, by simp; omega, Lib.hid ?_, Lib.hid ?_⟩, by simp [lenOf]; omega⟩
        · rw [flat_snoc_wn, List.length_append]; exact hown7
        · rw [List.length_append]; exact hB7.more (by simp; omega)
      · have hge : (n : Int) ≤ (T.length : Int) := by omega
        have HD90 := Lib.hid (HDR.out.more (k' := 90) (by omega))
        clear HDR
        by_cases hT0 : T.length = 0
        · have hn0 : n = 0 := by omega
          subst hn0
          have HT0 := Lib.hid hT0
          clear hT0
          go_wp2
          go_ret
          exact ⟨_, T, rfl, HOW.out, by have := HT0.out; omega, HD90.out.more (by omega)⟩
        · obtain ⟨g, rfl, hg0, hg1⟩ := own_at HOW.out (by omega)
          obtain ⟨t0, T1, hT⟩ : ∃ t0 T1, T = t0 :: T1 := by
            cases T with
            | nil => simp at hT0
            | cons x y => exact ⟨_, _, rfl⟩
          have HTC := Lib.hid hT
          have hnp : (0 : Int) < (n : Int) := by omega
          have hnp2 : 0 < n := by omega
          have hlI : (0 : Int) < (T.length : Int) := by omega
          have HLE := Lib.hid hTn
          clear hT hTn hT0
          go_wp2_with fail
          refine (one_c B l HL.out (a + 90) (by omega) 20 (by omega) _ HD90.out.1).mono ?_; rintro e W20 ⟨b2, rfl, hd⟩
          have HOW := Lib.hid (own_draw HOW.out hd.2 hBb)
          have HD := Lib.hid (HD90.out.trans hd)
          have sz20 := hd.2.size
          clear hd
          cases b2
          · go_wp2
            go_ret
            exact ⟨_, T, rfl, HOW.out, by have := HLE.out; omega, HD.out.more (by omega)⟩
          · go_wp2_with fail
            generalize hW : World.alloc W20 _ = W21
            have hq : RdI W21 (.slice (some ⟨W20.heap.size, 0, none⟩) 2 2) [601, -1] := by subst hW; exact rd_new W20 rfl (Nat.le_refl _) (by rw [maxLen_eq]; omega)
            have hbl : Below W20.heap.size W20 W21 := by subst hW; exact bel_al (Below.refl _ _) _
            have hBW := HD.out.1.lt
            have HD := Lib.hid (HD.out.bel hbl)
            have HOW := Lib.hid (own_below HOW.out hbl)
            clear hW hbl
            refine (among_c B l HL.out (a + 92) (by omega) _ [601, -1] (by simp) (by simp) _ HD.out.1 hq (lit_ne hBW)).mono ?_; rintro e W22 ⟨z, rfl, _, hd⟩
            clear hq hBW
            have HOW := Lib.hid (own_draw HOW.out hd.2 hBb)
            have HD := Lib.hid (HD.out.trans hd)
            clear hd
            have t9 := HOW.out.cellAt 0 (by omega)
            have f9 := HOW.out.frozenAt 0
            rw [HTC.out] at t9
            simp only [List.flatMap_cons, Wn.cells, List.cons_append, List.getElem?_cons_zero] at t9
            have HP : Hid ((W22.setCell ⟨g, 0, none⟩ (.int .i64 z)).ownsRow w.heap.size 81 2 (.slice (some ⟨g, 0, none⟩) T.length c) T.length ((⟨z, t0.up⟩ :: T1 : List Wn).flatMap Wn.cells)) := Lib.hid (by
              have h := own_put [.int .i64 z] W22 _ 0 HOW.out
              rw [HTC.out] at h ⊢
              exact h)
            have HSD := Lib.hid (HD.out.own (only_setCell (World.grownBy.refl _ (some g)) 0 (.int .i64 z)) (by omega) hBb)
            go_wp2
            go_ret
            exact ⟨_, ⟨z, t0.up⟩ :: T1, rfl, by have h := HP.out; have e : (⟨z, t0.up⟩ :: T1 : List Wn).length = T.length := by rw [HTC.out]; rfl
                                                rw [e]; exact h, by have := HLE.out; rw [HTC.out] at this; simp at this ⊢; omega, HSD.out.more (by omega)⟩
end Go.Proofs.YtibkadkodblefaaDoor
