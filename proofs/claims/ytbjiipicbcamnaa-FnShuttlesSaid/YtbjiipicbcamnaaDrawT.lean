/-
  Draws of tankers, flows and foam (printed by gen_draw.py): whatever the bytes, they end and hand back numbers and tankers.
-/
import Derived.Test.YtbjiipicbcamnaaDrawG
import Derived.Test.YtbjiipicbcamnaaTank
import Derived.Test.YtbjiipicbcamnaaApp
import Derived.Test.YtbjiipicbcamnaaOwn
import Derived.Test.YtbjiipicbcamnaaRep
import Derived.Deep.DeepCutAuto
import Derived.Deep.CutBlock
namespace Go.Proofs.Ytbjiipicbcamnaa
open Go.RowKit


set_option maxRecDepth 100000 in
set_option maxHeartbeats 2000000 in
theorem takenFlow_c (B : Nat) (l : List Int) (hl : BytesOk l) (a : Nat) (ha : a ≤ 4611686018427380000) (w : World) (hc : CurAt B l a w) :
    Calls Try.prog 44 #[.pointer (some ⟨B, 0, none⟩)] w fun e w' => ∃ y : Int, e = .returned (.int .i64 y) ∧ Drew B l a 6 w w' := by
  have HL := Lib.hid hl
  have HD := Lib.hid (Drew.refl hc 0)
  have hBb : B < w.heap.size := hc.lt
  clear hc hl
  go_enter Try.func44, Try.ntmps44
  go_wp2_with fail
  refine (pick_c B l HL.out (a + 0) (by omega) 2400 (by omega) _ HD.out.1).mono ?_; rintro e W1 ⟨x2, rfl, hx2, hd⟩
  have HD := Lib.hid (HD.out.trans hd)
  have szW1 := hd.2.size
  clear hd
  have s1 : IntKind.i64.wrap (1 + (x2 : Int)) = 1 + (x2 : Int) := IntWalk.i64_in _ (by omega)
  go_wp2_with fail
  generalize hW : World.alloc W1 _ = W3
  have hq : RdI W3 (.slice (some ⟨W1.heap.size, 0, none⟩) 2 2) [0, 6001] := by subst hW; exact rd_new W1 rfl (Nat.le_refl _) (by rw [maxLen_eq]; omega)
  have hbl : Below W1.heap.size W1 W3 := by subst hW; exact bel_al (Below.refl _ _) _
  have hBW := HD.out.1.lt
  have HD := Lib.hid (HD.out.bel hbl)
  have szW3 := hbl.size
  clear hW hbl
  refine (among_c B l HL.out (a + 2) (by omega) _ [0, 6001] (by simp) (by simp) _ HD.out.1 hq (lit_ne hBW)).mono ?_; rintro e W4 ⟨y5, rfl, _, hd⟩
  clear hq hBW
  have HD := Lib.hid (HD.out.trans hd)
  have szW4 := hd.2.size
  clear hd
  go_wp2_with fail
  generalize hW : World.alloc W4 _ = W6
  have hq : RdI W6 (.slice (some ⟨W4.heap.size, 0, none⟩) 7 7) [1, 400, 600, 1200, 6000, 1 + (x2 : Int), y5] := by subst hW; exact rd_new W4 rfl (Nat.le_refl _) (by rw [maxLen_eq]; omega)
  have hbl : Below W4.heap.size W4 W6 := by subst hW; exact bel_al (Below.refl _ _) _
  have hBW := HD.out.1.lt
  have HD := Lib.hid (HD.out.bel hbl)
  have szW6 := hbl.size
  clear hW hbl
  refine (among_c B l HL.out (a + 4) (by omega) _ [1, 400, 600, 1200, 6000, 1 + (x2 : Int), y5] (by simp) (by simp) _ HD.out.1 hq (lit_ne hBW)).mono ?_; rintro e W7 ⟨y8, rfl, _, hd⟩
  clear hq hBW
  have HD := Lib.hid (HD.out.trans hd)
  have szW7 := hd.2.size
  clear hd
  go_wp2
  go_ret
  exact ⟨y8, rfl, HD.out⟩
set_option maxRecDepth 100000 in
set_option maxHeartbeats 2000000 in
theorem secondsOf_c (B : Nat) (l : List Int) (hl : BytesOk l) (a : Nat) (ha : a ≤ 4611686018427380000) (w : World) (hc : CurAt B l a w) :
    Calls Try.prog 45 #[.pointer (some ⟨B, 0, none⟩)] w fun e w' => ∃ y : Int, e = .returned (.int .i64 y) ∧ Drew B l a 4 w w' := by
  have HL := Lib.hid hl
  have HD := Lib.hid (Drew.refl hc 0)
  have hBb : B < w.heap.size := hc.lt
  clear hc hl
  go_enter Try.func45, Try.ntmps45
  go_wp2_with fail
  generalize hW : World.alloc w _ = W9
  have hq : RdI W9 (.slice (some ⟨w.heap.size, 0, none⟩) 2 2) [-1, 36001] := by subst hW; exact rd_new w rfl (Nat.le_refl _) (by rw [maxLen_eq]; omega)
  have hbl : Below w.heap.size w W9 := by subst hW; exact bel_al (Below.refl _ _) _
  have hBW := HD.out.1.lt
  have HD := Lib.hid (HD.out.bel hbl)
  have szW9 := hbl.size
  clear hW hbl
  refine (among_c B l HL.out (a + 0) (by omega) _ [-1, 36001] (by simp) (by simp) _ HD.out.1 hq (lit_ne hBW)).mono ?_; rintro e W10 ⟨y11, rfl, _, hd⟩
  clear hq hBW
  have HD := Lib.hid (HD.out.trans hd)
  have szW10 := hd.2.size
  clear hd
  go_wp2_with fail
  generalize hW : World.alloc W10 _ = W12
  have hq : RdI W12 (.slice (some ⟨W10.heap.size, 0, none⟩) 8 8) [0, 60, 119, 120, 600, 3600, 36000, y11] := by subst hW; exact rd_new W10 rfl (Nat.le_refl _) (by rw [maxLen_eq]; omega)
  have hbl : Below W10.heap.size W10 W12 := by subst hW; exact bel_al (Below.refl _ _) _
  have hBW := HD.out.1.lt
  have HD := Lib.hid (HD.out.bel hbl)
  have szW12 := hbl.size
  clear hW hbl
  refine (among_c B l HL.out (a + 2) (by omega) _ [0, 60, 119, 120, 600, 3600, 36000, y11] (by simp) (by simp) _ HD.out.1 hq (lit_ne hBW)).mono ?_; rintro e W13 ⟨y14, rfl, _, hd⟩
  clear hq hBW
  have HD := Lib.hid (HD.out.trans hd)
  have szW13 := hd.2.size
  clear hd
  go_wp2
  go_ret
  exact ⟨y14, rfl, HD.out⟩
set_option maxRecDepth 100000 in
set_option maxHeartbeats 4000000 in
theorem tanker_c (B : Nat) (l : List Int) (hl : BytesOk l) (a : Nat) (ha : a ≤ 4611686018427380000) (w : World) (hc : CurAt B l a w) :
    Calls Try.prog 51 #[.pointer (some ⟨B, 0, none⟩)] w fun e w' => ∃ t : Tk, e = .returned (.agg #[.int .i64 t.l, .int .i64 t.f, .int .i64 t.d, .int .i64 t.e]) ∧ Drew B l a 14 w w' := by
  have HL := Lib.hid hl
  have HD := Lib.hid (Drew.refl hc 0)
  have hBb : B < w.heap.size := hc.lt
  clear hc hl
  go_enter Try.func51, Try.ntmps51
  go_wp2_with fail
  generalize hW : World.alloc w _ = W15
  have hr0 : W15.ownsRow w.heap.size 42 4 (.slice (some ⟨w.heap.size, 0, none⟩) 1 1) 1 [.int .i64 0, .int .i64 0, .int .i64 0, .int .i64 0] := by subst hW; exact row_new w _ _ 1 4 rfl (by omega) (by omega)
  have HD := Lib.hid (HD.out.bel (show Below w.heap.size w W15 by subst hW; exact bel_al (Below.refl _ _) _))
  have sz0 : w.heap.size < W15.heap.size := by subst hW; simp
  have HR := Lib.hid hr0
  clear hW hr0
  refine (pick_c B l HL.out (a + 0) (by omega) 8000 (by omega) _ HD.out.1).mono ?_; rintro e W16 ⟨x17, rfl, hx17, hd⟩
  have HD := Lib.hid (HD.out.trans hd)
  have HR := Lib.hid (own_draw HR.out hd.2 hBb)
  have szW16 := hd.2.size
  clear hd
  have s1 : IntKind.i64.wrap (500 + (x17 : Int)) = 500 + (x17 : Int) := IntWalk.i64_in _ (by omega)
  go_wp2_with fail
  generalize hW : World.alloc W16 _ = W18
  have hq : RdI W18 (.slice (some ⟨W16.heap.size, 0, none⟩) 6 6) [2500, 6000, 6000, 20000, 500, 500 + (x17 : Int)] := by subst hW; exact rd_new W16 rfl (Nat.le_refl _) (by rw [maxLen_eq]; omega)
  have hbl : Below W16.heap.size W16 W18 := by subst hW; exact bel_al (Below.refl _ _) _
  have hBW := HD.out.1.lt
  have HD := Lib.hid (HD.out.bel hbl)
  have HR := Lib.hid (own_below HR.out hbl)
  have szW18 := hbl.size
  clear hW hbl
  refine (among_c B l HL.out (a + 2) (by omega) _ [2500, 6000, 6000, 20000, 500, 500 + (x17 : Int)] (by simp) (by simp) _ HD.out.1 hq (lit_ne hBW)).mono ?_; rintro e W19 ⟨y20, rfl, _, hd⟩
  clear hq hBW
  have HD := Lib.hid (HD.out.trans hd)
  have HR := Lib.hid (own_draw HR.out hd.2 hBb)
  have szW19 := hd.2.size
  clear hd
  go_wp2_with fail
  generalize hW : World.alloc W19 _ = W21
  have hq : RdI W21 (.slice (some ⟨W19.heap.size, 0, none⟩) 5 5) [120, 60, 240, 10, 3600] := by subst hW; exact rd_new W19 rfl (Nat.le_refl _) (by rw [maxLen_eq]; omega)
  have hbl : Below W19.heap.size W19 W21 := by subst hW; exact bel_al (Below.refl _ _) _
  have hBW := HD.out.1.lt
  have HD := Lib.hid (HD.out.bel hbl)
  have HR := Lib.hid (own_below HR.out hbl)
  have szW21 := hbl.size
  clear hW hbl
  refine (among_c B l HL.out (a + 4) (by omega) _ [120, 60, 240, 10, 3600] (by simp) (by simp) _ HD.out.1 hq (lit_ne hBW)).mono ?_; rintro e W22 ⟨y23, rfl, _, hd⟩
  clear hq hBW
  have HD := Lib.hid (HD.out.trans hd)
  have HR := Lib.hid (own_draw HR.out hd.2 hBb)
  have szW22 := hd.2.size
  clear hd
  go_wp2_with fail
  generalize hW : World.alloc W22 _ = W24
  have hq : RdI W24 (.slice (some ⟨W22.heap.size, 0, none⟩) 6 6) [180, 300, 60, 10, 600, 3600] := by subst hW; exact rd_new W22 rfl (Nat.le_refl _) (by rw [maxLen_eq]; omega)
  have hbl : Below W22.heap.size W22 W24 := by subst hW; exact bel_al (Below.refl _ _) _
  have hBW := HD.out.1.lt
  have HD := Lib.hid (HD.out.bel hbl)
  have HR := Lib.hid (own_below HR.out hbl)
  have szW24 := hbl.size
  clear hW hbl
  refine (among_c B l HL.out (a + 6) (by omega) _ [180, 300, 60, 10, 600, 3600] (by simp) (by simp) _ HD.out.1 hq (lit_ne hBW)).mono ?_; rintro e W25 ⟨y26, rfl, _, hd⟩
  clear hq hBW
  have HD := Lib.hid (HD.out.trans hd)
  have HR := Lib.hid (own_draw HR.out hd.2 hBb)
  have szW25 := hd.2.size
  clear hd
  go_wp2_with fail
  generalize hW : World.alloc W25 _ = W27
  have hq : RdI W27 (.slice (some ⟨W25.heap.size, 0, none⟩) 4 4) [120, 60, 90, 10] := by subst hW; exact rd_new W25 rfl (Nat.le_refl _) (by rw [maxLen_eq]; omega)
  have hbl : Below W25.heap.size W25 W27 := by subst hW; exact bel_al (Below.refl _ _) _
  have hBW := HD.out.1.lt
  have HD := Lib.hid (HD.out.bel hbl)
  have HR := Lib.hid (own_below HR.out hbl)
  have szW27 := hbl.size
  clear hW hbl
  refine (among_c B l HL.out (a + 8) (by omega) _ [120, 60, 90, 10] (by simp) (by simp) _ HD.out.1 hq (lit_ne hBW)).mono ?_; rintro e W28 ⟨y29, rfl, _, hd⟩
  clear hq hBW
  have HD := Lib.hid (HD.out.trans hd)
  have HR := Lib.hid (own_draw HR.out hd.2 hBb)
  have szW28 := hd.2.size
  clear hd
  go_wp2_with fail
  generalize hW : World.alloc W28 _ = W30
  have hr0 : W30.ownsRow w.heap.size 42 4 (.slice (some ⟨W28.heap.size, 0, none⟩) 1 1) 1 [.int .i64 y20, .int .i64 y23, .int .i64 y26, .int .i64 y29] := by subst hW; exact own_base (row_new W28 _ _ 1 4 rfl (by omega) (by omega)) (by omega)
  have hbl : Below W28.heap.size W28 W30 := by subst hW; exact bel_al (Below.refl _ _) _
  have HD := Lib.hid (HD.out.bel hbl)
  have HR := Lib.hid (own_below HR.out hbl)
  have HT := Lib.hid hr0
  obtain ⟨R, hRR⟩ : ∃ R, W28.heap.size = R := ⟨_, rfl⟩
  have hwR : w.heap.size < R := by omega
  rw [hRR] at HT ⊢
  clear hW hr0 hbl hRR
  refine (pick_c B l HL.out (a + 10) (by omega) 40 (by omega) _ HD.out.1).mono ?_; rintro e W31 ⟨x32, rfl, hx32, hd⟩
  have HD := Lib.hid (HD.out.trans hd)
  have HR := Lib.hid (own_draw HR.out hd.2 hBb)
  have HT := Lib.hid (own_draw HT.out hd.2 hBb)
  have szW31 := hd.2.size
  clear hd
  rcases (show x32 = 0 ∨ x32 = 1 ∨ x32 = 2 ∨ x32 = 3 ∨ 4 ≤ x32 by omega) with hx | hx | hx | hx | hx
  · subst hx
    go_wp2_with fail
    generalize hW : World.alloc W31 _ = W33
    have hq : RdI W33 (.slice (some ⟨W31.heap.size, 0, none⟩) 3 3) [499, 20001, -9223372036854775808] := by subst hW; exact rd_new W31 rfl (Nat.le_refl _) (by rw [maxLen_eq]; omega)
    have hbl : Below W31.heap.size W31 W33 := by subst hW; exact bel_al (Below.refl _ _) _
    have hBW := HD.out.1.lt
    have HD := Lib.hid (HD.out.bel hbl)
    have HR := Lib.hid (own_below HR.out hbl)
    have HT := Lib.hid (own_below HT.out hbl)
    have szW33 := hbl.size
    clear hW hbl
    refine (among_c B l HL.out (a + 12) (by omega) _ [499, 20001, -9223372036854775808] (by simp) (by simp) _ HD.out.1 hq (lit_ne hBW)).mono ?_; rintro e W34 ⟨y35, rfl, _, hd⟩
    clear hq hBW
    have HD := Lib.hid (HD.out.trans hd)
    have HR := Lib.hid (own_draw HR.out hd.2 hBb)
    have HT := Lib.hid (own_draw HT.out hd.2 hBb)
    have szW34 := hd.2.size
    clear hd
    have t9 := HT.out.cellAt 0 (by omega)
    dsimp only [List.getElem?_cons_zero, List.getElem?_cons_succ] at t9
    have f9 := HT.out.frozenAt 0
    have HST : Hid ((W34.setCell ⟨R, 0, none⟩ (.int .i64 y35)).ownsRow w.heap.size 42 4 (.slice (some ⟨R, 0, none⟩) 1 1) 1 [.int .i64 y35, .int .i64 y23, .int .i64 y26, .int .i64 y29]) := Lib.hid (own_put [_] W34 _ 0 HT.out)
    have HSR : Hid ((W34.setCell ⟨R, 0, none⟩ (.int .i64 y35)).ownsRow w.heap.size 42 4 (.slice (some ⟨w.heap.size, 0, none⟩) 1 1) 1 [.int .i64 0, .int .i64 0, .int .i64 0, .int .i64 0]) := Lib.hid (HR.out.kept (only_setCell (World.grownBy.refl _ (some R)) 0 _) (.inr (fun hq => by have : w.heap.size = R := Option.some.inj hq; omega)))
    have HSD := Lib.hid (HD.out.own (only_setCell (World.grownBy.refl _ (some R)) 0 (.int .i64 y35)) (by omega) hBb)
    have t0 := HT.out.cellAt 0 (by omega)
    have t1 := HT.out.cellAt 1 (by omega)
    have t2 := HT.out.cellAt 2 (by omega)
    have t3 := HT.out.cellAt 3 (by omega)
    have r0 := HR.out.cellAt 0 (by omega)
    have r1 := HR.out.cellAt 1 (by omega)
    have r2 := HR.out.cellAt 2 (by omega)
    have r3 := HR.out.cellAt 3 (by omega)
    have f0 := HR.out.frozenAt 0
    have f1 := HR.out.frozenAt 1
    have f2 := HR.out.frozenAt 2
    have f3 := HR.out.frozenAt 3
    have hne : w.heap.size ≠ R := by omega
    have hne2 : R ≠ w.heap.size := by omega
    dsimp only [List.getElem?_cons_zero, List.getElem?_cons_succ] at t0 t1 t2 t3 r0 r1 r2 r3
    clear t9
    go_wp2
    refine bodyPost_ret (v := .agg #[.int .i64 y35, .int .i64 y23, .int .i64 y26, .int .i64 y29]) (by simp [results, Try.results51, go_sem, r0, r1, r2, r3, hne, hne2]) rfl ?_
    exact ⟨⟨y35, y23, y26, y29⟩, rfl, (HSD.out.own (only_setCell (only_setCell (only_setCell (only_setCell (World.grownBy.refl _ _) 0 _) 1 _) 2 _) 3 _) (Nat.le_refl _) hBb).more (by omega)⟩
  · subst hx
    go_wp2_with fail
    generalize hW : World.alloc W31 _ = W37
    have hq : RdI W37 (.slice (some ⟨W31.heap.size, 0, none⟩) 2 2) [9, 3601] := by subst hW; exact rd_new W31 rfl (Nat.le_refl _) (by rw [maxLen_eq]; omega)
    have hbl : Below W31.heap.size W31 W37 := by subst hW; exact bel_al (Below.refl _ _) _
    have hBW := HD.out.1.lt
    have HD := Lib.hid (HD.out.bel hbl)
    have HR := Lib.hid (own_below HR.out hbl)
    have HT := Lib.hid (own_below HT.out hbl)
    have szW37 := hbl.size
    clear hW hbl
    refine (among_c B l HL.out (a + 12) (by omega) _ [9, 3601] (by simp) (by simp) _ HD.out.1 hq (lit_ne hBW)).mono ?_; rintro e W38 ⟨y39, rfl, _, hd⟩
    clear hq hBW
    have HD := Lib.hid (HD.out.trans hd)
    have HR := Lib.hid (own_draw HR.out hd.2 hBb)
    have HT := Lib.hid (own_draw HT.out hd.2 hBb)
    have szW38 := hd.2.size
    clear hd
    have t9 := HT.out.cellAt 1 (by omega)
    dsimp only [List.getElem?_cons_zero, List.getElem?_cons_succ] at t9
    have f9 := HT.out.frozenAt 1
    have HST : Hid ((W38.setCell ⟨R, 1, none⟩ (.int .i64 y39)).ownsRow w.heap.size 42 4 (.slice (some ⟨R, 0, none⟩) 1 1) 1 [.int .i64 y20, .int .i64 y39, .int .i64 y26, .int .i64 y29]) := Lib.hid (own_put [_] W38 _ 1 HT.out)
    have HSR : Hid ((W38.setCell ⟨R, 1, none⟩ (.int .i64 y39)).ownsRow w.heap.size 42 4 (.slice (some ⟨w.heap.size, 0, none⟩) 1 1) 1 [.int .i64 0, .int .i64 0, .int .i64 0, .int .i64 0]) := Lib.hid (HR.out.kept (only_setCell (World.grownBy.refl _ (some R)) 1 _) (.inr (fun hq => by have : w.heap.size = R := Option.some.inj hq; omega)))
    have HSD := Lib.hid (HD.out.own (only_setCell (World.grownBy.refl _ (some R)) 1 (.int .i64 y39)) (by omega) hBb)
    have t0 := HT.out.cellAt 0 (by omega)
    have t1 := HT.out.cellAt 1 (by omega)
    have t2 := HT.out.cellAt 2 (by omega)
    have t3 := HT.out.cellAt 3 (by omega)
    have r0 := HR.out.cellAt 0 (by omega)
    have r1 := HR.out.cellAt 1 (by omega)
    have r2 := HR.out.cellAt 2 (by omega)
    have r3 := HR.out.cellAt 3 (by omega)
    have f0 := HR.out.frozenAt 0
    have f1 := HR.out.frozenAt 1
    have f2 := HR.out.frozenAt 2
    have f3 := HR.out.frozenAt 3
    have hne : w.heap.size ≠ R := by omega
    have hne2 : R ≠ w.heap.size := by omega
    dsimp only [List.getElem?_cons_zero, List.getElem?_cons_succ] at t0 t1 t2 t3 r0 r1 r2 r3
    clear t9
    go_wp2
    refine bodyPost_ret (v := .agg #[.int .i64 y20, .int .i64 y39, .int .i64 y26, .int .i64 y29]) (by simp [results, Try.results51, go_sem, r0, r1, r2, r3, hne, hne2]) rfl ?_
    exact ⟨⟨y20, y39, y26, y29⟩, rfl, (HSD.out.own (only_setCell (only_setCell (only_setCell (only_setCell (World.grownBy.refl _ _) 0 _) 1 _) 2 _) 3 _) (Nat.le_refl _) hBb).more (by omega)⟩
  · subst hx
    go_wp2_with fail
    generalize hW : World.alloc W31 _ = W41
    have hq : RdI W41 (.slice (some ⟨W31.heap.size, 0, none⟩) 2 2) [9, 3601] := by subst hW; exact rd_new W31 rfl (Nat.le_refl _) (by rw [maxLen_eq]; omega)
    have hbl : Below W31.heap.size W31 W41 := by subst hW; exact bel_al (Below.refl _ _) _
    have hBW := HD.out.1.lt
    have HD := Lib.hid (HD.out.bel hbl)
    have HR := Lib.hid (own_below HR.out hbl)
    have HT := Lib.hid (own_below HT.out hbl)
    have szW41 := hbl.size
    clear hW hbl
    refine (among_c B l HL.out (a + 12) (by omega) _ [9, 3601] (by simp) (by simp) _ HD.out.1 hq (lit_ne hBW)).mono ?_; rintro e W42 ⟨y43, rfl, _, hd⟩
    clear hq hBW
    have HD := Lib.hid (HD.out.trans hd)
    have HR := Lib.hid (own_draw HR.out hd.2 hBb)
    have HT := Lib.hid (own_draw HT.out hd.2 hBb)
    have szW42 := hd.2.size
    clear hd
    have t9 := HT.out.cellAt 2 (by omega)
    dsimp only [List.getElem?_cons_zero, List.getElem?_cons_succ] at t9
    have f9 := HT.out.frozenAt 2
    have HST : Hid ((W42.setCell ⟨R, 2, none⟩ (.int .i64 y43)).ownsRow w.heap.size 42 4 (.slice (some ⟨R, 0, none⟩) 1 1) 1 [.int .i64 y20, .int .i64 y23, .int .i64 y43, .int .i64 y29]) := Lib.hid (own_put [_] W42 _ 2 HT.out)
    have HSR : Hid ((W42.setCell ⟨R, 2, none⟩ (.int .i64 y43)).ownsRow w.heap.size 42 4 (.slice (some ⟨w.heap.size, 0, none⟩) 1 1) 1 [.int .i64 0, .int .i64 0, .int .i64 0, .int .i64 0]) := Lib.hid (HR.out.kept (only_setCell (World.grownBy.refl _ (some R)) 2 _) (.inr (fun hq => by have : w.heap.size = R := Option.some.inj hq; omega)))
    have HSD := Lib.hid (HD.out.own (only_setCell (World.grownBy.refl _ (some R)) 2 (.int .i64 y43)) (by omega) hBb)
    have t0 := HT.out.cellAt 0 (by omega)
    have t1 := HT.out.cellAt 1 (by omega)
    have t2 := HT.out.cellAt 2 (by omega)
    have t3 := HT.out.cellAt 3 (by omega)
    have r0 := HR.out.cellAt 0 (by omega)
    have r1 := HR.out.cellAt 1 (by omega)
    have r2 := HR.out.cellAt 2 (by omega)
    have r3 := HR.out.cellAt 3 (by omega)
    have f0 := HR.out.frozenAt 0
    have f1 := HR.out.frozenAt 1
    have f2 := HR.out.frozenAt 2
    have f3 := HR.out.frozenAt 3
    have hne : w.heap.size ≠ R := by omega
    have hne2 : R ≠ w.heap.size := by omega
    dsimp only [List.getElem?_cons_zero, List.getElem?_cons_succ] at t0 t1 t2 t3 r0 r1 r2 r3
    clear t9
    go_wp2
    refine bodyPost_ret (v := .agg #[.int .i64 y20, .int .i64 y23, .int .i64 y43, .int .i64 y29]) (by simp [results, Try.results51, go_sem, r0, r1, r2, r3, hne, hne2]) rfl ?_
    exact ⟨⟨y20, y23, y43, y29⟩, rfl, (HSD.out.own (only_setCell (only_setCell (only_setCell (only_setCell (World.grownBy.refl _ _) 0 _) 1 _) 2 _) 3 _) (Nat.le_refl _) hBb).more (by omega)⟩
  · subst hx
    go_wp2_with fail
    generalize hW : World.alloc W31 _ = W45
    have hq : RdI W45 (.slice (some ⟨W31.heap.size, 0, none⟩) 3 3) [9, 3600, 3601] := by subst hW; exact rd_new W31 rfl (Nat.le_refl _) (by rw [maxLen_eq]; omega)
    have hbl : Below W31.heap.size W31 W45 := by subst hW; exact bel_al (Below.refl _ _) _
    have hBW := HD.out.1.lt
    have HD := Lib.hid (HD.out.bel hbl)
    have HR := Lib.hid (own_below HR.out hbl)
    have HT := Lib.hid (own_below HT.out hbl)
    have szW45 := hbl.size
    clear hW hbl
    refine (among_c B l HL.out (a + 12) (by omega) _ [9, 3600, 3601] (by simp) (by simp) _ HD.out.1 hq (lit_ne hBW)).mono ?_; rintro e W46 ⟨y47, rfl, _, hd⟩
    clear hq hBW
    have HD := Lib.hid (HD.out.trans hd)
    have HR := Lib.hid (own_draw HR.out hd.2 hBb)
    have HT := Lib.hid (own_draw HT.out hd.2 hBb)
    have szW46 := hd.2.size
    clear hd
    have t9 := HT.out.cellAt 3 (by omega)
    dsimp only [List.getElem?_cons_zero, List.getElem?_cons_succ] at t9
    have f9 := HT.out.frozenAt 3
    have HST : Hid ((W46.setCell ⟨R, 3, none⟩ (.int .i64 y47)).ownsRow w.heap.size 42 4 (.slice (some ⟨R, 0, none⟩) 1 1) 1 [.int .i64 y20, .int .i64 y23, .int .i64 y26, .int .i64 y47]) := Lib.hid (own_put [_] W46 _ 3 HT.out)
    have HSR : Hid ((W46.setCell ⟨R, 3, none⟩ (.int .i64 y47)).ownsRow w.heap.size 42 4 (.slice (some ⟨w.heap.size, 0, none⟩) 1 1) 1 [.int .i64 0, .int .i64 0, .int .i64 0, .int .i64 0]) := Lib.hid (HR.out.kept (only_setCell (World.grownBy.refl _ (some R)) 3 _) (.inr (fun hq => by have : w.heap.size = R := Option.some.inj hq; omega)))
    have HSD := Lib.hid (HD.out.own (only_setCell (World.grownBy.refl _ (some R)) 3 (.int .i64 y47)) (by omega) hBb)
    have t0 := HT.out.cellAt 0 (by omega)
    have t1 := HT.out.cellAt 1 (by omega)
    have t2 := HT.out.cellAt 2 (by omega)
    have t3 := HT.out.cellAt 3 (by omega)
    have r0 := HR.out.cellAt 0 (by omega)
    have r1 := HR.out.cellAt 1 (by omega)
    have r2 := HR.out.cellAt 2 (by omega)
    have r3 := HR.out.cellAt 3 (by omega)
    have f0 := HR.out.frozenAt 0
    have f1 := HR.out.frozenAt 1
    have f2 := HR.out.frozenAt 2
    have f3 := HR.out.frozenAt 3
    have hne : w.heap.size ≠ R := by omega
    have hne2 : R ≠ w.heap.size := by omega
    dsimp only [List.getElem?_cons_zero, List.getElem?_cons_succ] at t0 t1 t2 t3 r0 r1 r2 r3
    clear t9
    go_wp2
    refine bodyPost_ret (v := .agg #[.int .i64 y20, .int .i64 y23, .int .i64 y26, .int .i64 y47]) (by simp [results, Try.results51, go_sem, r0, r1, r2, r3, hne, hne2]) rfl ?_
    exact ⟨⟨y20, y23, y26, y47⟩, rfl, (HSD.out.own (only_setCell (only_setCell (only_setCell (only_setCell (World.grownBy.refl _ _) 0 _) 1 _) 2 _) 3 _) (Nat.le_refl _) hBb).more (by omega)⟩
  · have n0 : ((x32 : Int) == 0) = false := beq_false_of_ne (by omega)
    have n1 : ((x32 : Int) == 1) = false := beq_false_of_ne (by omega)
    have n2 : ((x32 : Int) == 2) = false := beq_false_of_ne (by omega)
    have n3 : ((x32 : Int) == 3) = false := beq_false_of_ne (by omega)
    have t0 := HT.out.cellAt 0 (by omega)
    have t1 := HT.out.cellAt 1 (by omega)
    have t2 := HT.out.cellAt 2 (by omega)
    have t3 := HT.out.cellAt 3 (by omega)
    have r0 := HR.out.cellAt 0 (by omega)
    have r1 := HR.out.cellAt 1 (by omega)
    have r2 := HR.out.cellAt 2 (by omega)
    have r3 := HR.out.cellAt 3 (by omega)
    have f0 := HR.out.frozenAt 0
    have f1 := HR.out.frozenAt 1
    have f2 := HR.out.frozenAt 2
    have f3 := HR.out.frozenAt 3
    dsimp only [List.getElem?_cons_zero, List.getElem?_cons_succ] at t0 t1 t2 t3 r0 r1 r2 r3
    go_wp2
    refine bodyPost_ret (v := .agg #[.int .i64 y20, .int .i64 y23, .int .i64 y26, .int .i64 y29]) (by simp [results, Try.results51, go_sem, r0, r1, r2, r3]) rfl ?_
    exact ⟨⟨y20, y23, y26, y29⟩, rfl, (HD.out.own (only_setCell (only_setCell (only_setCell (only_setCell (World.grownBy.refl _ _) 0 _) 1 _) 2 _) 3 _) (Nat.le_refl _) hBb).more (by omega)⟩
end Go.Proofs.Ytbjiipicbcamnaa
