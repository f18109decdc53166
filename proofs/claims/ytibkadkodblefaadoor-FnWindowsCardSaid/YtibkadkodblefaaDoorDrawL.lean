/-
  Draws of ladders (printed by gen_drawl.py): whatever the bytes, they end and hand back numbers.
-/
import Derived.Test.YtibkadkodblefaaDoorDrawG
import Derived.Test.YtibkadkodblefaaDoorLadA
import Derived.Deep.DeepCutAuto
import Derived.Deep.CutBlock
namespace Go.Proofs.YtibkadkodblefaaDoor
open Go.RowKit

theorem gro_other {w w' : World} {base : Nat} {e : TypeId} {sz : Nat} {v : Value} {n : Nat} {xs : List Value} {R : Nat} (h : w.ownsRow base e sz v n xs) (g : w.grownBy w' (some R)) (hv : v.ownBlock ≠ some R) : w'.ownsRow base e sz v n xs := h.kept g (.inr hv)
def ldC (b l o s m : Int) : List Value := [.int .i64 b, .int .i64 l, .int .i64 o, .int .i64 s, .int .i64 m]

set_option maxRecDepth 100000 in
set_option maxHeartbeats 4000000 in
theorem ladder_c (B : Nat) (l : List Int) (hl : BytesOk l) (a : Nat) (ha : a ≤ 4611686018427370000) (w : World) (hc : CurAt B l a w) :
    Calls Tryd.prog 77 #[.pointer (some ⟨B, 0, none⟩)] w fun e w' => ∃ b n o s m : Int, e = .returned (ldV b n o s m) ∧ Drew B l a 20 w w' := by
  have HL := Lib.hid hl
  have HD := Lib.hid (Drew.refl hc 0)
  have hBb : B < w.heap.size := hc.lt
  clear hc hl
  go_enter Tryd.func77, Tryd.ntmps77
  go_upto_region 1 with fail
  generalize hW : World.alloc w _ = W1
  have hr0 : W1.ownsRow w.heap.size 31 5 (.slice (some ⟨w.heap.size, 0, none⟩) 1 1) 1 [.int .i64 0, .int .i64 0, .int .i64 0, .int .i64 0, .int .i64 0] := by subst hW; exact row_new w _ _ 1 5 rfl (by omega) (by omega)
  have HD := Lib.hid (HD.out.bel (show Below w.heap.size w W1 by subst hW; exact bel_al (Below.refl _ _) _))
  have sz0 : w.heap.size < W1.heap.size := by subst hW; simp
  have HR := Lib.hid hr0
  clear hW hr0
  go_wp2_with fail
  generalize hW : World.alloc W1 _ = W2
  have hq : RdI W2 (.slice (some ⟨W1.heap.size, 0, none⟩) 4 4) [20, 0, 40, 15] := by subst hW; exact rd_new W1 rfl (Nat.le_refl _) (by rw [maxLen_eq]; omega)
  have hbl : Below W1.heap.size W1 W2 := by subst hW; exact bel_al (Below.refl _ _) _
  have hBW := HD.out.1.lt
  have HD := Lib.hid (HD.out.bel hbl)
  have HR := Lib.hid (own_below HR.out hbl)
  have szW2 := hbl.size
  clear hW hbl
  refine (among_c B l HL.out (a + 0) (by omega) _ [20, 0, 40, 15] (by simp) (by simp) _ HD.out.1 hq (lit_ne hBW)).mono ?_; rintro e W3 ⟨y4, rfl, _, hd⟩
  clear hq hBW
  have HD := Lib.hid (HD.out.trans hd)
  have HR := Lib.hid (own_draw HR.out hd.2 hBb)
  have szW3 := hd.2.size
  clear hd
  go_wp2_with fail
  generalize hW : World.alloc W3 _ = W5
  have hq : RdI W5 (.slice (some ⟨W3.heap.size, 0, none⟩) 5 5) [300, 100, 50, 180, 600] := by subst hW; exact rd_new W3 rfl (Nat.le_refl _) (by rw [maxLen_eq]; omega)
  have hbl : Below W3.heap.size W3 W5 := by subst hW; exact bel_al (Below.refl _ _) _
  have hBW := HD.out.1.lt
  have HD := Lib.hid (HD.out.bel hbl)
  have HR := Lib.hid (own_below HR.out hbl)
  have szW5 := hbl.size
  clear hW hbl
  refine (among_c B l HL.out (a + 2) (by omega) _ [300, 100, 50, 180, 600] (by simp) (by simp) _ HD.out.1 hq (lit_ne hBW)).mono ?_; rintro e W6 ⟨y7, rfl, _, hd⟩
  clear hq hBW
  have HD := Lib.hid (HD.out.trans hd)
  have HR := Lib.hid (own_draw HR.out hd.2 hBb)
  have szW6 := hd.2.size
  clear hd
  go_wp2_with fail
  generalize hW : World.alloc W6 _ = W8
  have hq : RdI W8 (.slice (some ⟨W6.heap.size, 0, none⟩) 5 5) [150, 60, 200, 400, 20] := by subst hW; exact rd_new W6 rfl (Nat.le_refl _) (by rw [maxLen_eq]; omega)
  have hbl : Below W6.heap.size W6 W8 := by subst hW; exact bel_al (Below.refl _ _) _
  have hBW := HD.out.1.lt
  have HD := Lib.hid (HD.out.bel hbl)
  have HR := Lib.hid (own_below HR.out hbl)
  have szW8 := hbl.size
  clear hW hbl
  refine (among_c B l HL.out (a + 4) (by omega) _ [150, 60, 200, 400, 20] (by simp) (by simp) _ HD.out.1 hq (lit_ne hBW)).mono ?_; rintro e W9 ⟨y10, rfl, _, hd⟩
  clear hq hBW
  have HD := Lib.hid (HD.out.trans hd)
  have HR := Lib.hid (own_draw HR.out hd.2 hBb)
  have szW9 := hd.2.size
  clear hd
  go_wp2_with fail
  generalize hW : World.alloc W9 _ = W11
  have hq : RdI W11 (.slice (some ⟨W9.heap.size, 0, none⟩) 3 3) [0, 10, 30] := by subst hW; exact rd_new W9 rfl (Nat.le_refl _) (by rw [maxLen_eq]; omega)
  have hbl : Below W9.heap.size W9 W11 := by subst hW; exact bel_al (Below.refl _ _) _
  have hBW := HD.out.1.lt
  have HD := Lib.hid (HD.out.bel hbl)
  have HR := Lib.hid (own_below HR.out hbl)
  have szW11 := hbl.size
  clear hW hbl
  refine (among_c B l HL.out (a + 6) (by omega) _ [0, 10, 30] (by simp) (by simp) _ HD.out.1 hq (lit_ne hBW)).mono ?_; rintro e W12 ⟨y13, rfl, _, hd⟩
  clear hq hBW
  have HD := Lib.hid (HD.out.trans hd)
  have HR := Lib.hid (own_draw HR.out hd.2 hBb)
  have szW12 := hd.2.size
  clear hd
  go_wp2_with fail
  generalize hW : World.alloc W12 _ = W14
  have hq : RdI W14 (.slice (some ⟨W12.heap.size, 0, none⟩) 4 4) [75, 60, 85, 40] := by subst hW; exact rd_new W12 rfl (Nat.le_refl _) (by rw [maxLen_eq]; omega)
  have hbl : Below W12.heap.size W12 W14 := by subst hW; exact bel_al (Below.refl _ _) _
  have hBW := HD.out.1.lt
  have HD := Lib.hid (HD.out.bel hbl)
  have HR := Lib.hid (own_below HR.out hbl)
  have szW14 := hbl.size
  clear hW hbl
  refine (among_c B l HL.out (a + 8) (by omega) _ [75, 60, 85, 40] (by simp) (by simp) _ HD.out.1 hq (lit_ne hBW)).mono ?_; rintro e W15 ⟨y16, rfl, _, hd⟩
  clear hq hBW
  have HD := Lib.hid (HD.out.trans hd)
  have HR := Lib.hid (own_draw HR.out hd.2 hBb)
  have szW15 := hd.2.size
  clear hd
  go_upto_region 2 with fail
  generalize hW : World.alloc W15 _ = W17
  have hr0 : W17.ownsRow w.heap.size 31 5 (.slice (some ⟨W15.heap.size, 0, none⟩) 1 1) 1 [.int .i64 y4, .int .i64 y7, .int .i64 y10, .int .i64 y13, .int .i64 y16] := by subst hW; exact own_base (row_new W15 _ _ 1 5 rfl (by omega) (by omega)) (by omega)
  have hbl : Below W15.heap.size W15 W17 := by subst hW; exact bel_al (Below.refl _ _) _
  have HD := Lib.hid (HD.out.bel hbl)
  have HR := Lib.hid (own_below HR.out hbl)
  have HT := Lib.hid hr0
  obtain ⟨R, hRR⟩ : ∃ R, W15.heap.size = R := ⟨_, rfl⟩
  have hwR : w.heap.size < R := by omega
  rw [hRR] at HT ⊢
  clear hW hr0 hbl hRR
  go_wp2_with fail
  refine (one_c B l HL.out (a + 10) (by omega) 8 (by omega) _ HD.out.1).mono ?_; rintro e W18 ⟨b19, rfl, hd⟩
  have HD := Lib.hid (HD.out.trans hd)
  have HR := Lib.hid (own_draw HR.out hd.2 hBb)
  have HT := Lib.hid (own_draw HT.out hd.2 hBb)
  have szW18 := hd.2.size
  clear hd
  cases b19
  · go_wp2_with fail
    refine (pick_c B l HL.out (a + 12) (by omega) 30 (by omega) _ HD.out.1).mono ?_; rintro e W20 ⟨x21, rfl, hx21, hd⟩
    have HD := Lib.hid (HD.out.trans hd)
    have HR := Lib.hid (own_draw HR.out hd.2 hBb)
    have HT := Lib.hid (own_draw HT.out hd.2 hBb)
    have szW20 := hd.2.size
    clear hd
    rcases (show x21 = 0 ∨ x21 = 1 ∨ x21 = 2 ∨ x21 = 3 ∨ x21 = 4 ∨ 5 ≤ x21 by omega) with hx | hx | hx | hx | hx | hx
    · subst hx
      go_wp2_with fail
      generalize hW : World.alloc W20 _ = W22
      have hq : RdI W22 (.slice (some ⟨W20.heap.size, 0, none⟩) 2 2) [-1, 41] := by subst hW; exact rd_new W20 rfl (Nat.le_refl _) (by rw [maxLen_eq]; omega)
      have hbl : Below W20.heap.size W20 W22 := by subst hW; exact bel_al (Below.refl _ _) _
      have hBW := HD.out.1.lt
      have HD := Lib.hid (HD.out.bel hbl)
      have HR := Lib.hid (own_below HR.out hbl)
      have HT := Lib.hid (own_below HT.out hbl)
      have szW22 := hbl.size
      clear hW hbl
      refine (among_c B l HL.out (a + 14) (by omega) _ [-1, 41] (by simp) (by simp) _ HD.out.1 hq (lit_ne hBW)).mono ?_; rintro e W23 ⟨y24, rfl, _, hd⟩
      clear hq hBW
      have HD := Lib.hid (HD.out.trans hd)
      have HR := Lib.hid (own_draw HR.out hd.2 hBb)
      have HT := Lib.hid (own_draw HT.out hd.2 hBb)
      have szW23 := hd.2.size
      clear hd
      have t9 := HT.out.cellAt 0 (by omega)
      have f9 := HT.out.frozenAt 0
      dsimp only [List.getElem?_cons_zero, List.getElem?_cons_succ] at t9
      have HT2 : Hid ((W23.setCell ⟨R, 0, none⟩ (.int .i64 y24)).ownsRow w.heap.size 31 5 (.slice (some ⟨R, 0, none⟩) 1 1) 1 [.int .i64 y24, .int .i64 y7, .int .i64 y10, .int .i64 y13, .int .i64 y16]) := Lib.hid (own_put [_] W23 _ 0 HT.out)
      have HR2 := Lib.hid (show (W23.setCell ⟨R, 0, none⟩ (.int .i64 y24)).ownsRow w.heap.size 31 5 (.slice (some ⟨w.heap.size, 0, none⟩) 1 1) 1 [.int .i64 0, .int .i64 0, .int .i64 0, .int .i64 0, .int .i64 0] from gro_other HR.out (only_setCell (World.grownBy.refl _ (some R)) 0 _) (fun hq => by have : w.heap.size = R := Option.some.inj hq; omega))
      have HSD := Lib.hid (HD.out.own (only_setCell (World.grownBy.refl _ (some R)) 0 (.int .i64 y24)) (by omega) hBb)
      have hne : w.heap.size ≠ R := by omega
      have hne2 : R ≠ w.heap.size := by omega
      have t0 := HT.out.cellAt 0 (by omega)
      have t1 := HT.out.cellAt 1 (by omega)
      have t2 := HT.out.cellAt 2 (by omega)
      have t3 := HT.out.cellAt 3 (by omega)
      have t4 := HT.out.cellAt 4 (by omega)
      have r0 := HR.out.cellAt 0 (by omega)
      have r1 := HR.out.cellAt 1 (by omega)
      have r2 := HR.out.cellAt 2 (by omega)
      have r3 := HR.out.cellAt 3 (by omega)
      have r4 := HR.out.cellAt 4 (by omega)
      have f0 := HR.out.frozenAt 0
      have f1 := HR.out.frozenAt 1
      have f2 := HR.out.frozenAt 2
      have f3 := HR.out.frozenAt 3
      have f4 := HR.out.frozenAt 4
      dsimp only [List.getElem?_cons_zero, List.getElem?_cons_succ] at t0 t1 t2 t3 t4 r0 r1 r2 r3 r4
      clear t9
      go_wp2
      refine bodyPost_ret (v := ldV y24 y7 y10 y13 y16) (by simp [results, Tryd.results77, go_sem, r0, r1, r2, r3, r4, hne, hne2]) rfl ?_
      exact ⟨y24, y7, y10, y13, y16, rfl, (HSD.out.own (only_setCell (only_setCell (only_setCell (only_setCell (only_setCell (World.grownBy.refl _ _) 0 _) 1 _) 2 _) 3 _) 4 _) (Nat.le_refl _) hBb).more (by omega)⟩
    · subst hx
      go_wp2_with fail
      generalize hW : World.alloc W20 _ = W25
      have hq : RdI W25 (.slice (some ⟨W20.heap.size, 0, none⟩) 3 3) [49, 601, -9223372036854775808] := by subst hW; exact rd_new W20 rfl (Nat.le_refl _) (by rw [maxLen_eq]; omega)
      have hbl : Below W20.heap.size W20 W25 := by subst hW; exact bel_al (Below.refl _ _) _
      have hBW := HD.out.1.lt
      have HD := Lib.hid (HD.out.bel hbl)
      have HR := Lib.hid (own_below HR.out hbl)
      have HT := Lib.hid (own_below HT.out hbl)
      have szW25 := hbl.size
      clear hW hbl
      refine (among_c B l HL.out (a + 14) (by omega) _ [49, 601, -9223372036854775808] (by simp) (by simp) _ HD.out.1 hq (lit_ne hBW)).mono ?_; rintro e W26 ⟨y27, rfl, _, hd⟩
      clear hq hBW
      have HD := Lib.hid (HD.out.trans hd)
      have HR := Lib.hid (own_draw HR.out hd.2 hBb)
      have HT := Lib.hid (own_draw HT.out hd.2 hBb)
      have szW26 := hd.2.size
      clear hd
      have t9 := HT.out.cellAt 1 (by omega)
      have f9 := HT.out.frozenAt 1
      dsimp only [List.getElem?_cons_zero, List.getElem?_cons_succ] at t9
      have HT2 : Hid ((W26.setCell ⟨R, 1, none⟩ (.int .i64 y27)).ownsRow w.heap.size 31 5 (.slice (some ⟨R, 0, none⟩) 1 1) 1 [.int .i64 y4, .int .i64 y27, .int .i64 y10, .int .i64 y13, .int .i64 y16]) := Lib.hid (own_put [_] W26 _ 1 HT.out)
      have HR2 := Lib.hid (show (W26.setCell ⟨R, 1, none⟩ (.int .i64 y27)).ownsRow w.heap.size 31 5 (.slice (some ⟨w.heap.size, 0, none⟩) 1 1) 1 [.int .i64 0, .int .i64 0, .int .i64 0, .int .i64 0, .int .i64 0] from gro_other HR.out (only_setCell (World.grownBy.refl _ (some R)) 1 _) (fun hq => by have : w.heap.size = R := Option.some.inj hq; omega))
      have HSD := Lib.hid (HD.out.own (only_setCell (World.grownBy.refl _ (some R)) 1 (.int .i64 y27)) (by omega) hBb)
      have hne : w.heap.size ≠ R := by omega
      have hne2 : R ≠ w.heap.size := by omega
      have t0 := HT.out.cellAt 0 (by omega)
      have t1 := HT.out.cellAt 1 (by omega)
      have t2 := HT.out.cellAt 2 (by omega)
      have t3 := HT.out.cellAt 3 (by omega)
      have t4 := HT.out.cellAt 4 (by omega)
      have r0 := HR.out.cellAt 0 (by omega)
      have r1 := HR.out.cellAt 1 (by omega)
      have r2 := HR.out.cellAt 2 (by omega)
      have r3 := HR.out.cellAt 3 (by omega)
      have r4 := HR.out.cellAt 4 (by omega)
      have f0 := HR.out.frozenAt 0
      have f1 := HR.out.frozenAt 1
      have f2 := HR.out.frozenAt 2
      have f3 := HR.out.frozenAt 3
      have f4 := HR.out.frozenAt 4
      dsimp only [List.getElem?_cons_zero, List.getElem?_cons_succ] at t0 t1 t2 t3 t4 r0 r1 r2 r3 r4
      clear t9
      go_wp2
      refine bodyPost_ret (v := ldV y4 y27 y10 y13 y16) (by simp [results, Tryd.results77, go_sem, r0, r1, r2, r3, r4, hne, hne2]) rfl ?_
      exact ⟨y4, y27, y10, y13, y16, rfl, (HSD.out.own (only_setCell (only_setCell (only_setCell (only_setCell (only_setCell (World.grownBy.refl _ _) 0 _) 1 _) 2 _) 3 _) 4 _) (Nat.le_refl _) hBb).more (by omega)⟩
    · subst hx
      go_wp2_with fail
      generalize hW : World.alloc W20 _ = W28
      have hq : RdI W28 (.slice (some ⟨W20.heap.size, 0, none⟩) 2 2) [19, 401] := by subst hW; exact rd_new W20 rfl (Nat.le_refl _) (by rw [maxLen_eq]; omega)
      have hbl : Below W20.heap.size W20 W28 := by subst hW; exact bel_al (Below.refl _ _) _
      have hBW := HD.out.1.lt
      have HD := Lib.hid (HD.out.bel hbl)
      have HR := Lib.hid (own_below HR.out hbl)
      have HT := Lib.hid (own_below HT.out hbl)
      have szW28 := hbl.size
      clear hW hbl
      refine (among_c B l HL.out (a + 14) (by omega) _ [19, 401] (by simp) (by simp) _ HD.out.1 hq (lit_ne hBW)).mono ?_; rintro e W29 ⟨y30, rfl, _, hd⟩
      clear hq hBW
      have HD := Lib.hid (HD.out.trans hd)
      have HR := Lib.hid (own_draw HR.out hd.2 hBb)
      have HT := Lib.hid (own_draw HT.out hd.2 hBb)
      have szW29 := hd.2.size
      clear hd
      have t9 := HT.out.cellAt 2 (by omega)
      have f9 := HT.out.frozenAt 2
      dsimp only [List.getElem?_cons_zero, List.getElem?_cons_succ] at t9
      have HT2 : Hid ((W29.setCell ⟨R, 2, none⟩ (.int .i64 y30)).ownsRow w.heap.size 31 5 (.slice (some ⟨R, 0, none⟩) 1 1) 1 [.int .i64 y4, .int .i64 y7, .int .i64 y30, .int .i64 y13, .int .i64 y16]) := Lib.hid (own_put [_] W29 _ 2 HT.out)
      have HR2 := Lib.hid (show (W29.setCell ⟨R, 2, none⟩ (.int .i64 y30)).ownsRow w.heap.size 31 5 (.slice (some ⟨w.heap.size, 0, none⟩) 1 1) 1 [.int .i64 0, .int .i64 0, .int .i64 0, .int .i64 0, .int .i64 0] from gro_other HR.out (only_setCell (World.grownBy.refl _ (some R)) 2 _) (fun hq => by have : w.heap.size = R := Option.some.inj hq; omega))
      have HSD := Lib.hid (HD.out.own (only_setCell (World.grownBy.refl _ (some R)) 2 (.int .i64 y30)) (by omega) hBb)
      have hne : w.heap.size ≠ R := by omega
      have hne2 : R ≠ w.heap.size := by omega
      have t0 := HT.out.cellAt 0 (by omega)
      have t1 := HT.out.cellAt 1 (by omega)
      have t2 := HT.out.cellAt 2 (by omega)
      have t3 := HT.out.cellAt 3 (by omega)
      have t4 := HT.out.cellAt 4 (by omega)
      have r0 := HR.out.cellAt 0 (by omega)
      have r1 := HR.out.cellAt 1 (by omega)
      have r2 := HR.out.cellAt 2 (by omega)
      have r3 := HR.out.cellAt 3 (by omega)
      have r4 := HR.out.cellAt 4 (by omega)
      have f0 := HR.out.frozenAt 0
      have f1 := HR.out.frozenAt 1
      have f2 := HR.out.frozenAt 2
      have f3 := HR.out.frozenAt 3
      have f4 := HR.out.frozenAt 4
      dsimp only [List.getElem?_cons_zero, List.getElem?_cons_succ] at t0 t1 t2 t3 t4 r0 r1 r2 r3 r4
      clear t9
      go_wp2
      refine bodyPost_ret (v := ldV y4 y7 y30 y13 y16) (by simp [results, Tryd.results77, go_sem, r0, r1, r2, r3, r4, hne, hne2]) rfl ?_
      exact ⟨y4, y7, y30, y13, y16, rfl, (HSD.out.own (only_setCell (only_setCell (only_setCell (only_setCell (only_setCell (World.grownBy.refl _ _) 0 _) 1 _) 2 _) 3 _) 4 _) (Nat.le_refl _) hBb).more (by omega)⟩
    · subst hx
      go_wp2_with fail
      generalize hW : World.alloc W20 _ = W31
      have hq : RdI W31 (.slice (some ⟨W20.heap.size, 0, none⟩) 3 3) [86, -1, 9] := by subst hW; exact rd_new W20 rfl (Nat.le_refl _) (by rw [maxLen_eq]; omega)
      have hbl : Below W20.heap.size W20 W31 := by subst hW; exact bel_al (Below.refl _ _) _
      have hBW := HD.out.1.lt
      have HD := Lib.hid (HD.out.bel hbl)
      have HR := Lib.hid (own_below HR.out hbl)
      have HT := Lib.hid (own_below HT.out hbl)
      have szW31 := hbl.size
      clear hW hbl
      refine (among_c B l HL.out (a + 14) (by omega) _ [86, -1, 9] (by simp) (by simp) _ HD.out.1 hq (lit_ne hBW)).mono ?_; rintro e W32 ⟨y33, rfl, _, hd⟩
      clear hq hBW
      have HD := Lib.hid (HD.out.trans hd)
      have HR := Lib.hid (own_draw HR.out hd.2 hBb)
      have HT := Lib.hid (own_draw HT.out hd.2 hBb)
      have szW32 := hd.2.size
      clear hd
      have t9 := HT.out.cellAt 4 (by omega)
      have f9 := HT.out.frozenAt 4
      dsimp only [List.getElem?_cons_zero, List.getElem?_cons_succ] at t9
      have HT2 : Hid ((W32.setCell ⟨R, 4, none⟩ (.int .i64 y33)).ownsRow w.heap.size 31 5 (.slice (some ⟨R, 0, none⟩) 1 1) 1 [.int .i64 y4, .int .i64 y7, .int .i64 y10, .int .i64 y13, .int .i64 y33]) := Lib.hid (own_put [_] W32 _ 4 HT.out)
      have HR2 := Lib.hid (show (W32.setCell ⟨R, 4, none⟩ (.int .i64 y33)).ownsRow w.heap.size 31 5 (.slice (some ⟨w.heap.size, 0, none⟩) 1 1) 1 [.int .i64 0, .int .i64 0, .int .i64 0, .int .i64 0, .int .i64 0] from gro_other HR.out (only_setCell (World.grownBy.refl _ (some R)) 4 _) (fun hq => by have : w.heap.size = R := Option.some.inj hq; omega))
      have HSD := Lib.hid (HD.out.own (only_setCell (World.grownBy.refl _ (some R)) 4 (.int .i64 y33)) (by omega) hBb)
      have hne : w.heap.size ≠ R := by omega
      have hne2 : R ≠ w.heap.size := by omega
      have t0 := HT.out.cellAt 0 (by omega)
      have t1 := HT.out.cellAt 1 (by omega)
      have t2 := HT.out.cellAt 2 (by omega)
      have t3 := HT.out.cellAt 3 (by omega)
      have t4 := HT.out.cellAt 4 (by omega)
      have r0 := HR.out.cellAt 0 (by omega)
      have r1 := HR.out.cellAt 1 (by omega)
      have r2 := HR.out.cellAt 2 (by omega)
      have r3 := HR.out.cellAt 3 (by omega)
      have r4 := HR.out.cellAt 4 (by omega)
      have f0 := HR.out.frozenAt 0
      have f1 := HR.out.frozenAt 1
      have f2 := HR.out.frozenAt 2
      have f3 := HR.out.frozenAt 3
      have f4 := HR.out.frozenAt 4
      dsimp only [List.getElem?_cons_zero, List.getElem?_cons_succ] at t0 t1 t2 t3 t4 r0 r1 r2 r3 r4
      clear t9
      go_wp2
      refine bodyPost_ret (v := ldV y4 y7 y10 y13 y33) (by simp [results, Tryd.results77, go_sem, r0, r1, r2, r3, r4, hne, hne2]) rfl ?_
      exact ⟨y4, y7, y10, y13, y33, rfl, (HSD.out.own (only_setCell (only_setCell (only_setCell (only_setCell (only_setCell (World.grownBy.refl _ _) 0 _) 1 _) 2 _) 3 _) 4 _) (Nat.le_refl _) hBb).more (by omega)⟩
    · subst hx
      have t49 := HT.out.cellAt 4 (by omega)
      dsimp only [List.getElem?_cons_zero, List.getElem?_cons_succ] at t49
      obtain ⟨mm, hmm⟩ : ∃ mm, IntKind.i64.wrap (y16 + 1) = mm := ⟨_, rfl⟩
      go_wp2_with fail
      generalize hW : World.alloc W20 _ = W34
      have hq : RdI W34 (.slice (some ⟨W20.heap.size, 0, none⟩) 2 2) [-1, mm] := by subst hW; exact rd_new W20 rfl (Nat.le_refl _) (by rw [maxLen_eq]; omega)
      have hbl : Below W20.heap.size W20 W34 := by subst hW; exact bel_al (Below.refl _ _) _
      have hBW := HD.out.1.lt
      have HD := Lib.hid (HD.out.bel hbl)
      have HR := Lib.hid (own_below HR.out hbl)
      have HT := Lib.hid (own_below HT.out hbl)
      have szW34 := hbl.size
      clear hW hbl
      refine (among_c B l HL.out (a + 14) (by omega) _ [-1, mm] (by simp) (by simp) _ HD.out.1 hq (lit_ne hBW)).mono ?_; rintro e W35 ⟨y36, rfl, _, hd⟩
      clear hq hBW
      have HD := Lib.hid (HD.out.trans hd)
      have HR := Lib.hid (own_draw HR.out hd.2 hBb)
      have HT := Lib.hid (own_draw HT.out hd.2 hBb)
      have szW35 := hd.2.size
      clear hd
      clear hmm
      have t9 := HT.out.cellAt 3 (by omega)
      have f9 := HT.out.frozenAt 3
      dsimp only [List.getElem?_cons_zero, List.getElem?_cons_succ] at t9
      have HT2 : Hid ((W35.setCell ⟨R, 3, none⟩ (.int .i64 y36)).ownsRow w.heap.size 31 5 (.slice (some ⟨R, 0, none⟩) 1 1) 1 [.int .i64 y4, .int .i64 y7, .int .i64 y10, .int .i64 y36, .int .i64 y16]) := Lib.hid (own_put [_] W35 _ 3 HT.out)
      have HR2 := Lib.hid (show (W35.setCell ⟨R, 3, none⟩ (.int .i64 y36)).ownsRow w.heap.size 31 5 (.slice (some ⟨w.heap.size, 0, none⟩) 1 1) 1 [.int .i64 0, .int .i64 0, .int .i64 0, .int .i64 0, .int .i64 0] from gro_other HR.out (only_setCell (World.grownBy.refl _ (some R)) 3 _) (fun hq => by have : w.heap.size = R := Option.some.inj hq; omega))
      have HSD := Lib.hid (HD.out.own (only_setCell (World.grownBy.refl _ (some R)) 3 (.int .i64 y36)) (by omega) hBb)
      have hne : w.heap.size ≠ R := by omega
      have hne2 : R ≠ w.heap.size := by omega
      have t0 := HT.out.cellAt 0 (by omega)
      have t1 := HT.out.cellAt 1 (by omega)
      have t2 := HT.out.cellAt 2 (by omega)
      have t3 := HT.out.cellAt 3 (by omega)
      have t4 := HT.out.cellAt 4 (by omega)
      have r0 := HR.out.cellAt 0 (by omega)
      have r1 := HR.out.cellAt 1 (by omega)
      have r2 := HR.out.cellAt 2 (by omega)
      have r3 := HR.out.cellAt 3 (by omega)
      have r4 := HR.out.cellAt 4 (by omega)
      have f0 := HR.out.frozenAt 0
      have f1 := HR.out.frozenAt 1
      have f2 := HR.out.frozenAt 2
      have f3 := HR.out.frozenAt 3
      have f4 := HR.out.frozenAt 4
      dsimp only [List.getElem?_cons_zero, List.getElem?_cons_succ] at t0 t1 t2 t3 t4 r0 r1 r2 r3 r4
      clear t9
      go_wp2
      refine bodyPost_ret (v := ldV y4 y7 y10 y36 y16) (by simp [results, Tryd.results77, go_sem, r0, r1, r2, r3, r4, hne, hne2]) rfl ?_
      exact ⟨y4, y7, y10, y36, y16, rfl, (HSD.out.own (only_setCell (only_setCell (only_setCell (only_setCell (only_setCell (World.grownBy.refl _ _) 0 _) 1 _) 2 _) 3 _) 4 _) (Nat.le_refl _) hBb).more (by omega)⟩
    · have n0 : ((x21 : Int) == 0) = false := beq_false_of_ne (by omega)
      have n1 : ((x21 : Int) == 1) = false := beq_false_of_ne (by omega)
      have n2 : ((x21 : Int) == 2) = false := beq_false_of_ne (by omega)
      have n3 : ((x21 : Int) == 3) = false := beq_false_of_ne (by omega)
      have n4 : ((x21 : Int) == 4) = false := beq_false_of_ne (by omega)
      have hne : w.heap.size ≠ R := by omega
      have hne2 : R ≠ w.heap.size := by omega
      have t0 := HT.out.cellAt 0 (by omega)
      have t1 := HT.out.cellAt 1 (by omega)
      have t2 := HT.out.cellAt 2 (by omega)
      have t3 := HT.out.cellAt 3 (by omega)
      have t4 := HT.out.cellAt 4 (by omega)
      have r0 := HR.out.cellAt 0 (by omega)
      have r1 := HR.out.cellAt 1 (by omega)
      have r2 := HR.out.cellAt 2 (by omega)
      have r3 := HR.out.cellAt 3 (by omega)
      have r4 := HR.out.cellAt 4 (by omega)
      have f0 := HR.out.frozenAt 0
      have f1 := HR.out.frozenAt 1
      have f2 := HR.out.frozenAt 2
      have f3 := HR.out.frozenAt 3
      have f4 := HR.out.frozenAt 4
      dsimp only [List.getElem?_cons_zero, List.getElem?_cons_succ] at t0 t1 t2 t3 t4 r0 r1 r2 r3 r4
      go_wp2
      refine bodyPost_ret (v := ldV y4 y7 y10 y13 y16) (by simp [results, Tryd.results77, go_sem, r0, r1, r2, r3, r4, hne, hne2]) rfl ?_
      exact ⟨y4, y7, y10, y13, y16, rfl, (HD.out.own (only_setCell (only_setCell (only_setCell (only_setCell (only_setCell (World.grownBy.refl _ _) 0 _) 1 _) 2 _) 3 _) 4 _) (Nat.le_refl _) hBb).more (by omega)⟩
  · have t49 := HT.out.cellAt 4 (by omega)
    dsimp only [List.getElem?_cons_zero, List.getElem?_cons_succ] at t49
    have t39 := HT.out.cellAt 3 (by omega)
    have f9 := HT.out.frozenAt 3
    dsimp only [List.getElem?_cons_zero, List.getElem?_cons_succ] at t39
    go_wp2_with fail
    generalize hW : World.setCell W18 ⟨R, 3, none⟩ (.int .i64 y16) = W37
    have HT : Hid (W37.ownsRow w.heap.size 31 5 (.slice (some ⟨R, 0, none⟩) 1 1) 1 [.int .i64 y4, .int .i64 y7, .int .i64 y10, .int .i64 y16, .int .i64 y16]) := Lib.hid (by subst hW; exact own_put [_] W18 _ 3 HT.out)
    have HR := Lib.hid (show W37.ownsRow w.heap.size 31 5 (.slice (some ⟨w.heap.size, 0, none⟩) 1 1) 1 [.int .i64 0, .int .i64 0, .int .i64 0, .int .i64 0, .int .i64 0] by subst hW; exact gro_other HR.out (only_setCell (World.grownBy.refl _ (some R)) 3 _) (fun hq => by have : w.heap.size = R := Option.some.inj hq; omega))
    have HD : Hid (Drew B l a 12 w W37) := Lib.hid (by subst hW; exact HD.out.own (only_setCell (World.grownBy.refl _ (some R)) 3 _) (by omega) hBb)
    have szW37 : W18.heap.size ≤ W37.heap.size := by subst hW; simp
    clear hW t39 f9
    clear t49
    refine (pick_c B l HL.out (a + 12) (by omega) 30 (by omega) _ HD.out.1).mono ?_; rintro e W39 ⟨x38, rfl, hx38, hd⟩
    have HD := Lib.hid (HD.out.trans hd)
    have HR := Lib.hid (own_draw HR.out hd.2 hBb)
    have HT := Lib.hid (own_draw HT.out hd.2 hBb)
    have szW39 := hd.2.size
    clear hd
    rcases (show x38 = 0 ∨ x38 = 1 ∨ x38 = 2 ∨ x38 = 3 ∨ x38 = 4 ∨ 5 ≤ x38 by omega) with hx | hx | hx | hx | hx | hx
    · subst hx
      go_wp2_with fail
      generalize hW : World.alloc W39 _ = W40
      have hq : RdI W40 (.slice (some ⟨W39.heap.size, 0, none⟩) 2 2) [-1, 41] := by subst hW; exact rd_new W39 rfl (Nat.le_refl _) (by rw [maxLen_eq]; omega)
      have hbl : Below W39.heap.size W39 W40 := by subst hW; exact bel_al (Below.refl _ _) _
      have hBW := HD.out.1.lt
      have HD := Lib.hid (HD.out.bel hbl)
      have HR := Lib.hid (own_below HR.out hbl)
      have HT := Lib.hid (own_below HT.out hbl)
      have szW40 := hbl.size
      clear hW hbl
      refine (among_c B l HL.out (a + 14) (by omega) _ [-1, 41] (by simp) (by simp) _ HD.out.1 hq (lit_ne hBW)).mono ?_; rintro e W41 ⟨y42, rfl, _, hd⟩
      clear hq hBW
      have HD := Lib.hid (HD.out.trans hd)
      have HR := Lib.hid (own_draw HR.out hd.2 hBb)
      have HT := Lib.hid (own_draw HT.out hd.2 hBb)
      have szW41 := hd.2.size
      clear hd
      have t9 := HT.out.cellAt 0 (by omega)
      have f9 := HT.out.frozenAt 0
      dsimp only [List.getElem?_cons_zero, List.getElem?_cons_succ] at t9
      have HT2 : Hid ((W41.setCell ⟨R, 0, none⟩ (.int .i64 y42)).ownsRow w.heap.size 31 5 (.slice (some ⟨R, 0, none⟩) 1 1) 1 [.int .i64 y42, .int .i64 y7, .int .i64 y10, .int .i64 y16, .int .i64 y16]) := Lib.hid (own_put [_] W41 _ 0 HT.out)
      have HR2 := Lib.hid (show (W41.setCell ⟨R, 0, none⟩ (.int .i64 y42)).ownsRow w.heap.size 31 5 (.slice (some ⟨w.heap.size, 0, none⟩) 1 1) 1 [.int .i64 0, .int .i64 0, .int .i64 0, .int .i64 0, .int .i64 0] from gro_other HR.out (only_setCell (World.grownBy.refl _ (some R)) 0 _) (fun hq => by have : w.heap.size = R := Option.some.inj hq; omega))
      have HSD := Lib.hid (HD.out.own (only_setCell (World.grownBy.refl _ (some R)) 0 (.int .i64 y42)) (by omega) hBb)
      have hne : w.heap.size ≠ R := by omega
      have hne2 : R ≠ w.heap.size := by omega
      have t0 := HT.out.cellAt 0 (by omega)
      have t1 := HT.out.cellAt 1 (by omega)
      have t2 := HT.out.cellAt 2 (by omega)
      have t3 := HT.out.cellAt 3 (by omega)
      have t4 := HT.out.cellAt 4 (by omega)
      have r0 := HR.out.cellAt 0 (by omega)
      have r1 := HR.out.cellAt 1 (by omega)
      have r2 := HR.out.cellAt 2 (by omega)
      have r3 := HR.out.cellAt 3 (by omega)
      have r4 := HR.out.cellAt 4 (by omega)
      have f0 := HR.out.frozenAt 0
      have f1 := HR.out.frozenAt 1
      have f2 := HR.out.frozenAt 2
      have f3 := HR.out.frozenAt 3
      have f4 := HR.out.frozenAt 4
      dsimp only [List.getElem?_cons_zero, List.getElem?_cons_succ] at t0 t1 t2 t3 t4 r0 r1 r2 r3 r4
      clear t9
      go_wp2
      refine bodyPost_ret (v := ldV y42 y7 y10 y16 y16) (by simp [results, Tryd.results77, go_sem, r0, r1, r2, r3, r4, hne, hne2]) rfl ?_
      exact ⟨y42, y7, y10, y16, y16, rfl, (HSD.out.own (only_setCell (only_setCell (only_setCell (only_setCell (only_setCell (World.grownBy.refl _ _) 0 _) 1 _) 2 _) 3 _) 4 _) (Nat.le_refl _) hBb).more (by omega)⟩
    · subst hx
      go_wp2_with fail
      generalize hW : World.alloc W39 _ = W43
      have hq : RdI W43 (.slice (some ⟨W39.heap.size, 0, none⟩) 3 3) [49, 601, -9223372036854775808] := by subst hW; exact rd_new W39 rfl (Nat.le_refl _) (by rw [maxLen_eq]; omega)
      have hbl : Below W39.heap.size W39 W43 := by subst hW; exact bel_al (Below.refl _ _) _
      have hBW := HD.out.1.lt
      have HD := Lib.hid (HD.out.bel hbl)
      have HR := Lib.hid (own_below HR.out hbl)
      have HT := Lib.hid (own_below HT.out hbl)
      have szW43 := hbl.size
      clear hW hbl
      refine (among_c B l HL.out (a + 14) (by omega) _ [49, 601, -9223372036854775808] (by simp) (by simp) _ HD.out.1 hq (lit_ne hBW)).mono ?_; rintro e W44 ⟨y45, rfl, _, hd⟩
      clear hq hBW
      have HD := Lib.hid (HD.out.trans hd)
      have HR := Lib.hid (own_draw HR.out hd.2 hBb)
      have HT := Lib.hid (own_draw HT.out hd.2 hBb)
      have szW44 := hd.2.size
      clear hd
      have t9 := HT.out.cellAt 1 (by omega)
      have f9 := HT.out.frozenAt 1
      dsimp only [List.getElem?_cons_zero, List.getElem?_cons_succ] at t9
      have HT2 : Hid ((W44.setCell ⟨R, 1, none⟩ (.int .i64 y45)).ownsRow w.heap.size 31 5 (.slice (some ⟨R, 0, none⟩) 1 1) 1 [.int .i64 y4, .int .i64 y45, .int .i64 y10, .int .i64 y16, .int .i64 y16]) := Lib.hid (own_put [_] W44 _ 1 HT.out)
      have HR2 := Lib.hid (show (W44.setCell ⟨R, 1, none⟩ (.int .i64 y45)).ownsRow w.heap.size 31 5 (.slice (some ⟨w.heap.size, 0, none⟩) 1 1) 1 [.int .i64 0, .int .i64 0, .int .i64 0, .int .i64 0, .int .i64 0] from gro_other HR.out (only_setCell (World.grownBy.refl _ (some R)) 1 _) (fun hq => by have : w.heap.size = R := Option.some.inj hq; omega))
      have HSD := Lib.hid (HD.out.own (only_setCell (World.grownBy.refl _ (some R)) 1 (.int .i64 y45)) (by omega) hBb)
      have hne : w.heap.size ≠ R := by omega
      have hne2 : R ≠ w.heap.size := by omega
      have t0 := HT.out.cellAt 0 (by omega)
      have t1 := HT.out.cellAt 1 (by omega)
      have t2 := HT.out.cellAt 2 (by omega)
      have t3 := HT.out.cellAt 3 (by omega)
      have t4 := HT.out.cellAt 4 (by omega)
      have r0 := HR.out.cellAt 0 (by omega)
      have r1 := HR.out.cellAt 1 (by omega)
      have r2 := HR.out.cellAt 2 (by omega)
      have r3 := HR.out.cellAt 3 (by omega)
      have r4 := HR.out.cellAt 4 (by omega)
      have f0 := HR.out.frozenAt 0
      have f1 := HR.out.frozenAt 1
      have f2 := HR.out.frozenAt 2
      have f3 := HR.out.frozenAt 3
      have f4 := HR.out.frozenAt 4
      dsimp only [List.getElem?_cons_zero, List.getElem?_cons_succ] at t0 t1 t2 t3 t4 r0 r1 r2 r3 r4
      clear t9
      go_wp2
      refine bodyPost_ret (v := ldV y4 y45 y10 y16 y16) (by simp [results, Tryd.results77, go_sem, r0, r1, r2, r3, r4, hne, hne2]) rfl ?_
      exact ⟨y4, y45, y10, y16, y16, rfl, (HSD.out.own (only_setCell (only_setCell (only_setCell (only_setCell (only_setCell (World.grownBy.refl _ _) 0 _) 1 _) 2 _) 3 _) 4 _) (Nat.le_refl _) hBb).more (by omega)⟩
    · subst hx
      go_wp2_with fail
      generalize hW : World.alloc W39 _ = W46
      have hq : RdI W46 (.slice (some ⟨W39.heap.size, 0, none⟩) 2 2) [19, 401] := by subst hW; exact rd_new W39 rfl (Nat.le_refl _) (by rw [maxLen_eq]; omega)
      have hbl : Below W39.heap.size W39 W46 := by subst hW; exact bel_al (Below.refl _ _) _
      have hBW := HD.out.1.lt
      have HD := Lib.hid (HD.out.bel hbl)
      have HR := Lib.hid (own_below HR.out hbl)
      have HT := Lib.hid (own_below HT.out hbl)
      have szW46 := hbl.size
      clear hW hbl
      refine (among_c B l HL.out (a + 14) (by omega) _ [19, 401] (by simp) (by simp) _ HD.out.1 hq (lit_ne hBW)).mono ?_; rintro e W47 ⟨y48, rfl, _, hd⟩
      clear hq hBW
      have HD := Lib.hid (HD.out.trans hd)
      have HR := Lib.hid (own_draw HR.out hd.2 hBb)
      have HT := Lib.hid (own_draw HT.out hd.2 hBb)
      have szW47 := hd.2.size
      clear hd
      have t9 := HT.out.cellAt 2 (by omega)
      have f9 := HT.out.frozenAt 2
      dsimp only [List.getElem?_cons_zero, List.getElem?_cons_succ] at t9
      have HT2 : Hid ((W47.setCell ⟨R, 2, none⟩ (.int .i64 y48)).ownsRow w.heap.size 31 5 (.slice (some ⟨R, 0, none⟩) 1 1) 1 [.int .i64 y4, .int .i64 y7, .int .i64 y48, .int .i64 y16, .int .i64 y16]) := Lib.hid (own_put [_] W47 _ 2 HT.out)
      have HR2 := Lib.hid (show (W47.setCell ⟨R, 2, none⟩ (.int .i64 y48)).ownsRow w.heap.size 31 5 (.slice (some ⟨w.heap.size, 0, none⟩) 1 1) 1 [.int .i64 0, .int .i64 0, .int .i64 0, .int .i64 0, .int .i64 0] from gro_other HR.out (only_setCell (World.grownBy.refl _ (some R)) 2 _) (fun hq => by have : w.heap.size = R := Option.some.inj hq; omega))
      have HSD := Lib.hid (HD.out.own (only_setCell (World.grownBy.refl _ (some R)) 2 (.int .i64 y48)) (by omega) hBb)
      have hne : w.heap.size ≠ R := by omega
      have hne2 : R ≠ w.heap.size := by omega
      have t0 := HT.out.cellAt 0 (by omega)
      have t1 := HT.out.cellAt 1 (by omega)
      have t2 := HT.out.cellAt 2 (by omega)
      have t3 := HT.out.cellAt 3 (by omega)
      have t4 := HT.out.cellAt 4 (by omega)
      have r0 := HR.out.cellAt 0 (by omega)
      have r1 := HR.out.cellAt 1 (by omega)
      have r2 := HR.out.cellAt 2 (by omega)
      have r3 := HR.out.cellAt 3 (by omega)
      have r4 := HR.out.cellAt 4 (by omega)
      have f0 := HR.out.frozenAt 0
      have f1 := HR.out.frozenAt 1
      have f2 := HR.out.frozenAt 2
      have f3 := HR.out.frozenAt 3
      have f4 := HR.out.frozenAt 4
      dsimp only [List.getElem?_cons_zero, List.getElem?_cons_succ] at t0 t1 t2 t3 t4 r0 r1 r2 r3 r4
      clear t9
      go_wp2
      refine bodyPost_ret (v := ldV y4 y7 y48 y16 y16) (by simp [results, Tryd.results77, go_sem, r0, r1, r2, r3, r4, hne, hne2]) rfl ?_
      exact ⟨y4, y7, y48, y16, y16, rfl, (HSD.out.own (only_setCell (only_setCell (only_setCell (only_setCell (only_setCell (World.grownBy.refl _ _) 0 _) 1 _) 2 _) 3 _) 4 _) (Nat.le_refl _) hBb).more (by omega)⟩
    · subst hx
      go_wp2_with fail
      generalize hW : World.alloc W39 _ = W49
      have hq : RdI W49 (.slice (some ⟨W39.heap.size, 0, none⟩) 3 3) [86, -1, 9] := by subst hW; exact rd_new W39 rfl (Nat.le_refl _) (by rw [maxLen_eq]; omega)
      have hbl : Below W39.heap.size W39 W49 := by subst hW; exact bel_al (Below.refl _ _) _
      have hBW := HD.out.1.lt
      have HD := Lib.hid (HD.out.bel hbl)
      have HR := Lib.hid (own_below HR.out hbl)
      have HT := Lib.hid (own_below HT.out hbl)
      have szW49 := hbl.size
      clear hW hbl
      refine (among_c B l HL.out (a + 14) (by omega) _ [86, -1, 9] (by simp) (by simp) _ HD.out.1 hq (lit_ne hBW)).mono ?_; rintro e W50 ⟨y51, rfl, _, hd⟩
      clear hq hBW
      have HD := Lib.hid (HD.out.trans hd)
      have HR := Lib.hid (own_draw HR.out hd.2 hBb)
      have HT := Lib.hid (own_draw HT.out hd.2 hBb)
      have szW50 := hd.2.size
      clear hd
      have t9 := HT.out.cellAt 4 (by omega)
      have f9 := HT.out.frozenAt 4
      dsimp only [List.getElem?_cons_zero, List.getElem?_cons_succ] at t9
      have HT2 : Hid ((W50.setCell ⟨R, 4, none⟩ (.int .i64 y51)).ownsRow w.heap.size 31 5 (.slice (some ⟨R, 0, none⟩) 1 1) 1 [.int .i64 y4, .int .i64 y7, .int .i64 y10, .int .i64 y16, .int .i64 y51]) := Lib.hid (own_put [_] W50 _ 4 HT.out)
      have HR2 := Lib.hid (show (W50.setCell ⟨R, 4, none⟩ (.int .i64 y51)).ownsRow w.heap.size 31 5 (.slice (some ⟨w.heap.size, 0, none⟩) 1 1) 1 [.int .i64 0, .int .i64 0, .int .i64 0, .int .i64 0, .int .i64 0] from gro_other HR.out (only_setCell (World.grownBy.refl _ (some R)) 4 _) (fun hq => by have : w.heap.size = R := Option.some.inj hq; omega))
      have HSD := Lib.hid (HD.out.own (only_setCell (World.grownBy.refl _ (some R)) 4 (.int .i64 y51)) (by omega) hBb)
      have hne : w.heap.size ≠ R := by omega
      have hne2 : R ≠ w.heap.size := by omega
      have t0 := HT.out.cellAt 0 (by omega)
      have t1 := HT.out.cellAt 1 (by omega)
      have t2 := HT.out.cellAt 2 (by omega)
      have t3 := HT.out.cellAt 3 (by omega)
      have t4 := HT.out.cellAt 4 (by omega)
      have r0 := HR.out.cellAt 0 (by omega)
      have r1 := HR.out.cellAt 1 (by omega)
      have r2 := HR.out.cellAt 2 (by omega)
      have r3 := HR.out.cellAt 3 (by omega)
      have r4 := HR.out.cellAt 4 (by omega)
      have f0 := HR.out.frozenAt 0
      have f1 := HR.out.frozenAt 1
      have f2 := HR.out.frozenAt 2
      have f3 := HR.out.frozenAt 3
      have f4 := HR.out.frozenAt 4
      dsimp only [List.getElem?_cons_zero, List.getElem?_cons_succ] at t0 t1 t2 t3 t4 r0 r1 r2 r3 r4
      clear t9
      go_wp2
      refine bodyPost_ret (v := ldV y4 y7 y10 y16 y51) (by simp [results, Tryd.results77, go_sem, r0, r1, r2, r3, r4, hne, hne2]) rfl ?_
      exact ⟨y4, y7, y10, y16, y51, rfl, (HSD.out.own (only_setCell (only_setCell (only_setCell (only_setCell (only_setCell (World.grownBy.refl _ _) 0 _) 1 _) 2 _) 3 _) 4 _) (Nat.le_refl _) hBb).more (by omega)⟩
    · subst hx
      have t49 := HT.out.cellAt 4 (by omega)
      dsimp only [List.getElem?_cons_zero, List.getElem?_cons_succ] at t49
      obtain ⟨mm, hmm⟩ : ∃ mm, IntKind.i64.wrap (y16 + 1) = mm := ⟨_, rfl⟩
      go_wp2_with fail
      generalize hW : World.alloc W39 _ = W52
      have hq : RdI W52 (.slice (some ⟨W39.heap.size, 0, none⟩) 2 2) [-1, mm] := by subst hW; exact rd_new W39 rfl (Nat.le_refl _) (by rw [maxLen_eq]; omega)
      have hbl : Below W39.heap.size W39 W52 := by subst hW; exact bel_al (Below.refl _ _) _
      have hBW := HD.out.1.lt
      have HD := Lib.hid (HD.out.bel hbl)
      have HR := Lib.hid (own_below HR.out hbl)
      have HT := Lib.hid (own_below HT.out hbl)
      have szW52 := hbl.size
      clear hW hbl
      refine (among_c B l HL.out (a + 14) (by omega) _ [-1, mm] (by simp) (by simp) _ HD.out.1 hq (lit_ne hBW)).mono ?_; rintro e W53 ⟨y54, rfl, _, hd⟩
      clear hq hBW
      have HD := Lib.hid (HD.out.trans hd)
      have HR := Lib.hid (own_draw HR.out hd.2 hBb)
      have HT := Lib.hid (own_draw HT.out hd.2 hBb)
      have szW53 := hd.2.size
      clear hd
      clear hmm
      have t9 := HT.out.cellAt 3 (by omega)
      have f9 := HT.out.frozenAt 3
      dsimp only [List.getElem?_cons_zero, List.getElem?_cons_succ] at t9
      have HT2 : Hid ((W53.setCell ⟨R, 3, none⟩ (.int .i64 y54)).ownsRow w.heap.size 31 5 (.slice (some ⟨R, 0, none⟩) 1 1) 1 [.int .i64 y4, .int .i64 y7, .int .i64 y10, .int .i64 y54, .int .i64 y16]) := Lib.hid (own_put [_] W53 _ 3 HT.out)
      have HR2 := Lib.hid (show (W53.setCell ⟨R, 3, none⟩ (.int .i64 y54)).ownsRow w.heap.size 31 5 (.slice (some ⟨w.heap.size, 0, none⟩) 1 1) 1 [.int .i64 0, .int .i64 0, .int .i64 0, .int .i64 0, .int .i64 0] from gro_other HR.out (only_setCell (World.grownBy.refl _ (some R)) 3 _) (fun hq => by have : w.heap.size = R := Option.some.inj hq; omega))
      have HSD := Lib.hid (HD.out.own (only_setCell (World.grownBy.refl _ (some R)) 3 (.int .i64 y54)) (by omega) hBb)
      have hne : w.heap.size ≠ R := by omega
      have hne2 : R ≠ w.heap.size := by omega
      have t0 := HT.out.cellAt 0 (by omega)
      have t1 := HT.out.cellAt 1 (by omega)
      have t2 := HT.out.cellAt 2 (by omega)
      have t3 := HT.out.cellAt 3 (by omega)
      have t4 := HT.out.cellAt 4 (by omega)
      have r0 := HR.out.cellAt 0 (by omega)
      have r1 := HR.out.cellAt 1 (by omega)
      have r2 := HR.out.cellAt 2 (by omega)
      have r3 := HR.out.cellAt 3 (by omega)
      have r4 := HR.out.cellAt 4 (by omega)
      have f0 := HR.out.frozenAt 0
      have f1 := HR.out.frozenAt 1
      have f2 := HR.out.frozenAt 2
      have f3 := HR.out.frozenAt 3
      have f4 := HR.out.frozenAt 4
      dsimp only [List.getElem?_cons_zero, List.getElem?_cons_succ] at t0 t1 t2 t3 t4 r0 r1 r2 r3 r4
      clear t9
      go_wp2
      refine bodyPost_ret (v := ldV y4 y7 y10 y54 y16) (by simp [results, Tryd.results77, go_sem, r0, r1, r2, r3, r4, hne, hne2]) rfl ?_
      exact ⟨y4, y7, y10, y54, y16, rfl, (HSD.out.own (only_setCell (only_setCell (only_setCell (only_setCell (only_setCell (World.grownBy.refl _ _) 0 _) 1 _) 2 _) 3 _) 4 _) (Nat.le_refl _) hBb).more (by omega)⟩
    · have n0 : ((x38 : Int) == 0) = false := beq_false_of_ne (by omega)
      have n1 : ((x38 : Int) == 1) = false := beq_false_of_ne (by omega)
      have n2 : ((x38 : Int) == 2) = false := beq_false_of_ne (by omega)
      have n3 : ((x38 : Int) == 3) = false := beq_false_of_ne (by omega)
      have n4 : ((x38 : Int) == 4) = false := beq_false_of_ne (by omega)
      have hne : w.heap.size ≠ R := by omega
      have hne2 : R ≠ w.heap.size := by omega
      have t0 := HT.out.cellAt 0 (by omega)
      have t1 := HT.out.cellAt 1 (by omega)
      have t2 := HT.out.cellAt 2 (by omega)
      have t3 := HT.out.cellAt 3 (by omega)
      have t4 := HT.out.cellAt 4 (by omega)
      have r0 := HR.out.cellAt 0 (by omega)
      have r1 := HR.out.cellAt 1 (by omega)
      have r2 := HR.out.cellAt 2 (by omega)
      have r3 := HR.out.cellAt 3 (by omega)
      have r4 := HR.out.cellAt 4 (by omega)
      have f0 := HR.out.frozenAt 0
      have f1 := HR.out.frozenAt 1
      have f2 := HR.out.frozenAt 2
      have f3 := HR.out.frozenAt 3
      have f4 := HR.out.frozenAt 4
      dsimp only [List.getElem?_cons_zero, List.getElem?_cons_succ] at t0 t1 t2 t3 t4 r0 r1 r2 r3 r4
      go_wp2
      refine bodyPost_ret (v := ldV y4 y7 y10 y16 y16) (by simp [results, Tryd.results77, go_sem, r0, r1, r2, r3, r4, hne, hne2]) rfl ?_
      exact ⟨y4, y7, y10, y16, y16, rfl, (HD.out.own (only_setCell (only_setCell (only_setCell (only_setCell (only_setCell (World.grownBy.refl _ _) 0 _) 1 _) 2 _) 3 _) 4 _) (Nat.le_refl _) hBb).more (by omega)⟩
end Go.Proofs.YtibkadkodblefaaDoor
