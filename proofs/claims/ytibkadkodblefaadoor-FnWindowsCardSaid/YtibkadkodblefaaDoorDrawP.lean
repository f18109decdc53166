/-
  Draws of points, walls, short ladders and windows (printed by gen_drawl.py).
-/
import Derived.Test.YtibkadkodblefaaDoorDrawL
import Derived.Test.YtibkadkodblefaaDoorWn
import Derived.Test.YtibkadkodblefaaDoorLadB
import Derived.Test.YtibkadkodblefaaDoorMost
namespace Go.Proofs.YtibkadkodblefaaDoor
open Go.RowKit

set_option maxRecDepth 100000 in
set_option maxHeartbeats 1000000 in
theorem pointOf_c (B : Nat) (l : List Int) (hl : BytesOk l) (a : Nat) (ha : a ≤ 4611686018427375000) (w : World) (hc : CurAt B l a w) :
    Calls Tryd.prog 86 #[.pointer (some ⟨B, 0, none⟩)] w fun e w' => ∃ y : Int, e = .returned (.int .i64 y) ∧ Drew B l a 6 w w' := by
  have HL := Lib.hid hl
  have HD := Lib.hid (Drew.refl hc 0)
  have hBb : B < w.heap.size := hc.lt
  clear hc hl
  go_enter Tryd.func86, Tryd.ntmps86
  go_wp2_with fail
  refine (pick_c B l HL.out (a + 0) (by omega) 300 (by omega) _ HD.out.1).mono ?_; rintro e W55 ⟨x56, rfl, hx56, hd⟩
  have HD := Lib.hid (HD.out.trans hd)
  have szW55 := hd.2.size
  clear hd
  go_wp2_with fail
  generalize hW : World.alloc W55 _ = W57
  have hq : RdI W57 (.slice (some ⟨W55.heap.size, 0, none⟩) 2 2) [-1, 601] := by subst hW; exact rd_new W55 rfl (Nat.le_refl _) (by rw [maxLen_eq]; omega)
  have hbl : Below W55.heap.size W55 W57 := by subst hW; exact bel_al (Below.refl _ _) _
  have hBW := HD.out.1.lt
  have HD := Lib.hid (HD.out.bel hbl)
  have szW57 := hbl.size
  clear hW hbl
  refine (among_c B l HL.out (a + 2) (by omega) _ [-1, 601] (by simp) (by simp) _ HD.out.1 hq (lit_ne hBW)).mono ?_; rintro e W58 ⟨y59, rfl, _, hd⟩
  clear hq hBW
  have HD := Lib.hid (HD.out.trans hd)
  have szW58 := hd.2.size
  clear hd
  go_wp2_with fail
  generalize hW : World.alloc W58 _ = W60
  have hq : RdI W60 (.slice (some ⟨W58.heap.size, 0, none⟩) 9 9) [0, 20, 50, 100, 150, 279, (x56 : Int), 600, y59] := by subst hW; exact rd_new W58 rfl (Nat.le_refl _) (by rw [maxLen_eq]; omega)
  have hbl : Below W58.heap.size W58 W60 := by subst hW; exact bel_al (Below.refl _ _) _
  have hBW := HD.out.1.lt
  have HD := Lib.hid (HD.out.bel hbl)
  have szW60 := hbl.size
  clear hW hbl
  refine (among_c B l HL.out (a + 4) (by omega) _ [0, 20, 50, 100, 150, 279, (x56 : Int), 600, y59] (by simp) (by simp) _ HD.out.1 hq (lit_ne hBW)).mono ?_; rintro e W61 ⟨y62, rfl, _, hd⟩
  clear hq hBW
  have HD := Lib.hid (HD.out.trans hd)
  have szW61 := hd.2.size
  clear hd
  go_wp2
  go_ret
  exact ⟨y62, rfl, HD.out⟩
set_option maxRecDepth 100000 in
set_option maxHeartbeats 1000000 in
theorem wallOf_c (B : Nat) (l : List Int) (hl : BytesOk l) (a : Nat) (ha : a ≤ 4611686018427375000) (w : World) (hc : CurAt B l a w) :
    Calls Tryd.prog 83 #[.pointer (some ⟨B, 0, none⟩)] w fun e w' => ∃ y : Int, e = .returned (.int .i64 y) ∧ Drew B l a 4 w w' := by
  have HL := Lib.hid hl
  have HD := Lib.hid (Drew.refl hc 0)
  have hBb : B < w.heap.size := hc.lt
  clear hc hl
  go_enter Tryd.func83, Tryd.ntmps83
  go_wp2_with fail
  generalize hW : World.alloc w _ = W63
  have hq : RdI W63 (.slice (some ⟨w.heap.size, 0, none⟩) 2 2) [-1, 201] := by subst hW; exact rd_new w rfl (Nat.le_refl _) (by rw [maxLen_eq]; omega)
  have hbl : Below w.heap.size w W63 := by subst hW; exact bel_al (Below.refl _ _) _
  have hBW := HD.out.1.lt
  have HD := Lib.hid (HD.out.bel hbl)
  have szW63 := hbl.size
  clear hW hbl
  refine (among_c B l HL.out (a + 0) (by omega) _ [-1, 201] (by simp) (by simp) _ HD.out.1 hq (lit_ne hBW)).mono ?_; rintro e W64 ⟨y65, rfl, _, hd⟩
  clear hq hBW
  have HD := Lib.hid (HD.out.trans hd)
  have szW64 := hd.2.size
  clear hd
  go_wp2_with fail
  generalize hW : World.alloc W64 _ = W66
  have hq : RdI W66 (.slice (some ⟨W64.heap.size, 0, none⟩) 6 6) [0, 30, 50, 80, 200, y65] := by subst hW; exact rd_new W64 rfl (Nat.le_refl _) (by rw [maxLen_eq]; omega)
  have hbl : Below W64.heap.size W64 W66 := by subst hW; exact bel_al (Below.refl _ _) _
  have hBW := HD.out.1.lt
  have HD := Lib.hid (HD.out.bel hbl)
  have szW66 := hbl.size
  clear hW hbl
  refine (among_c B l HL.out (a + 2) (by omega) _ [0, 30, 50, 80, 200, y65] (by simp) (by simp) _ HD.out.1 hq (lit_ne hBW)).mono ?_; rintro e W67 ⟨y68, rfl, _, hd⟩
  clear hq hBW
  have HD := Lib.hid (HD.out.trans hd)
  have szW67 := hd.2.size
  clear hd
  go_wp2
  go_ret
  exact ⟨y68, rfl, HD.out⟩
theorem cell_drew {W : World} {p : Addr} {v : Option Value} (h : W.cell? p = v) : W.drew.cell? p = v := h
theorem tip_arg {s m : Int} {x : Nat} (s0 : 0 ≤ s) (s1 : s ≤ m) (m1 : m ≤ 85) (hx : (x : Int) < max (IntKind.i64.wrap (IntKind.i64.wrap (m - s) + 1)) 1) (e : IntKind.i64.wrap (IntKind.i64.wrap (m - s) + 1) = m - s + 1) : 0 ≤ IntKind.i64.wrap (s + (x : Int)) ∧ IntKind.i64.wrap (s + (x : Int)) ≤ 90 := by
  rw [e] at hx
  rw [IntWalk.i64_in _ (by omega)]
  omega
theorem tip_arg2 {n : Int} {x : Nat} (l0 : 50 ≤ n) (l1 : n ≤ 600) (hx : (x : Int) < max (IntKind.i64.wrap (n + 1)) 1) (e : IntKind.i64.wrap (n + 1) = n + 1) : x ≤ 600 := by
  rw [e] at hx
  omega
theorem laTip_x (b l o s m a : Int) (n : Nat) (w : World) (hb : 0 ≤ b ∧ b ≤ 40) (ha : 0 ≤ a ∧ a ≤ 90) (hn : n ≤ 600) :
    Calls Tryd.prog 55 #[ldV b l o s m, .int .i64 a, .int .i64 n] w fun en w' => ∃ X Y : Int, en = .returned (.tuple #[.int .i64 X, .int .i64 Y]) ∧ Below w.heap.size w w' := by
  obtain ⟨A, rfl⟩ : ∃ A : Nat, a = (A : Int) := ⟨a.toNat, by omega⟩
  refine (laTip_c b l o s m A n w hb (by omega) hn).mono ?_
  rintro e w' ⟨rfl, h⟩
  exact ⟨_, _, rfl, h⟩

set_option maxRecDepth 100000 in
set_option maxHeartbeats 2000000 in
theorem ladderPoint_c (B : Nat) (l : List Int) (hl : BytesOk l) (a : Nat) (ha : a ≤ 4611686018427370000) (w : World) (hc : CurAt B l a w) :
    Calls Tryd.prog 76 #[.pointer (some ⟨B, 0, none⟩)] w fun e w' => ∃ b n o s m x y : Int, e = .returned (.tuple #[ldV b n o s m, .int .i64 x, .int .i64 y]) ∧ Drew B l a 60 w w' := by
  have HL := Lib.hid hl
  have HD := Lib.hid (Drew.refl hc 0)
  have hBb : B < w.heap.size := hc.lt
  clear hc hl
  go_enter Tryd.func76, Tryd.ntmps76
  go_upto_region 1 with fail
  generalize hW : World.alloc w _ = W0
  have hr0 : W0.ownsRow w.heap.size 31 5 (.slice (some ⟨w.heap.size, 0, none⟩) 1 1) 1 [.int .i64 0, .int .i64 0, .int .i64 0, .int .i64 0, .int .i64 0] := by subst hW; exact row_new w _ _ 1 5 rfl (by omega) (by omega)
  have HD := Lib.hid (HD.out.bel (show Below w.heap.size w W0 by subst hW; exact bel_al (Below.refl _ _) _))
  have sz0 : w.heap.size < W0.heap.size := by subst hW; simp
  have HR := Lib.hid hr0
  clear hW hr0
  go_wp2_with fail
  refine (ladder_c B l HL.out (a + 0) (by omega) _ HD.out.1).mono ?_; rintro e W1 ⟨b, n, o, s, m, rfl, hd⟩
  have HD := Lib.hid (HD.out.trans hd)
  have HR := Lib.hid (own_draw HR.out hd.2 hBb)
  have szW1 := hd.2.size
  clear hd
  go_upto_region 2 with fail
  generalize hW : World.alloc W1 _ = W2
  have hr0 : W2.ownsRow W1.heap.size 31 5 (.slice (some ⟨W1.heap.size, 0, none⟩) 1 1) 1 [.int .i64 b, .int .i64 n, .int .i64 o, .int .i64 s, .int .i64 m] := by subst hW; exact row_new W1 _ _ 1 5 rfl (by omega) (by omega)
  have hbl : Below W1.heap.size W1 W2 := by subst hW; exact bel_al (Below.refl _ _) _
  have HD := Lib.hid (HD.out.bel hbl)
  have HR := Lib.hid (own_below HR.out hbl)
  have sz2 : W1.heap.size < W2.heap.size := by subst hW; simp
  obtain ⟨R, hRR⟩ : ∃ R, W1.heap.size = R := ⟨_, rfl⟩
  have hwR : w.heap.size < R := by omega
  rw [hRR] at hr0 sz2 ⊢
  have HT := Lib.hid hr0
  clear hW hr0 hbl
  have t0 := HT.out.cellAt 0 (by omega)
  have t1 := HT.out.cellAt 1 (by omega)
  have t2 := HT.out.cellAt 2 (by omega)
  have t3 := HT.out.cellAt 3 (by omega)
  have t4 := HT.out.cellAt 4 (by omega)
  dsimp only [List.getElem?_cons_zero, List.getElem?_cons_succ] at t0 t1 t2 t3 t4
  have HD : Hid (Drew B l a 20 w W2) := Lib.hid (HD.out.more (by omega))
  have hRB : R ≠ B := by omega
  cases hok : ladOk b n o s m with
  | false =>
    go_wp2_with (first | (go_at_call 53; refine (laGood_c b n o s m _).mono ?_; rw [hok]; rintro e W3 ⟨rfl, hb1⟩))
    have HD := Lib.hid (HD.out.bel hb1)
    have HR := Lib.hid (own_below HR.out hb1)
    have HT := Lib.hid (own_below HT.out hb1)
    have sz3 : R < W3.heap.size := Nat.lt_of_lt_of_le sz2 hb1.size
    clear hb1 t0 t1 t2 t3 t4
    have t0 := HT.out.cellAt 0 (by omega)
    have t1 := HT.out.cellAt 1 (by omega)
    have t2 := HT.out.cellAt 2 (by omega)
    have t3 := HT.out.cellAt 3 (by omega)
    have t4 := HT.out.cellAt 4 (by omega)
    have r0 := HR.out.cellAt 0 (by omega)
    have r1 := HR.out.cellAt 1 (by omega)
    have r2 := HR.out.cellAt 2 (by omega)
    have r3 := HR.out.cellAt 3 (by omega)
    have r4 := HR.out.cellAt 4 (by omega)
    have f0 := HR.out.frozenAt 0
    have f1 := HR.out.frozenAt 1
    have f2 := HR.out.frozenAt 2
    have f3 := HR.out.frozenAt 3
    have f4 := HR.out.frozenAt 4
    dsimp only [List.getElem?_cons_zero, List.getElem?_cons_succ] at t0 t1 t2 t3 t4 r0 r1 r2 r3 r4
    have hwB : w.heap.size ≠ B := by omega
    have hne : w.heap.size ≠ R := by omega
    have hne2 : R ≠ w.heap.size := by omega
    have sw3 : w.heap.size < W3.heap.size := by omega
    go_wp2_with fail
    go_region_held3 (fun W' => W'.cell? ⟨R, 0, none⟩ = some (.int .i64 b) ∧ W'.cell? ⟨R, 1, none⟩ = some (.int .i64 n) ∧ W'.cell? ⟨R, 2, none⟩ = some (.int .i64 o) ∧ W'.cell? ⟨R, 3, none⟩ = some (.int .i64 s) ∧ W'.cell? ⟨R, 4, none⟩ = some (.int .i64 m)) (first | (with_reducible exact ⟨t0, t1, t2, t3, t4⟩) | (with_reducible exact ⟨cell_drew t0, cell_drew t1, cell_drew t2, cell_drew t3, cell_drew t4⟩) | (go_split_ands; refine ⟨?_, ?_, ?_, ?_, ?_⟩ <;> simp [go_sem, t0, t1, t2, t3, t4, hne, hne2])) (first | (have _q := hd8; go_at_call 86; refine (pointOf_c B l HL.out (a + 26) (by omega) _ HD8.out.1).mono ?_; rintro e W9 ⟨x4, rfl, hd9⟩; have HD9 : Hid (Drew B l a 32 w W9) := Lib.hid (HD8.out.trans hd9); have t0 := (gro_cell hd9.2 (o := 0) (x := R) (Nat.lt_of_lt_of_le sz8 (Nat.le_refl _)) hRB).trans t0; have r0 := (gro_cell hd9.2 (o := 0) (x := w.heap.size) (Nat.lt_of_lt_of_le sw8 (Nat.le_refl _)) hwB).trans r0; have f0 := (gro_frozen hd9.2 (o := 0) (x := w.heap.size) (Nat.lt_of_lt_of_le sw8 (Nat.le_refl _)) hwB).trans f0; have t1 := (gro_cell hd9.2 (o := 1) (x := R) (Nat.lt_of_lt_of_le sz8 (Nat.le_refl _)) hRB).trans t1; have r1 := (gro_cell hd9.2 (o := 1) (x := w.heap.size) (Nat.lt_of_lt_of_le sw8 (Nat.le_refl _)) hwB).trans r1; have f1 := (gro_frozen hd9.2 (o := 1) (x := w.heap.size) (Nat.lt_of_lt_of_le sw8 (Nat.le_refl _)) hwB).trans f1; have t2 := (gro_cell hd9.2 (o := 2) (x := R) (Nat.lt_of_lt_of_le sz8 (Nat.le_refl _)) hRB).trans t2; have r2 := (gro_cell hd9.2 (o := 2) (x := w.heap.size) (Nat.lt_of_lt_of_le sw8 (Nat.le_refl _)) hwB).trans r2; have f2 := (gro_frozen hd9.2 (o := 2) (x := w.heap.size) (Nat.lt_of_lt_of_le sw8 (Nat.le_refl _)) hwB).trans f2; have t3 := (gro_cell hd9.2 (o := 3) (x := R) (Nat.lt_of_lt_of_le sz8 (Nat.le_refl _)) hRB).trans t3; have r3 := (gro_cell hd9.2 (o := 3) (x := w.heap.size) (Nat.lt_of_lt_of_le sw8 (Nat.le_refl _)) hwB).trans r3; have f3 := (gro_frozen hd9.2 (o := 3) (x := w.heap.size) (Nat.lt_of_lt_of_le sw8 (Nat.le_refl _)) hwB).trans f3; have t4 := (gro_cell hd9.2 (o := 4) (x := R) (Nat.lt_of_lt_of_le sz8 (Nat.le_refl _)) hRB).trans t4; have r4 := (gro_cell hd9.2 (o := 4) (x := w.heap.size) (Nat.lt_of_lt_of_le sw8 (Nat.le_refl _)) hwB).trans r4; have f4 := (gro_frozen hd9.2 (o := 4) (x := w.heap.size) (Nat.lt_of_lt_of_le sw8 (Nat.le_refl _)) hwB).trans f4) | (go_at_call 86; refine (pointOf_c B l HL.out (a + 20) (by omega) _ (HD.out.1.below (bel_dr (Below.refl _ _)))).mono ?_; rintro e W8 ⟨x3, rfl, hd8⟩; have HD8 : Hid (Drew B l a 26 w W8) := Lib.hid ((HD.out.bel (bel_dr (Below.refl _ _))).trans hd8); have sz8 : R < W8.heap.size := Nat.lt_of_lt_of_le sz3 hd8.2.size; have sw8 : w.heap.size < W8.heap.size := Nat.lt_of_lt_of_le sw3 hd8.2.size; have t0 := (gro_cell hd8.2 (o := 0) (x := R) (Nat.lt_of_lt_of_le sz3 (Nat.le_refl _)) hRB).trans t0; have r0 := (gro_cell hd8.2 (o := 0) (x := w.heap.size) (Nat.lt_of_lt_of_le sw3 (Nat.le_refl _)) hwB).trans r0; have f0 := (gro_frozen hd8.2 (o := 0) (x := w.heap.size) (Nat.lt_of_lt_of_le sw3 (Nat.le_refl _)) hwB).trans f0; have t1 := (gro_cell hd8.2 (o := 1) (x := R) (Nat.lt_of_lt_of_le sz3 (Nat.le_refl _)) hRB).trans t1; have r1 := (gro_cell hd8.2 (o := 1) (x := w.heap.size) (Nat.lt_of_lt_of_le sw3 (Nat.le_refl _)) hwB).trans r1; have f1 := (gro_frozen hd8.2 (o := 1) (x := w.heap.size) (Nat.lt_of_lt_of_le sw3 (Nat.le_refl _)) hwB).trans f1; have t2 := (gro_cell hd8.2 (o := 2) (x := R) (Nat.lt_of_lt_of_le sz3 (Nat.le_refl _)) hRB).trans t2; have r2 := (gro_cell hd8.2 (o := 2) (x := w.heap.size) (Nat.lt_of_lt_of_le sw3 (Nat.le_refl _)) hwB).trans r2; have f2 := (gro_frozen hd8.2 (o := 2) (x := w.heap.size) (Nat.lt_of_lt_of_le sw3 (Nat.le_refl _)) hwB).trans f2; have t3 := (gro_cell hd8.2 (o := 3) (x := R) (Nat.lt_of_lt_of_le sz3 (Nat.le_refl _)) hRB).trans t3; have r3 := (gro_cell hd8.2 (o := 3) (x := w.heap.size) (Nat.lt_of_lt_of_le sw3 (Nat.le_refl _)) hwB).trans r3; have f3 := (gro_frozen hd8.2 (o := 3) (x := w.heap.size) (Nat.lt_of_lt_of_le sw3 (Nat.le_refl _)) hwB).trans f3; have t4 := (gro_cell hd8.2 (o := 4) (x := R) (Nat.lt_of_lt_of_le sz3 (Nat.le_refl _)) hRB).trans t4; have r4 := (gro_cell hd8.2 (o := 4) (x := w.heap.size) (Nat.lt_of_lt_of_le sw3 (Nat.le_refl _)) hwB).trans r4; have f4 := (gro_frozen hd8.2 (o := 4) (x := w.heap.size) (Nat.lt_of_lt_of_le sw3 (Nat.le_refl _)) hwB).trans f4))
    go_wp2
    refine bodyPost_ret (v := .tuple #[ldV b n o s m, .int .i64 x3, .int .i64 x4]) (by simp [results, Tryd.results76, go_sem, r0, r1, r2, r3, r4, hne, hne2]) rfl ?_
    exact ⟨_, _, _, _, _, _, _, rfl, (HD9.out.own (only_setCell (only_setCell (only_setCell (only_setCell (only_setCell (World.grownBy.refl _ _) 0 _) 1 _) 2 _) 3 _) 4 _) (Nat.le_refl _) hBb).more (by omega)⟩
  | true =>
    obtain ⟨b0, b1, l0, l1, o0, o1, s0, s1, m1⟩ := ladOk_true hok
    go_wp2_with (first | (go_at_call 53; refine (laGood_c b n o s m _).mono ?_; rw [hok]; rintro e W3 ⟨rfl, hb1⟩))
    have HD := Lib.hid (HD.out.bel hb1)
    have HR := Lib.hid (own_below HR.out hb1)
    have HT := Lib.hid (own_below HT.out hb1)
    have sz3 := hb1.size
    clear hb1 t0 t1 t2 t3 t4
    refine (one_c B l HL.out (a + 20) (by omega) 3 (by omega) _ HD.out.1).mono ?_; rintro e W4 ⟨b1, rfl, hd⟩
    have HD : Hid (Drew B l a 22 w W4) := Lib.hid (HD.out.trans hd)
    have HR := Lib.hid (own_draw HR.out hd.2 hBb)
    have HT := Lib.hid (own_draw HT.out hd.2 (by omega))
    have sz4 : R < W4.heap.size := by have := hd.2.size; omega
    clear hd
    have t0 := HT.out.cellAt 0 (by omega)
    have t1 := HT.out.cellAt 1 (by omega)
    have t2 := HT.out.cellAt 2 (by omega)
    have t3 := HT.out.cellAt 3 (by omega)
    have t4 := HT.out.cellAt 4 (by omega)
    dsimp only [List.getElem?_cons_zero, List.getElem?_cons_succ] at t0 t1 t2 t3 t4
    have e1 : IntKind.i64.wrap (IntKind.i64.wrap (m - s) + 1) = m - s + 1 := by rw [IntWalk.i64_in (m - s) (by omega), IntWalk.i64_in _ (by omega)]
    have e2 : IntKind.i64.wrap (n + 1) = n + 1 := IntWalk.i64_in _ (by omega)
    have e4 : Hid (IntKind.i64.wrap (IntKind.i64.wrap (m - s) + 1) ≤ 4294967296) := Lib.hid (by omega)
    have e5 : Hid (IntKind.i64.wrap (n + 1) ≤ 4294967296) := Lib.hid (by omega)
    have e6 := Lib.hid e1
    have e7 := Lib.hid e2
    clear e1 e2
    cases b1 with
    | true =>
      have t0 := HT.out.cellAt 0 (by omega)
      have t1 := HT.out.cellAt 1 (by omega)
      have t2 := HT.out.cellAt 2 (by omega)
      have t3 := HT.out.cellAt 3 (by omega)
      have t4 := HT.out.cellAt 4 (by omega)
      have r0 := HR.out.cellAt 0 (by omega)
      have r1 := HR.out.cellAt 1 (by omega)
      have r2 := HR.out.cellAt 2 (by omega)
      have r3 := HR.out.cellAt 3 (by omega)
      have r4 := HR.out.cellAt 4 (by omega)
      have f0 := HR.out.frozenAt 0
      have f1 := HR.out.frozenAt 1
      have f2 := HR.out.frozenAt 2
      have f3 := HR.out.frozenAt 3
      have f4 := HR.out.frozenAt 4
      dsimp only [List.getElem?_cons_zero, List.getElem?_cons_succ] at t0 t1 t2 t3 t4 r0 r1 r2 r3 r4
      have hwB : w.heap.size ≠ B := by omega
      have hne : w.heap.size ≠ R := by omega
      have hne2 : R ≠ w.heap.size := by omega
      have sw4 : w.heap.size < W4.heap.size := by omega
      go_wp2_with fail
      go_region_held3 (fun W' => W'.cell? ⟨R, 0, none⟩ = some (.int .i64 b) ∧ W'.cell? ⟨R, 1, none⟩ = some (.int .i64 n) ∧ W'.cell? ⟨R, 2, none⟩ = some (.int .i64 o) ∧ W'.cell? ⟨R, 3, none⟩ = some (.int .i64 s) ∧ W'.cell? ⟨R, 4, none⟩ = some (.int .i64 m)) (first | (with_reducible exact ⟨t0, t1, t2, t3, t4⟩) | (with_reducible exact ⟨cell_drew t0, cell_drew t1, cell_drew t2, cell_drew t3, cell_drew t4⟩) | (go_split_ands; refine ⟨?_, ?_, ?_, ?_, ?_⟩ <;> simp [go_sem, t0, t1, t2, t3, t4, hne, hne2])) (first | (have _q := hd8; go_at_call 86; refine (pointOf_c B l HL.out (a + 28) (by omega) _ HD8.out.1).mono ?_; rintro e W9 ⟨x4, rfl, hd9⟩; have HD9 : Hid (Drew B l a 34 w W9) := Lib.hid (HD8.out.trans hd9); have t0 := (gro_cell hd9.2 (o := 0) (x := R) (Nat.lt_of_lt_of_le sz8 (Nat.le_refl _)) hRB).trans t0; have r0 := (gro_cell hd9.2 (o := 0) (x := w.heap.size) (Nat.lt_of_lt_of_le sw8 (Nat.le_refl _)) hwB).trans r0; have f0 := (gro_frozen hd9.2 (o := 0) (x := w.heap.size) (Nat.lt_of_lt_of_le sw8 (Nat.le_refl _)) hwB).trans f0; have t1 := (gro_cell hd9.2 (o := 1) (x := R) (Nat.lt_of_lt_of_le sz8 (Nat.le_refl _)) hRB).trans t1; have r1 := (gro_cell hd9.2 (o := 1) (x := w.heap.size) (Nat.lt_of_lt_of_le sw8 (Nat.le_refl _)) hwB).trans r1; have f1 := (gro_frozen hd9.2 (o := 1) (x := w.heap.size) (Nat.lt_of_lt_of_le sw8 (Nat.le_refl _)) hwB).trans f1; have t2 := (gro_cell hd9.2 (o := 2) (x := R) (Nat.lt_of_lt_of_le sz8 (Nat.le_refl _)) hRB).trans t2; have r2 := (gro_cell hd9.2 (o := 2) (x := w.heap.size) (Nat.lt_of_lt_of_le sw8 (Nat.le_refl _)) hwB).trans r2; have f2 := (gro_frozen hd9.2 (o := 2) (x := w.heap.size) (Nat.lt_of_lt_of_le sw8 (Nat.le_refl _)) hwB).trans f2; have t3 := (gro_cell hd9.2 (o := 3) (x := R) (Nat.lt_of_lt_of_le sz8 (Nat.le_refl _)) hRB).trans t3; have r3 := (gro_cell hd9.2 (o := 3) (x := w.heap.size) (Nat.lt_of_lt_of_le sw8 (Nat.le_refl _)) hwB).trans r3; have f3 := (gro_frozen hd9.2 (o := 3) (x := w.heap.size) (Nat.lt_of_lt_of_le sw8 (Nat.le_refl _)) hwB).trans f3; have t4 := (gro_cell hd9.2 (o := 4) (x := R) (Nat.lt_of_lt_of_le sz8 (Nat.le_refl _)) hRB).trans t4; have r4 := (gro_cell hd9.2 (o := 4) (x := w.heap.size) (Nat.lt_of_lt_of_le sw8 (Nat.le_refl _)) hwB).trans r4; have f4 := (gro_frozen hd9.2 (o := 4) (x := w.heap.size) (Nat.lt_of_lt_of_le sw8 (Nat.le_refl _)) hwB).trans f4) | (go_at_call 86; refine (pointOf_c B l HL.out (a + 22) (by omega) _ (HD.out.1.below (bel_dr (Below.refl _ _)))).mono ?_; rintro e W8 ⟨x3, rfl, hd8⟩; have HD8 : Hid (Drew B l a 28 w W8) := Lib.hid ((HD.out.bel (bel_dr (Below.refl _ _))).trans hd8); have sz8 : R < W8.heap.size := Nat.lt_of_lt_of_le sz4 hd8.2.size; have sw8 : w.heap.size < W8.heap.size := Nat.lt_of_lt_of_le sw4 hd8.2.size; have t0 := (gro_cell hd8.2 (o := 0) (x := R) (Nat.lt_of_lt_of_le sz4 (Nat.le_refl _)) hRB).trans t0; have r0 := (gro_cell hd8.2 (o := 0) (x := w.heap.size) (Nat.lt_of_lt_of_le sw4 (Nat.le_refl _)) hwB).trans r0; have f0 := (gro_frozen hd8.2 (o := 0) (x := w.heap.size) (Nat.lt_of_lt_of_le sw4 (Nat.le_refl _)) hwB).trans f0; have t1 := (gro_cell hd8.2 (o := 1) (x := R) (Nat.lt_of_lt_of_le sz4 (Nat.le_refl _)) hRB).trans t1; have r1 := (gro_cell hd8.2 (o := 1) (x := w.heap.size) (Nat.lt_of_lt_of_le sw4 (Nat.le_refl _)) hwB).trans r1; have f1 := (gro_frozen hd8.2 (o := 1) (x := w.heap.size) (Nat.lt_of_lt_of_le sw4 (Nat.le_refl _)) hwB).trans f1; have t2 := (gro_cell hd8.2 (o := 2) (x := R) (Nat.lt_of_lt_of_le sz4 (Nat.le_refl _)) hRB).trans t2; have r2 := (gro_cell hd8.2 (o := 2) (x := w.heap.size) (Nat.lt_of_lt_of_le sw4 (Nat.le_refl _)) hwB).trans r2; have f2 := (gro_frozen hd8.2 (o := 2) (x := w.heap.size) (Nat.lt_of_lt_of_le sw4 (Nat.le_refl _)) hwB).trans f2; have t3 := (gro_cell hd8.2 (o := 3) (x := R) (Nat.lt_of_lt_of_le sz4 (Nat.le_refl _)) hRB).trans t3; have r3 := (gro_cell hd8.2 (o := 3) (x := w.heap.size) (Nat.lt_of_lt_of_le sw4 (Nat.le_refl _)) hwB).trans r3; have f3 := (gro_frozen hd8.2 (o := 3) (x := w.heap.size) (Nat.lt_of_lt_of_le sw4 (Nat.le_refl _)) hwB).trans f3; have t4 := (gro_cell hd8.2 (o := 4) (x := R) (Nat.lt_of_lt_of_le sz4 (Nat.le_refl _)) hRB).trans t4; have r4 := (gro_cell hd8.2 (o := 4) (x := w.heap.size) (Nat.lt_of_lt_of_le sw4 (Nat.le_refl _)) hwB).trans r4; have f4 := (gro_frozen hd8.2 (o := 4) (x := w.heap.size) (Nat.lt_of_lt_of_le sw4 (Nat.le_refl _)) hwB).trans f4))
      go_wp2
      refine bodyPost_ret (v := .tuple #[ldV b n o s m, .int .i64 x3, .int .i64 x4]) (by simp [results, Tryd.results76, go_sem, r0, r1, r2, r3, r4, hne, hne2]) rfl ?_
      exact ⟨_, _, _, _, _, _, _, rfl, (HD9.out.own (only_setCell (only_setCell (only_setCell (only_setCell (only_setCell (World.grownBy.refl _ _) 0 _) 1 _) 2 _) 3 _) 4 _) (Nat.le_refl _) hBb).more (by omega)⟩
    | false =>
      go_wp2_with fail
      go_region_held3 (fun W' => W'.cell? ⟨R, 0, none⟩ = some (.int .i64 b) ∧ W'.cell? ⟨R, 1, none⟩ = some (.int .i64 n) ∧ W'.cell? ⟨R, 2, none⟩ = some (.int .i64 o) ∧ W'.cell? ⟨R, 3, none⟩ = some (.int .i64 s) ∧ W'.cell? ⟨R, 4, none⟩ = some (.int .i64 m)) (first | exact ⟨f0, f1, f2, f3, f4⟩ | exact ⟨d0, d1, d2, d3, d4⟩ | exact ⟨c0, c1, c2, c3, c4⟩ | exact ⟨t0, t1, t2, t3, t4⟩) (first | (have _q := hd2; go_at_call 55; refine (laTip_x b n o s m _ _ _ ⟨b0, b1⟩ (tip_arg s0 s1 m1 hx1 e6.out) (tip_arg2 l0 l1 hx2 e7.out)).mono ?_; rintro e W7 ⟨X, Y, rfl, hb7⟩; have f0 := (hb7.cell (p := ⟨R, 0, none⟩) (Nat.lt_of_lt_of_le sz6 (Nat.le_refl _))).trans d0; have f1 := (hb7.cell (p := ⟨R, 1, none⟩) (Nat.lt_of_lt_of_le sz6 (Nat.le_refl _))).trans d1; have f2 := (hb7.cell (p := ⟨R, 2, none⟩) (Nat.lt_of_lt_of_le sz6 (Nat.le_refl _))).trans d2; have f3 := (hb7.cell (p := ⟨R, 3, none⟩) (Nat.lt_of_lt_of_le sz6 (Nat.le_refl _))).trans d3; have f4 := (hb7.cell (p := ⟨R, 4, none⟩) (Nat.lt_of_lt_of_le sz6 (Nat.le_refl _))).trans d4) | (have _q := hd1; go_at_call 79; refine (pick_c B l HL.out (a + 24) (by omega) (IntKind.i64.wrap (n + 1)) e5.out _ (by first | exact HD5.out.1 | exact HD5.out.1.below (bel_dr (Below.refl _ _)))).mono ?_; rintro e W6 ⟨x2, rfl, hx2, hd2⟩; have HD6 : Hid (Drew B l a 26 w W6) := (by first | exact Lib.hid (HD5.out.trans hd2) | exact Lib.hid ((HD5.out.bel (bel_dr (Below.refl _ _))).trans hd2)); have sz6 : R < W6.heap.size := Nat.lt_of_lt_of_le sz5 hd2.2.size; have d0 := (gro_cell hd2.2 (o := 0) (x := R) (Nat.lt_of_lt_of_le sz5 (Nat.le_refl _)) hRB).trans c0; have d1 := (gro_cell hd2.2 (o := 1) (x := R) (Nat.lt_of_lt_of_le sz5 (Nat.le_refl _)) hRB).trans c1; have d2 := (gro_cell hd2.2 (o := 2) (x := R) (Nat.lt_of_lt_of_le sz5 (Nat.le_refl _)) hRB).trans c2; have d3 := (gro_cell hd2.2 (o := 3) (x := R) (Nat.lt_of_lt_of_le sz5 (Nat.le_refl _)) hRB).trans c3; have d4 := (gro_cell hd2.2 (o := 4) (x := R) (Nat.lt_of_lt_of_le sz5 (Nat.le_refl _)) hRB).trans c4) | (go_at_call 79; refine (pick_c B l HL.out (a + 22) (by omega) (IntKind.i64.wrap (IntKind.i64.wrap (m - s) + 1)) e4.out _ (HD.out.1.below (bel_dr (Below.refl _ _)))).mono ?_; rintro e W5 ⟨x1, rfl, hx1, hd1⟩; have HD5 : Hid (Drew B l a 24 w W5) := Lib.hid ((HD.out.bel (bel_dr (Below.refl _ _))).trans hd1); have sz5 : R < W5.heap.size := Nat.lt_of_lt_of_le sz4 hd1.2.size; have c0 := (gro_cell hd1.2 (o := 0) (x := R) (Nat.lt_of_lt_of_le sz4 (Nat.le_refl _)) hRB).trans t0; have c1 := (gro_cell hd1.2 (o := 1) (x := R) (Nat.lt_of_lt_of_le sz4 (Nat.le_refl _)) hRB).trans t1; have c2 := (gro_cell hd1.2 (o := 2) (x := R) (Nat.lt_of_lt_of_le sz4 (Nat.le_refl _)) hRB).trans t2; have c3 := (gro_cell hd1.2 (o := 3) (x := R) (Nat.lt_of_lt_of_le sz4 (Nat.le_refl _)) hRB).trans t3; have c4 := (gro_cell hd1.2 (o := 4) (x := R) (Nat.lt_of_lt_of_le sz4 (Nat.le_refl _)) hRB).trans t4))
      have HD : Hid (Drew B l a 26 w W7) := Lib.hid (HD6.out.bel hb7)
      have HR := Lib.hid (own_below (own_draw (own_draw (own_below HR.out (bel_dr (Below.refl _ _))) hd1.2 hBb) hd2.2 hBb) hb7)
      have HT := Lib.hid (own_below (own_draw (own_draw (own_below HT.out (bel_dr (Below.refl _ _))) hd1.2 (by omega)) hd2.2 (by omega)) hb7)
      have sz7 : R < W7.heap.size := Nat.lt_of_lt_of_le sz6 hb7.size
      clear f0 f1 f2 f3 f4 d0 d1 d2 d3 d4 c0 c1 c2 c3 c4 t0 t1 t2 t3 t4 hd1 hd2 hb7 HD5 HD6 hx1 hx2 e4 e5 e6 e7
      have t0 := HT.out.cellAt 0 (by omega)
      have t1 := HT.out.cellAt 1 (by omega)
      have t2 := HT.out.cellAt 2 (by omega)
      have t3 := HT.out.cellAt 3 (by omega)
      have t4 := HT.out.cellAt 4 (by omega)
      have r0 := HR.out.cellAt 0 (by omega)
      have r1 := HR.out.cellAt 1 (by omega)
      have r2 := HR.out.cellAt 2 (by omega)
      have r3 := HR.out.cellAt 3 (by omega)
      have r4 := HR.out.cellAt 4 (by omega)
      have f0 := HR.out.frozenAt 0
      have f1 := HR.out.frozenAt 1
      have f2 := HR.out.frozenAt 2
      have f3 := HR.out.frozenAt 3
      have f4 := HR.out.frozenAt 4
      dsimp only [List.getElem?_cons_zero, List.getElem?_cons_succ] at t0 t1 t2 t3 t4 r0 r1 r2 r3 r4
      have hwB : w.heap.size ≠ B := by omega
      have hne : w.heap.size ≠ R := by omega
      have hne2 : R ≠ w.heap.size := by omega
      have sw7 : w.heap.size < W7.heap.size := by omega
      go_wp2_with fail
      go_region_held3 (fun W' => W'.cell? ⟨R, 0, none⟩ = some (.int .i64 b) ∧ W'.cell? ⟨R, 1, none⟩ = some (.int .i64 n) ∧ W'.cell? ⟨R, 2, none⟩ = some (.int .i64 o) ∧ W'.cell? ⟨R, 3, none⟩ = some (.int .i64 s) ∧ W'.cell? ⟨R, 4, none⟩ = some (.int .i64 m)) (first | (with_reducible exact ⟨t0, t1, t2, t3, t4⟩) | (with_reducible exact ⟨cell_drew t0, cell_drew t1, cell_drew t2, cell_drew t3, cell_drew t4⟩) | (go_split_ands; refine ⟨?_, ?_, ?_, ?_, ?_⟩ <;> simp [go_sem, t0, t1, t2, t3, t4, hne, hne2])) (first | (go_at_call 60; refine (l1Most_c _ _ _).mono ?_; rintro e w' ⟨rfl, hw⟩; subst hw) | (have _q := hd8; go_at_call 79; refine (pick_c B l HL.out (a + 28) (by omega) 2 (by omega) _ HD8.out.1).mono ?_; rintro e W9 ⟨x4, rfl, hx4, hd9⟩; have HD9 : Hid (Drew B l a 30 w W9) := Lib.hid (HD8.out.trans hd9); have sz9 : R < W9.heap.size := Nat.lt_of_lt_of_le sz8 hd9.2.size; have sw9 : w.heap.size < W9.heap.size := Nat.lt_of_lt_of_le sw8 hd9.2.size; have t0 := (gro_cell hd9.2 (o := 0) (x := R) (Nat.lt_of_lt_of_le sz8 (Nat.le_refl _)) hRB).trans t0; have r0 := (gro_cell hd9.2 (o := 0) (x := w.heap.size) (Nat.lt_of_lt_of_le sw8 (Nat.le_refl _)) hwB).trans r0; have f0 := (gro_frozen hd9.2 (o := 0) (x := w.heap.size) (Nat.lt_of_lt_of_le sw8 (Nat.le_refl _)) hwB).trans f0; have t1 := (gro_cell hd9.2 (o := 1) (x := R) (Nat.lt_of_lt_of_le sz8 (Nat.le_refl _)) hRB).trans t1; have r1 := (gro_cell hd9.2 (o := 1) (x := w.heap.size) (Nat.lt_of_lt_of_le sw8 (Nat.le_refl _)) hwB).trans r1; have f1 := (gro_frozen hd9.2 (o := 1) (x := w.heap.size) (Nat.lt_of_lt_of_le sw8 (Nat.le_refl _)) hwB).trans f1; have t2 := (gro_cell hd9.2 (o := 2) (x := R) (Nat.lt_of_lt_of_le sz8 (Nat.le_refl _)) hRB).trans t2; have r2 := (gro_cell hd9.2 (o := 2) (x := w.heap.size) (Nat.lt_of_lt_of_le sw8 (Nat.le_refl _)) hwB).trans r2; have f2 := (gro_frozen hd9.2 (o := 2) (x := w.heap.size) (Nat.lt_of_lt_of_le sw8 (Nat.le_refl _)) hwB).trans f2; have t3 := (gro_cell hd9.2 (o := 3) (x := R) (Nat.lt_of_lt_of_le sz8 (Nat.le_refl _)) hRB).trans t3; have r3 := (gro_cell hd9.2 (o := 3) (x := w.heap.size) (Nat.lt_of_lt_of_le sw8 (Nat.le_refl _)) hwB).trans r3; have f3 := (gro_frozen hd9.2 (o := 3) (x := w.heap.size) (Nat.lt_of_lt_of_le sw8 (Nat.le_refl _)) hwB).trans f3; have t4 := (gro_cell hd9.2 (o := 4) (x := R) (Nat.lt_of_lt_of_le sz8 (Nat.le_refl _)) hRB).trans t4; have r4 := (gro_cell hd9.2 (o := 4) (x := w.heap.size) (Nat.lt_of_lt_of_le sw8 (Nat.le_refl _)) hwB).trans r4; have f4 := (gro_frozen hd9.2 (o := 4) (x := w.heap.size) (Nat.lt_of_lt_of_le sw8 (Nat.le_refl _)) hwB).trans f4) | (go_at_call 79; refine (pick_c B l HL.out (a + 26) (by omega) 3 (by omega) _ (HD.out.1.below (bel_dr (Below.refl _ _)))).mono ?_; rintro e W8 ⟨x3, rfl, hx3, hd8⟩; have HD8 : Hid (Drew B l a 28 w W8) := Lib.hid ((HD.out.bel (bel_dr (Below.refl _ _))).trans hd8); have sz8 : R < W8.heap.size := Nat.lt_of_lt_of_le sz7 hd8.2.size; have sw8 : w.heap.size < W8.heap.size := Nat.lt_of_lt_of_le sw7 hd8.2.size; have t0 := (gro_cell hd8.2 (o := 0) (x := R) (Nat.lt_of_lt_of_le sz7 (Nat.le_refl _)) hRB).trans t0; have r0 := (gro_cell hd8.2 (o := 0) (x := w.heap.size) (Nat.lt_of_lt_of_le sw7 (Nat.le_refl _)) hwB).trans r0; have f0 := (gro_frozen hd8.2 (o := 0) (x := w.heap.size) (Nat.lt_of_lt_of_le sw7 (Nat.le_refl _)) hwB).trans f0; have t1 := (gro_cell hd8.2 (o := 1) (x := R) (Nat.lt_of_lt_of_le sz7 (Nat.le_refl _)) hRB).trans t1; have r1 := (gro_cell hd8.2 (o := 1) (x := w.heap.size) (Nat.lt_of_lt_of_le sw7 (Nat.le_refl _)) hwB).trans r1; have f1 := (gro_frozen hd8.2 (o := 1) (x := w.heap.size) (Nat.lt_of_lt_of_le sw7 (Nat.le_refl _)) hwB).trans f1; have t2 := (gro_cell hd8.2 (o := 2) (x := R) (Nat.lt_of_lt_of_le sz7 (Nat.le_refl _)) hRB).trans t2; have r2 := (gro_cell hd8.2 (o := 2) (x := w.heap.size) (Nat.lt_of_lt_of_le sw7 (Nat.le_refl _)) hwB).trans r2; have f2 := (gro_frozen hd8.2 (o := 2) (x := w.heap.size) (Nat.lt_of_lt_of_le sw7 (Nat.le_refl _)) hwB).trans f2; have t3 := (gro_cell hd8.2 (o := 3) (x := R) (Nat.lt_of_lt_of_le sz7 (Nat.le_refl _)) hRB).trans t3; have r3 := (gro_cell hd8.2 (o := 3) (x := w.heap.size) (Nat.lt_of_lt_of_le sw7 (Nat.le_refl _)) hwB).trans r3; have f3 := (gro_frozen hd8.2 (o := 3) (x := w.heap.size) (Nat.lt_of_lt_of_le sw7 (Nat.le_refl _)) hwB).trans f3; have t4 := (gro_cell hd8.2 (o := 4) (x := R) (Nat.lt_of_lt_of_le sz7 (Nat.le_refl _)) hRB).trans t4; have r4 := (gro_cell hd8.2 (o := 4) (x := w.heap.size) (Nat.lt_of_lt_of_le sw7 (Nat.le_refl _)) hwB).trans r4; have f4 := (gro_frozen hd8.2 (o := 4) (x := w.heap.size) (Nat.lt_of_lt_of_le sw7 (Nat.le_refl _)) hwB).trans f4))
      go_wp2
      refine bodyPost_ret (v := .tuple #[ldV b n o s m, .int .i64 (maxI 0 (IntKind.i64.wrap (IntKind.i64.wrap (X - (x3 : Int)) + 1))), .int .i64 (maxI 0 (IntKind.i64.wrap (Y - (x4 : Int))))]) (by simp [results, Tryd.results76, go_sem, r0, r1, r2, r3, r4, hne, hne2]) rfl ?_
      exact ⟨_, _, _, _, _, _, _, rfl, (HD9.out.own (only_setCell (only_setCell (only_setCell (only_setCell (only_setCell (World.grownBy.refl _ _) 0 _) 1 _) 2 _) 3 _) 4 _) (Nat.le_refl _) hBb).more (by omega)⟩
end Go.Proofs.YtibkadkodblefaaDoor
