/-
  Draws of CanReach, HighestAt, FarthestFor, TipOf (printed by gen_drawl.py).
-/
import Derived.Test.YtibkadkodblefaaDoorDrawP
namespace Go.Proofs.YtibkadkodblefaaDoor
open Go.RowKit

set_option maxRecDepth 100000 in
set_option maxHeartbeats 2000000 in
theorem drawCanReach_c (v : Value) (l : List Int) (hn : l.length ≤ 9223372036854775807) (hl : BytesOk l) (w : World) (hr : Rd w v l.length (bys l)) :
    Calls Tryd.prog 39 #[v] w fun e w' => (∃ b n o s m x y : Int, e = .returned (.tuple #[ldV b n o s m, .int .i64 x, .int .i64 y])) ∧ Below w.heap.size w w' := by
  have HB9 := Lib.hid hr
  have HL := Lib.hid hl
  obtain ⟨A0, c0, rfl, _⟩ := hr
  clear hl
  go_enter Tryd.func39, Tryd.ntmps39
  go_upto_region 1 with fail
  generalize hW : World.alloc w _ = W0
  have hr0 : W0.ownsRow w.heap.size 31 5 (.slice (some ⟨w.heap.size, 0, none⟩) 1 1) 1 [.int .i64 0, .int .i64 0, .int .i64 0, .int .i64 0, .int .i64 0] := by subst hW; exact row_new w _ _ 1 5 rfl (by omega) (by omega)
  have hb0 : Below w.heap.size w W0 := by subst hW; exact bel_al (Below.refl _ _) _
  have sz0 : w.heap.size < W0.heap.size := by subst hW; simp
  have HR := Lib.hid hr0
  have HB0 := Lib.hid hb0
  have HRd := Lib.hid (rd_below HB9.out hb0)
  clear hW hr0 hb0
  go_upto_region 2 with fail
  generalize hW : World.alloc W0 _ = W1
  have hc := cur_new W0 _ l HRd.out hn W1 (by subst hW; simp [go_sem]) (by subst hW; simp [go_sem]) (by subst hW; simp [go_sem]) (by subst hW; simp [go_sem]) (by subst hW; simp [go_sem]) (by subst hW; exact bel_al (Below.refl _ _) _)
  have hb1 : Below W0.heap.size W0 W1 := by subst hW; exact bel_al (Below.refl _ _) _
  have HR := Lib.hid (own_below HR.out hb1)
  have HB1 := Lib.hid hb1
  have sz1 := hb1.size
  obtain ⟨B, hBd⟩ : ∃ B, W0.heap.size = B := ⟨_, rfl⟩
  rw [hBd] at hc ⊢
  have HBD := Lib.hid hBd
  have hwB : w.heap.size < B := by omega
  have hBb : B < W1.heap.size := hc.lt
  have HD := Lib.hid (Drew.refl hc 0)
  clear hW hb1 hBd hc
  go_wp2_with fail
  refine (ladderPoint_c B l HL.out 0 (by omega) _ HD.out.1).mono ?_; rintro e W2 ⟨b, n, o, s, m, x, y, rfl, hd⟩
  have HR := Lib.hid (gro_other HR.out hd.2 (fun hq => by have : w.heap.size = B := Option.some.inj hq; omega))
  have HD := Lib.hid (HD.out.trans hd)
  have sz2 := hd.2.size
  clear hd
  have r0 := HR.out.cellAt 0 (by omega)
  have r1 := HR.out.cellAt 1 (by omega)
  have r2 := HR.out.cellAt 2 (by omega)
  have r3 := HR.out.cellAt 3 (by omega)
  have r4 := HR.out.cellAt 4 (by omega)
  dsimp only [List.getElem?_cons_zero, List.getElem?_cons_succ] at r0 r1 r2 r3 r4
  have f0 := HR.out.frozenAt 0
  have f1 := HR.out.frozenAt 1
  have f2 := HR.out.frozenAt 2
  have f3 := HR.out.frozenAt 3
  have f4 := HR.out.frozenAt 4
  go_wp2
  have HO : Below W0.heap.size W0 W2 := by have h := HD.out; rw [← HBD.out] at h; exact Drew.out HB1.out h
  refine bodyPost_ret (v := .tuple #[ldV b n o s m, .int .i64 x, .int .i64 y]) (by simp [results, Tryd.results39, go_sem, r0, r1, r2, r3, r4]) rfl ?_
  exact ⟨⟨_, _, _, _, _, _, _, rfl⟩, bel_grown (bel_then HB0.out HO) (only_setCell (only_setCell (only_setCell (only_setCell (only_setCell (World.grownBy.refl _ _) 0 _) 1 _) 2 _) 3 _) 4 _) (fun q e => Nat.le_of_eq (Option.some.inj e))⟩
set_option maxRecDepth 100000 in
set_option maxHeartbeats 2000000 in
theorem drawHighestAt_c (v : Value) (l : List Int) (hn : l.length ≤ 9223372036854775807) (hl : BytesOk l) (w : World) (hr : Rd w v l.length (bys l)) :
    Calls Tryd.prog 41 #[v] w fun e w' => (∃ b n o s m x : Int, e = .returned (.tuple #[ldV b n o s m, .int .i64 x])) ∧ Below w.heap.size w w' := by
  have HB9 := Lib.hid hr
  have HL := Lib.hid hl
  obtain ⟨A0, c0, rfl, _⟩ := hr
  clear hl
  go_enter Tryd.func41, Tryd.ntmps41
  go_upto_region 1 with fail
  generalize hW : World.alloc w _ = W0
  have hr0 : W0.ownsRow w.heap.size 31 5 (.slice (some ⟨w.heap.size, 0, none⟩) 1 1) 1 [.int .i64 0, .int .i64 0, .int .i64 0, .int .i64 0, .int .i64 0] := by subst hW; exact row_new w _ _ 1 5 rfl (by omega) (by omega)
  have hb0 : Below w.heap.size w W0 := by subst hW; exact bel_al (Below.refl _ _) _
  have sz0 : w.heap.size < W0.heap.size := by subst hW; simp
  have HR := Lib.hid hr0
  have HB0 := Lib.hid hb0
  have HRd := Lib.hid (rd_below HB9.out hb0)
  clear hW hr0 hb0
  go_upto_region 2 with fail
  generalize hW : World.alloc W0 _ = W1
  have hc := cur_new W0 _ l HRd.out hn W1 (by subst hW; simp [go_sem]) (by subst hW; simp [go_sem]) (by subst hW; simp [go_sem]) (by subst hW; simp [go_sem]) (by subst hW; simp [go_sem]) (by subst hW; exact bel_al (Below.refl _ _) _)
  have hb1 : Below W0.heap.size W0 W1 := by subst hW; exact bel_al (Below.refl _ _) _
  have HR := Lib.hid (own_below HR.out hb1)
  have HB1 := Lib.hid hb1
  have sz1 := hb1.size
  obtain ⟨B, hBd⟩ : ∃ B, W0.heap.size = B := ⟨_, rfl⟩
  rw [hBd] at hc ⊢
  have HBD := Lib.hid hBd
  have hwB : w.heap.size < B := by omega
  have hBb : B < W1.heap.size := hc.lt
  have HD := Lib.hid (Drew.refl hc 0)
  clear hW hb1 hBd hc
  go_wp2_with fail
  refine (ladderPoint_c B l HL.out 0 (by omega) _ HD.out.1).mono ?_; rintro e W2 ⟨b, n, o, s, m, x, y, rfl, hd⟩
  have HR := Lib.hid (gro_other HR.out hd.2 (fun hq => by have : w.heap.size = B := Option.some.inj hq; omega))
  have HD := Lib.hid (HD.out.trans hd)
  have sz2 := hd.2.size
  clear hd
  go_upto_region 3 with fail
  generalize hW : World.alloc W2 _ = W3
  have hr0 : W3.ownsRow W2.heap.size 31 5 (.slice (some ⟨W2.heap.size, 0, none⟩) 1 1) 1 [.int .i64 b, .int .i64 n, .int .i64 o, .int .i64 s, .int .i64 m] := by subst hW; exact row_new W2 _ _ 1 5 rfl (by omega) (by omega)
  have hbl : Below W2.heap.size W2 W3 := by subst hW; exact bel_al (Below.refl _ _) _
  have HD := Lib.hid (HD.out.bel hbl)
  have HR := Lib.hid (own_below HR.out hbl)
  have HT := Lib.hid hr0
  have hne : w.heap.size ≠ W2.heap.size := by omega
  have hne2 : W2.heap.size ≠ w.heap.size := by omega
  clear hW hr0 hbl
  have t0 := HT.out.cellAt 0 (by omega)
  have t1 := HT.out.cellAt 1 (by omega)
  have t2 := HT.out.cellAt 2 (by omega)
  have t3 := HT.out.cellAt 3 (by omega)
  have t4 := HT.out.cellAt 4 (by omega)
  dsimp only [List.getElem?_cons_zero, List.getElem?_cons_succ] at t0 t1 t2 t3 t4
  have r0 := HR.out.cellAt 0 (by omega)
  have r1 := HR.out.cellAt 1 (by omega)
  have r2 := HR.out.cellAt 2 (by omega)
  have r3 := HR.out.cellAt 3 (by omega)
  have r4 := HR.out.cellAt 4 (by omega)
  dsimp only [List.getElem?_cons_zero, List.getElem?_cons_succ] at r0 r1 r2 r3 r4
  have f0 := HR.out.frozenAt 0
  have f1 := HR.out.frozenAt 1
  have f2 := HR.out.frozenAt 2
  have f3 := HR.out.frozenAt 3
  have f4 := HR.out.frozenAt 4
  go_wp2
  have HO : Below W0.heap.size W0 W3 := by have h := HD.out; rw [← HBD.out] at h; exact Drew.out HB1.out h
  refine bodyPost_ret (v := .tuple #[ldV b n o s m, .int .i64 x]) (by simp [results, Tryd.results41, go_sem, r0, r1, r2, r3, r4]) rfl ?_
  exact ⟨⟨_, _, _, _, _, _, rfl⟩, bel_grown (bel_then HB0.out HO) (only_setCell (only_setCell (only_setCell (only_setCell (only_setCell (World.grownBy.refl _ _) 0 _) 1 _) 2 _) 3 _) 4 _) (fun q e => Nat.le_of_eq (Option.some.inj e))⟩
set_option maxRecDepth 100000 in
set_option maxHeartbeats 2000000 in
theorem drawFarthestFor_c (v : Value) (l : List Int) (hn : l.length ≤ 9223372036854775807) (hl : BytesOk l) (w : World) (hr : Rd w v l.length (bys l)) :
    Calls Tryd.prog 42 #[v] w fun e w' => (∃ b n o s m y : Int, e = .returned (.tuple #[ldV b n o s m, .int .i64 y])) ∧ Below w.heap.size w w' := by
  have HB9 := Lib.hid hr
  have HL := Lib.hid hl
  obtain ⟨A0, c0, rfl, _⟩ := hr
  clear hl
  go_enter Tryd.func42, Tryd.ntmps42
  go_upto_region 1 with fail
  generalize hW : World.alloc w _ = W0
  have hr0 : W0.ownsRow w.heap.size 31 5 (.slice (some ⟨w.heap.size, 0, none⟩) 1 1) 1 [.int .i64 0, .int .i64 0, .int .i64 0, .int .i64 0, .int .i64 0] := by subst hW; exact row_new w _ _ 1 5 rfl (by omega) (by omega)
  have hb0 : Below w.heap.size w W0 := by subst hW; exact bel_al (Below.refl _ _) _
  have sz0 : w.heap.size < W0.heap.size := by subst hW; simp
  have HR := Lib.hid hr0
  have HB0 := Lib.hid hb0
  have HRd := Lib.hid (rd_below HB9.out hb0)
  clear hW hr0 hb0
  go_upto_region 2 with fail
  generalize hW : World.alloc W0 _ = W1
  have hc := cur_new W0 _ l HRd.out hn W1 (by subst hW; simp [go_sem]) (by subst hW; simp [go_sem]) (by subst hW; simp [go_sem]) (by subst hW; simp [go_sem]) (by subst hW; simp [go_sem]) (by subst hW; exact bel_al (Below.refl _ _) _)
  have hb1 : Below W0.heap.size W0 W1 := by subst hW; exact bel_al (Below.refl _ _) _
  have HR := Lib.hid (own_below HR.out hb1)
  have HB1 := Lib.hid hb1
  have sz1 := hb1.size
  obtain ⟨B, hBd⟩ : ∃ B, W0.heap.size = B := ⟨_, rfl⟩
  rw [hBd] at hc ⊢
  have HBD := Lib.hid hBd
  have hwB : w.heap.size < B := by omega
  have hBb : B < W1.heap.size := hc.lt
  have HD := Lib.hid (Drew.refl hc 0)
  clear hW hb1 hBd hc
  go_wp2_with fail
  refine (ladderPoint_c B l HL.out 0 (by omega) _ HD.out.1).mono ?_; rintro e W2 ⟨b, n, o, s, m, x, y, rfl, hd⟩
  have HR := Lib.hid (gro_other HR.out hd.2 (fun hq => by have : w.heap.size = B := Option.some.inj hq; omega))
  have HD := Lib.hid (HD.out.trans hd)
  have sz2 := hd.2.size
  clear hd
  go_upto_region 3 with fail
  generalize hW : World.alloc W2 _ = W3
  have hr0 : W3.ownsRow W2.heap.size 31 5 (.slice (some ⟨W2.heap.size, 0, none⟩) 1 1) 1 [.int .i64 b, .int .i64 n, .int .i64 o, .int .i64 s, .int .i64 m] := by subst hW; exact row_new W2 _ _ 1 5 rfl (by omega) (by omega)
  have hbl : Below W2.heap.size W2 W3 := by subst hW; exact bel_al (Below.refl _ _) _
  have HD := Lib.hid (HD.out.bel hbl)
  have HR := Lib.hid (own_below HR.out hbl)
  have HT := Lib.hid hr0
  have hne : w.heap.size ≠ W2.heap.size := by omega
  have hne2 : W2.heap.size ≠ w.heap.size := by omega
  clear hW hr0 hbl
  have t0 := HT.out.cellAt 0 (by omega)
  have t1 := HT.out.cellAt 1 (by omega)
  have t2 := HT.out.cellAt 2 (by omega)
  have t3 := HT.out.cellAt 3 (by omega)
  have t4 := HT.out.cellAt 4 (by omega)
  dsimp only [List.getElem?_cons_zero, List.getElem?_cons_succ] at t0 t1 t2 t3 t4
  have r0 := HR.out.cellAt 0 (by omega)
  have r1 := HR.out.cellAt 1 (by omega)
  have r2 := HR.out.cellAt 2 (by omega)
  have r3 := HR.out.cellAt 3 (by omega)
  have r4 := HR.out.cellAt 4 (by omega)
  dsimp only [List.getElem?_cons_zero, List.getElem?_cons_succ] at r0 r1 r2 r3 r4
  have f0 := HR.out.frozenAt 0
  have f1 := HR.out.frozenAt 1
  have f2 := HR.out.frozenAt 2
  have f3 := HR.out.frozenAt 3
  have f4 := HR.out.frozenAt 4
  go_wp2
  have HO : Below W0.heap.size W0 W3 := by have h := HD.out; rw [← HBD.out] at h; exact Drew.out HB1.out h
  refine bodyPost_ret (v := .tuple #[ldV b n o s m, .int .i64 y]) (by simp [results, Tryd.results42, go_sem, r0, r1, r2, r3, r4]) rfl ?_
  exact ⟨⟨_, _, _, _, _, _, rfl⟩, bel_grown (bel_then HB0.out HO) (only_setCell (only_setCell (only_setCell (only_setCell (only_setCell (World.grownBy.refl _ _) 0 _) 1 _) 2 _) 3 _) 4 _) (fun q e => Nat.le_of_eq (Option.some.inj e))⟩
theorem cell_al {W : World} {p : Addr} {v : Value} {x : Obj} (h : W.cell? p = some v) : (W.alloc x).cell? p = some v := (World.cell?_alloc_lt _ _ _ (World.block_lt_of_cell? W _ h)).trans h
def RS (B : Nat) (X : World) (v : Value) (q : List Int) : Prop := RdI X v q ∧ ∀ b off n c, v = .slice (some ⟨b, off, none⟩) n c → b ≠ B
theorem rs_dr {B : Nat} {X : World} {v : Value} {q : List Int} (h : RS B X v q) : RS B X.drew v q := ⟨rdi_below h.1 (bel_dr (Below.refl _ _)), h.2⟩
theorem rs_al {B : Nat} {X : World} {v : Value} {q : List Int} {x : Obj} (h : RS B X v q) : RS B (X.alloc x) v q := ⟨rdi_below h.1 (bel_al (Below.refl _ _) _), h.2⟩
theorem rs_gro {B : Nat} {X Y : World} {v : Value} {q : List Int} (h : RS B X v q) (g : X.grownBy Y (some B)) : RS B Y v q := by
  obtain ⟨⟨A, c, hv, h1, h2, h3⟩, hn⟩ := h
  refine ⟨⟨A, c, hv, h1, h2, fun h0 => ?_⟩, hn⟩
  obtain ⟨b, off, hA, hlt, hc⟩ := h3 h0
  exact ⟨b, off, hA, Nat.lt_of_lt_of_le hlt g.size, fun j u hu => (gro_cell g hlt (hn b off _ _ (by rw [hv, hA]))).trans (hc j u hu)⟩
theorem rs_new {B : Nat} {l : List Int} {a : Nat} {W Y : World} {q : List Int} {t : TypeId} {k : Nat} (h : CurAt B l a W) (hb : Below W.heap.size W Y) (hq : q.length ≤ 1000) (hk : k = Y.heap.size) : RS B (Y.alloc (.cells (ints q).toArray t)) (.slice (some ⟨k, 0, none⟩) q.length q.length) q :=
  ⟨rd_new Y hk (Nat.le_refl _) (by rw [maxLen_eq]; omega), by subst hk; exact lit_ne (Nat.lt_of_lt_of_le h.lt hb.size)⟩
theorem pick_at {B : Nat} {l : List Int} {a k : Nat} {w W X : World} (hl : BytesOk l) (HD : Drew B l a k w W) (hb : Below W.heap.size W X) (hk : a + k ≤ 4611686018427380000) (n : Int) (hn : n ≤ 4294967296) :
    Calls Tryd.prog 79 #[.pointer (some ⟨B, 0, none⟩), .int .i64 n] X fun e w' => ∃ x : Nat, e = .returned (.int .i64 x) ∧ Drew B l a (k + 2) w w' ∧ X.grownBy w' (some B) := by
  refine (pick_c B l hl (a + k) (by omega) n hn X (HD.1.below hb)).mono ?_
  rintro e w' ⟨x, rfl, _, hd⟩
  exact ⟨x, rfl, (HD.bel hb).trans hd, hd.2⟩
theorem among_at {B : Nat} {l : List Int} {a k : Nat} {w W X : World} {v : Value} (hl : BytesOk l) (HD : Drew B l a k w W) (hb : Below W.heap.size W X) (hk : a + k ≤ 4611686018427380000) (q : List Int) (h0 : 0 < q.length) (h1 : q.length ≤ 1000) (hq : RS B X v q) :
    Calls Tryd.prog 78 #[.pointer (some ⟨B, 0, none⟩), v] X fun e w' => ∃ y : Int, e = .returned (.int .i64 y) ∧ Drew B l a (k + 2) w w' ∧ X.grownBy w' (some B) := by
  refine (among_c B l hl (a + k) (by omega) v q h0 h1 X (HD.1.below hb) hq.1 hq.2).mono ?_
  rintro e w' ⟨y, rfl, _, hd⟩
  exact ⟨y, rfl, (HD.bel hb).trans hd, hd.2⟩

set_option maxRecDepth 100000 in
set_option maxHeartbeats 2000000 in
theorem drawTipOf_c (v : Value) (l : List Int) (hn : l.length ≤ 9223372036854775807) (hl : BytesOk l) (w : World) (hr : Rd w v l.length (bys l)) :
    Calls Tryd.prog 40 #[v] w fun e w' => (∃ b n o s m x y : Int, e = .returned (.tuple #[ldV b n o s m, .int .i64 x, .int .i64 y])) ∧ Below w.heap.size w w' := by
  have HB9 := Lib.hid hr
  have HL := Lib.hid hl
  obtain ⟨A0, c0, rfl, _⟩ := hr
  clear hl
  go_enter Tryd.func40, Tryd.ntmps40
  go_upto_region 1 with fail
  generalize hW : World.alloc w _ = W0
  have hr0 : W0.ownsRow w.heap.size 31 5 (.slice (some ⟨w.heap.size, 0, none⟩) 1 1) 1 [.int .i64 0, .int .i64 0, .int .i64 0, .int .i64 0, .int .i64 0] := by subst hW; exact row_new w _ _ 1 5 rfl (by omega) (by omega)
  have hb0 : Below w.heap.size w W0 := by subst hW; exact bel_al (Below.refl _ _) _
  have sz0 : w.heap.size < W0.heap.size := by subst hW; simp
  have HR := Lib.hid hr0
  have HB0 := Lib.hid hb0
  have HRd := Lib.hid (rd_below HB9.out hb0)
  clear hW hr0 hb0
  go_upto_region 2 with fail
  generalize hW : World.alloc W0 _ = W1
  have hc := cur_new W0 _ l HRd.out hn W1 (by subst hW; simp [go_sem]) (by subst hW; simp [go_sem]) (by subst hW; simp [go_sem]) (by subst hW; simp [go_sem]) (by subst hW; simp [go_sem]) (by subst hW; exact bel_al (Below.refl _ _) _)
  have hb1 : Below W0.heap.size W0 W1 := by subst hW; exact bel_al (Below.refl _ _) _
  have HR := Lib.hid (own_below HR.out hb1)
  have HB1 := Lib.hid hb1
  have sz1 := hb1.size
  obtain ⟨B, hBd⟩ : ∃ B, W0.heap.size = B := ⟨_, rfl⟩
  rw [hBd] at hc ⊢
  have HBD := Lib.hid hBd
  have hwB : w.heap.size < B := by omega
  have hBb : B < W1.heap.size := hc.lt
  have HD := Lib.hid (Drew.refl hc 0)
  clear hW hb1 hBd hc
  go_wp2_with fail
  refine (ladder_c B l HL.out 0 (by omega) _ HD.out.1).mono ?_; rintro e W2 ⟨b, n, o, s, m, rfl, hd⟩
  have HR := Lib.hid (gro_other HR.out hd.2 (fun hq => by have : w.heap.size = B := Option.some.inj hq; omega))
  have HD := Lib.hid (HD.out.trans hd)
  have sz2 := hd.2.size
  clear hd
  go_upto_region 3 with fail
  generalize hW : World.alloc W2 _ = W3
  have hr0 : W3.ownsRow W2.heap.size 31 5 (.slice (some ⟨W2.heap.size, 0, none⟩) 1 1) 1 [.int .i64 b, .int .i64 n, .int .i64 o, .int .i64 s, .int .i64 m] := by subst hW; exact row_new W2 _ _ 1 5 rfl (by omega) (by omega)
  have hbl : Below W2.heap.size W2 W3 := by subst hW; exact bel_al (Below.refl _ _) _
  have HD := Lib.hid (HD.out.bel hbl)
  have HR := Lib.hid (own_below HR.out hbl)
  have HT := Lib.hid hr0
  have sz3 : W2.heap.size < W3.heap.size := by subst hW; simp
  obtain ⟨R, hRR⟩ : ∃ R, W2.heap.size = R := ⟨_, rfl⟩
  rw [hRR] at HT sz3 ⊢
  have hne : w.heap.size ≠ R := by omega
  have hne2 : R ≠ w.heap.size := by omega
  have hRB : R ≠ B := by omega
  have hwB' : w.heap.size ≠ B := by omega
  have sw3 : w.heap.size < W3.heap.size := by omega
  clear hW hr0 hbl hRR
  have t0 := HT.out.cellAt 0 (by omega)
  have t1 := HT.out.cellAt 1 (by omega)
  have t2 := HT.out.cellAt 2 (by omega)
  have t3 := HT.out.cellAt 3 (by omega)
  have t4 := HT.out.cellAt 4 (by omega)
  dsimp only [List.getElem?_cons_zero, List.getElem?_cons_succ] at t0 t1 t2 t3 t4
  have r0 := HR.out.cellAt 0 (by omega)
  have r1 := HR.out.cellAt 1 (by omega)
  have r2 := HR.out.cellAt 2 (by omega)
  have r3 := HR.out.cellAt 3 (by omega)
  have r4 := HR.out.cellAt 4 (by omega)
  dsimp only [List.getElem?_cons_zero, List.getElem?_cons_succ] at r0 r1 r2 r3 r4
  have f0 := HR.out.frozenAt 0
  have f1 := HR.out.frozenAt 1
  have f2 := HR.out.frozenAt 2
  have f3 := HR.out.frozenAt 3
  have f4 := HR.out.frozenAt 4
  have HDb : Hid (Drew B l 20 0 W3 W3) := Lib.hid (Drew.refl HD.out.1 0)
  have tb0 := t0
  have rb0 := r0
  have fb0 := f0
  have tb1 := t1
  have rb1 := r1
  have fb1 := f1
  have tb2 := t2
  have rb2 := r2
  have fb2 := f2
  have tb3 := t3
  have rb3 := r3
  have fb3 := f3
  have tb4 := t4
  have rb4 := r4
  have fb4 := f4
  go_region_held3 (fun W' => W'.cell? ⟨R, 0, none⟩ = some (.int .i64 b) ∧ W'.cell? ⟨R, 1, none⟩ = some (.int .i64 n) ∧ W'.cell? ⟨R, 2, none⟩ = some (.int .i64 o) ∧ W'.cell? ⟨R, 3, none⟩ = some (.int .i64 s) ∧ W'.cell? ⟨R, 4, none⟩ = some (.int .i64 m)) (first | (with_reducible exact ⟨t0, t1, t2, t3, t4⟩) | (refine ⟨?_, ?_, ?_, ?_, ?_⟩ <;> (repeat' (first | (with_reducible assumption) | (with_reducible apply cell_drew) | (with_reducible apply cell_al))) <;> done) | (go_split_ands; refine ⟨?_, ?_, ?_, ?_, ?_⟩ <;> simp [go_sem, t0, t1, t2, t3, t4, hne, hne2])) (first | (have _q := HD7; go_at_call 78; refine (among_at HL.out HD7.out (by ((repeat' (first | (with_reducible exact Below.refl _ _) | (with_reducible apply bel_al) | (with_reducible apply bel_dr))); done)) (by omega) [0, 50, 100, n, (x6 : Int), y7] (by simp) (by simp) (by ((repeat' (first | (refine rs_new (q := [0, 50, 100, n, (x6 : Int), y7]) (HD7.out.1) ?_ (by simp) ?_; rotate_left; (first | rfl | simp); (((repeat' (first | (with_reducible exact Below.refl _ _) | (with_reducible apply bel_al) | (with_reducible apply bel_dr))); done))) | (refine rs_new (q := [0, 50, 100, n, (x6 : Int), y7]) (HD6.out.1) ?_ (by simp) ?_; rotate_left; (first | rfl | simp); (((repeat' (first | (with_reducible exact Below.refl _ _) | (with_reducible apply bel_al) | (with_reducible apply bel_dr))); done))) | (refine rs_new (q := [0, 50, 100, n, (x6 : Int), y7]) (HD5.out.1) ?_ (by simp) ?_; rotate_left; (first | rfl | simp); (((repeat' (first | (with_reducible exact Below.refl _ _) | (with_reducible apply bel_al) | (with_reducible apply bel_dr))); done))) | (refine rs_new (q := [0, 50, 100, n, (x6 : Int), y7]) (HD4.out.1) ?_ (by simp) ?_; rotate_left; (first | rfl | simp); (((repeat' (first | (with_reducible exact Below.refl _ _) | (with_reducible apply bel_al) | (with_reducible apply bel_dr))); done))) | (refine rs_new (q := [0, 50, 100, n, (x6 : Int), y7]) (HDb.out.1) ?_ (by simp) ?_; rotate_left; (first | rfl | simp); (((repeat' (first | (with_reducible exact Below.refl _ _) | (with_reducible apply bel_al) | (with_reducible apply bel_dr))); done))) | (with_reducible apply rs_dr) | (with_reducible apply rs_al) | (with_reducible refine rs_gro ?_ g7) | (with_reducible refine rs_gro ?_ g6) | (with_reducible refine rs_gro ?_ g5) | (with_reducible refine rs_gro ?_ g4))); done))).mono ?_; rintro e W8 ⟨y8, rfl, d8, g8⟩; have t0 := (gro_cell d8.2 (o := 0) (x := R) sz3 hRB).trans tb0; have r0 := (gro_cell d8.2 (o := 0) (x := w.heap.size) sw3 hwB').trans rb0; have f0 := (gro_frozen d8.2 (o := 0) (x := w.heap.size) sw3 hwB').trans fb0; have t1 := (gro_cell d8.2 (o := 1) (x := R) sz3 hRB).trans tb1; have r1 := (gro_cell d8.2 (o := 1) (x := w.heap.size) sw3 hwB').trans rb1; have f1 := (gro_frozen d8.2 (o := 1) (x := w.heap.size) sw3 hwB').trans fb1; have t2 := (gro_cell d8.2 (o := 2) (x := R) sz3 hRB).trans tb2; have r2 := (gro_cell d8.2 (o := 2) (x := w.heap.size) sw3 hwB').trans rb2; have f2 := (gro_frozen d8.2 (o := 2) (x := w.heap.size) sw3 hwB').trans fb2; have t3 := (gro_cell d8.2 (o := 3) (x := R) sz3 hRB).trans tb3; have r3 := (gro_cell d8.2 (o := 3) (x := w.heap.size) sw3 hwB').trans rb3; have f3 := (gro_frozen d8.2 (o := 3) (x := w.heap.size) sw3 hwB').trans fb3; have t4 := (gro_cell d8.2 (o := 4) (x := R) sz3 hRB).trans tb4; have r4 := (gro_cell d8.2 (o := 4) (x := w.heap.size) sw3 hwB').trans rb4; have f4 := (gro_frozen d8.2 (o := 4) (x := w.heap.size) sw3 hwB').trans fb4; have HD8 := Lib.hid d8; clear d8) | (have _q := HD6; go_at_call 78; refine (among_at HL.out HD6.out (by ((repeat' (first | (with_reducible exact Below.refl _ _) | (with_reducible apply bel_al) | (with_reducible apply bel_dr))); done)) (by omega) [-1, 601] (by simp) (by simp) (by ((repeat' (first | (refine rs_new (q := [-1, 601]) (HD6.out.1) ?_ (by simp) ?_; rotate_left; (first | rfl | simp); (((repeat' (first | (with_reducible exact Below.refl _ _) | (with_reducible apply bel_al) | (with_reducible apply bel_dr))); done))) | (refine rs_new (q := [-1, 601]) (HD5.out.1) ?_ (by simp) ?_; rotate_left; (first | rfl | simp); (((repeat' (first | (with_reducible exact Below.refl _ _) | (with_reducible apply bel_al) | (with_reducible apply bel_dr))); done))) | (refine rs_new (q := [-1, 601]) (HD4.out.1) ?_ (by simp) ?_; rotate_left; (first | rfl | simp); (((repeat' (first | (with_reducible exact Below.refl _ _) | (with_reducible apply bel_al) | (with_reducible apply bel_dr))); done))) | (refine rs_new (q := [-1, 601]) (HDb.out.1) ?_ (by simp) ?_; rotate_left; (first | rfl | simp); (((repeat' (first | (with_reducible exact Below.refl _ _) | (with_reducible apply bel_al) | (with_reducible apply bel_dr))); done))) | (with_reducible apply rs_dr) | (with_reducible apply rs_al) | (with_reducible refine rs_gro ?_ g6) | (with_reducible refine rs_gro ?_ g5) | (with_reducible refine rs_gro ?_ g4))); done))).mono ?_; rintro e W7 ⟨y7, rfl, d7, g7⟩; have t0 := (gro_cell d7.2 (o := 0) (x := R) sz3 hRB).trans tb0; have r0 := (gro_cell d7.2 (o := 0) (x := w.heap.size) sw3 hwB').trans rb0; have f0 := (gro_frozen d7.2 (o := 0) (x := w.heap.size) sw3 hwB').trans fb0; have t1 := (gro_cell d7.2 (o := 1) (x := R) sz3 hRB).trans tb1; have r1 := (gro_cell d7.2 (o := 1) (x := w.heap.size) sw3 hwB').trans rb1; have f1 := (gro_frozen d7.2 (o := 1) (x := w.heap.size) sw3 hwB').trans fb1; have t2 := (gro_cell d7.2 (o := 2) (x := R) sz3 hRB).trans tb2; have r2 := (gro_cell d7.2 (o := 2) (x := w.heap.size) sw3 hwB').trans rb2; have f2 := (gro_frozen d7.2 (o := 2) (x := w.heap.size) sw3 hwB').trans fb2; have t3 := (gro_cell d7.2 (o := 3) (x := R) sz3 hRB).trans tb3; have r3 := (gro_cell d7.2 (o := 3) (x := w.heap.size) sw3 hwB').trans rb3; have f3 := (gro_frozen d7.2 (o := 3) (x := w.heap.size) sw3 hwB').trans fb3; have t4 := (gro_cell d7.2 (o := 4) (x := R) sz3 hRB).trans tb4; have r4 := (gro_cell d7.2 (o := 4) (x := w.heap.size) sw3 hwB').trans rb4; have f4 := (gro_frozen d7.2 (o := 4) (x := w.heap.size) sw3 hwB').trans fb4; have HD7 := Lib.hid d7; clear d7) | (have _q := HD5; go_at_call 79; refine (pick_at HL.out HD5.out (by ((repeat' (first | (with_reducible exact Below.refl _ _) | (with_reducible apply bel_al) | (with_reducible apply bel_dr))); done)) (by omega) 300 (by omega)).mono ?_; rintro e W6 ⟨x6, rfl, d6, g6⟩; have t0 := (gro_cell d6.2 (o := 0) (x := R) sz3 hRB).trans tb0; have r0 := (gro_cell d6.2 (o := 0) (x := w.heap.size) sw3 hwB').trans rb0; have f0 := (gro_frozen d6.2 (o := 0) (x := w.heap.size) sw3 hwB').trans fb0; have t1 := (gro_cell d6.2 (o := 1) (x := R) sz3 hRB).trans tb1; have r1 := (gro_cell d6.2 (o := 1) (x := w.heap.size) sw3 hwB').trans rb1; have f1 := (gro_frozen d6.2 (o := 1) (x := w.heap.size) sw3 hwB').trans fb1; have t2 := (gro_cell d6.2 (o := 2) (x := R) sz3 hRB).trans tb2; have r2 := (gro_cell d6.2 (o := 2) (x := w.heap.size) sw3 hwB').trans rb2; have f2 := (gro_frozen d6.2 (o := 2) (x := w.heap.size) sw3 hwB').trans fb2; have t3 := (gro_cell d6.2 (o := 3) (x := R) sz3 hRB).trans tb3; have r3 := (gro_cell d6.2 (o := 3) (x := w.heap.size) sw3 hwB').trans rb3; have f3 := (gro_frozen d6.2 (o := 3) (x := w.heap.size) sw3 hwB').trans fb3; have t4 := (gro_cell d6.2 (o := 4) (x := R) sz3 hRB).trans tb4; have r4 := (gro_cell d6.2 (o := 4) (x := w.heap.size) sw3 hwB').trans rb4; have f4 := (gro_frozen d6.2 (o := 4) (x := w.heap.size) sw3 hwB').trans fb4; have HD6 := Lib.hid d6; clear d6) | (have _q := HD4; go_at_call 78; refine (among_at HL.out HD4.out (by ((repeat' (first | (with_reducible exact Below.refl _ _) | (with_reducible apply bel_al) | (with_reducible apply bel_dr))); done)) (by omega) [s, m, 60, 45, 0, (x4 : Int)] (by simp) (by simp) (by ((repeat' (first | (refine rs_new (q := [s, m, 60, 45, 0, (x4 : Int)]) (HD4.out.1) ?_ (by simp) ?_; rotate_left; (first | rfl | simp); (((repeat' (first | (with_reducible exact Below.refl _ _) | (with_reducible apply bel_al) | (with_reducible apply bel_dr))); done))) | (refine rs_new (q := [s, m, 60, 45, 0, (x4 : Int)]) (HDb.out.1) ?_ (by simp) ?_; rotate_left; (first | rfl | simp); (((repeat' (first | (with_reducible exact Below.refl _ _) | (with_reducible apply bel_al) | (with_reducible apply bel_dr))); done))) | (with_reducible apply rs_dr) | (with_reducible apply rs_al) | (with_reducible refine rs_gro ?_ g4))); done))).mono ?_; rintro e W5 ⟨y5, rfl, d5, g5⟩; have t0 := (gro_cell d5.2 (o := 0) (x := R) sz3 hRB).trans tb0; have r0 := (gro_cell d5.2 (o := 0) (x := w.heap.size) sw3 hwB').trans rb0; have f0 := (gro_frozen d5.2 (o := 0) (x := w.heap.size) sw3 hwB').trans fb0; have t1 := (gro_cell d5.2 (o := 1) (x := R) sz3 hRB).trans tb1; have r1 := (gro_cell d5.2 (o := 1) (x := w.heap.size) sw3 hwB').trans rb1; have f1 := (gro_frozen d5.2 (o := 1) (x := w.heap.size) sw3 hwB').trans fb1; have t2 := (gro_cell d5.2 (o := 2) (x := R) sz3 hRB).trans tb2; have r2 := (gro_cell d5.2 (o := 2) (x := w.heap.size) sw3 hwB').trans rb2; have f2 := (gro_frozen d5.2 (o := 2) (x := w.heap.size) sw3 hwB').trans fb2; have t3 := (gro_cell d5.2 (o := 3) (x := R) sz3 hRB).trans tb3; have r3 := (gro_cell d5.2 (o := 3) (x := w.heap.size) sw3 hwB').trans rb3; have f3 := (gro_frozen d5.2 (o := 3) (x := w.heap.size) sw3 hwB').trans fb3; have t4 := (gro_cell d5.2 (o := 4) (x := R) sz3 hRB).trans tb4; have r4 := (gro_cell d5.2 (o := 4) (x := w.heap.size) sw3 hwB').trans rb4; have f4 := (gro_frozen d5.2 (o := 4) (x := w.heap.size) sw3 hwB').trans fb4; have HD5 := Lib.hid d5; clear d5) | (go_at_call 79; refine (pick_at HL.out HDb.out (by ((repeat' (first | (with_reducible exact Below.refl _ _) | (with_reducible apply bel_al) | (with_reducible apply bel_dr))); done)) (by omega) 91 (by omega)).mono ?_; rintro e W4 ⟨x4, rfl, d4, g4⟩; have t0 := (gro_cell d4.2 (o := 0) (x := R) sz3 hRB).trans tb0; have r0 := (gro_cell d4.2 (o := 0) (x := w.heap.size) sw3 hwB').trans rb0; have f0 := (gro_frozen d4.2 (o := 0) (x := w.heap.size) sw3 hwB').trans fb0; have t1 := (gro_cell d4.2 (o := 1) (x := R) sz3 hRB).trans tb1; have r1 := (gro_cell d4.2 (o := 1) (x := w.heap.size) sw3 hwB').trans rb1; have f1 := (gro_frozen d4.2 (o := 1) (x := w.heap.size) sw3 hwB').trans fb1; have t2 := (gro_cell d4.2 (o := 2) (x := R) sz3 hRB).trans tb2; have r2 := (gro_cell d4.2 (o := 2) (x := w.heap.size) sw3 hwB').trans rb2; have f2 := (gro_frozen d4.2 (o := 2) (x := w.heap.size) sw3 hwB').trans fb2; have t3 := (gro_cell d4.2 (o := 3) (x := R) sz3 hRB).trans tb3; have r3 := (gro_cell d4.2 (o := 3) (x := w.heap.size) sw3 hwB').trans rb3; have f3 := (gro_frozen d4.2 (o := 3) (x := w.heap.size) sw3 hwB').trans fb3; have t4 := (gro_cell d4.2 (o := 4) (x := R) sz3 hRB).trans tb4; have r4 := (gro_cell d4.2 (o := 4) (x := w.heap.size) sw3 hwB').trans rb4; have f4 := (gro_frozen d4.2 (o := 4) (x := w.heap.size) sw3 hwB').trans fb4; have HD4 := Lib.hid d4; clear d4))
  all_goals
    go_wp2
    have HD := Lib.hid (HD.out.trans HD8.out)
    have HO : Below W0.heap.size W0 W8 := by have h := HD.out; rw [← HBD.out] at h; exact Drew.out HB1.out h
    refine bodyPost_ret (v := .tuple #[ldV b n o s m, .int .i64 y5, .int .i64 y8]) (by simp [results, Tryd.results40, go_sem, r0, r1, r2, r3, r4]) rfl ?_
    exact ⟨⟨_, _, _, _, _, _, _, rfl⟩, bel_grown (bel_then HB0.out HO) (only_setCell (only_setCell (only_setCell (only_setCell (only_setCell (World.grownBy.refl _ _) 0 _) 1 _) 2 _) 3 _) 4 _) (fun q e => Nat.le_of_eq (Option.some.inj e))⟩
end Go.Proofs.YtibkadkodblefaaDoor
