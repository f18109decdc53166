/-
  Draws of ReachedFrom, BestPlace, FewestPlaces (printed by gen_draww.py).
-/
import Derived.Test.YtibkadkodblefaaDoorDrawW
import Derived.Test.YtibkadkodblefaaDoorDrawQ
import Derived.Test.YtibkadkodblefaaDoorIntsC
namespace Go.Proofs.YtibkadkodblefaaDoor
open Go.RowKit

theorem own_oth5 {w : World} {base : Nat} {e : TypeId} {sz : Nat} {v : Value} {n : Nat} {xs : List Value} (h : w.ownsRow base e sz v n xs) {g : Nat} (hg : g < base) (a0 a1 a2 a3 a4 : Value) : (((((w.setCell ⟨g, 0, none⟩ a0).setCell ⟨g, 1, none⟩ a1).setCell ⟨g, 2, none⟩ a2).setCell ⟨g, 3, none⟩ a3).setCell ⟨g, 4, none⟩ a4).ownsRow base e sz v n xs :=
  own_other (own_other (own_other (own_other (own_other h hg 0 a0) hg 1 a1) hg 2 a2) hg 3 a3) hg 4 a4

set_option maxRecDepth 100000 in
set_option maxHeartbeats 2000000 in
theorem drawReachedFrom_c (v : Value) (l : List Int) (hn : l.length ≤ 9223372036854775807) (hl : BytesOk l) (w : World) (hr : Rd w v l.length (bys l)) :
    Calls Tryd.prog 49 #[v] w fun e w' => (∃ (b n o s m y z : Int) (x : Value) (T : List Wn), e = .returned (.tuple #[ldV b n o s m, .int .i64 y, .int .i64 z, x]) ∧ Rd w' x T.length (T.flatMap Wn.cells) ∧ T.length ≤ 14) ∧ Below w.heap.size w w' := by
  have HB9 := Lib.hid hr
  have HL := Lib.hid hl
  obtain ⟨A0, c0, rfl, _⟩ := hr
  clear hl
  go_enter Tryd.func49, Tryd.ntmps49
  go_upto_region 1 with fail
  generalize hW : World.alloc w _ = W0
  have hr0 : W0.ownsRow w.heap.size 31 5 (.slice (some ⟨w.heap.size, 0, none⟩) 1 1) 1 [.int .i64 0, .int .i64 0, .int .i64 0, .int .i64 0, .int .i64 0] := by subst hW; exact row_new w _ _ 1 5 rfl (by omega) (by omega)
  have hb0 : Below w.heap.size w W0 := by subst hW; exact bel_al (Below.refl _ _) _
  have sz0 : w.heap.size < W0.heap.size := by subst hW; simp
  have HR := Lib.hid hr0
  have HB0 := Lib.hid hb0
  have HRd := Lib.hid (rd_below HB9.out hb0)
  clear hW hr0 hb0
  go_upto_region 2 with fail
  generalize hW : World.alloc W0 _ = W1
  have hc := cur_new W0 _ l HRd.out hn W1 (by subst hW; simp [go_sem]) (by subst hW; simp [go_sem]) (by subst hW; simp [go_sem]) (by subst hW; simp [go_sem]) (by subst hW; simp [go_sem]) (by subst hW; exact bel_al (Below.refl _ _) _)
  have hb1 : Below W0.heap.size W0 W1 := by subst hW; exact bel_al (Below.refl _ _) _
  have HR := Lib.hid (own_below HR.out hb1)
  have HB1 := Lib.hid hb1
  have sz1 := hb1.size
  obtain ⟨B, hBd⟩ : ∃ B, W0.heap.size = B := ⟨_, rfl⟩
  rw [hBd] at hc ⊢
  have HBD := Lib.hid hBd
  have hwB : w.heap.size < B := by omega
  have hBb : B < W1.heap.size := hc.lt
  obtain ⟨a, ha0, ha1⟩ : ∃ a : Nat, a = 0 ∧ a ≤ 0 := ⟨0, rfl, Nat.le_refl _⟩
  rw [← ha0] at hc
  have HD := Lib.hid (Drew.refl hc 0)
  clear hW hb1 hBd hc ha0
  go_wp2_with fail
  refine (shortLadder_c B l HL.out (a + 0) (by omega) _ HD.out.1).mono ?_; rintro e W2 ⟨b, n, o, s, m, rfl, hd⟩
  have HR := Lib.hid (gro_other HR.out hd.2 (fun hq => by have : w.heap.size = B := Option.some.inj hq; omega))
  have HD := Lib.hid (HD.out.trans hd)
  have szW2 := hd.2.size
  clear hd
  go_wp2_with fail
  refine (wallOf_c B l HL.out (a + 22) (by omega) _ HD.out.1).mono ?_; rintro e W3 ⟨y, rfl, hd⟩
  have HR := Lib.hid (gro_other HR.out hd.2 (fun hq => by have : w.heap.size = B := Option.some.inj hq; omega))
  have HD := Lib.hid (HD.out.trans hd)
  have szW3 := hd.2.size
  clear hd
  go_wp2_with fail
  refine (pointOf_c B l HL.out (a + 26) (by omega) _ HD.out.1).mono ?_; rintro e W4 ⟨z, rfl, hd⟩
  have HR := Lib.hid (gro_other HR.out hd.2 (fun hq => by have : w.heap.size = B := Option.some.inj hq; omega))
  have HD := Lib.hid (HD.out.trans hd)
  have szW4 := hd.2.size
  clear hd
  go_wp2_with fail
  refine (windows_c B l HL.out (a + 32) (by omega) _ HD.out.1).mono ?_; rintro e W5 ⟨vw, T, rfl, ho, hT, hd⟩
  have HR := Lib.hid (gro_other HR.out hd.2 (fun hq => by have : w.heap.size = B := Option.some.inj hq; omega))
  have HO9 := Lib.hid ho
  clear ho
  have szw : B < W4.heap.size := by omega
  have HD := Lib.hid (HD.out.trans hd)
  have szW5 := hd.2.size
  clear hd
  have r0 := HR.out.cellAt 0 (by omega)
  have f0 := HR.out.frozenAt 0
  have r1 := HR.out.cellAt 1 (by omega)
  have f1 := HR.out.frozenAt 1
  have r2 := HR.out.cellAt 2 (by omega)
  have f2 := HR.out.frozenAt 2
  have r3 := HR.out.cellAt 3 (by omega)
  have f3 := HR.out.frozenAt 3
  have r4 := HR.out.cellAt 4 (by omega)
  have f4 := HR.out.frozenAt 4
  dsimp only [List.getElem?_cons_zero, List.getElem?_cons_succ] at r0 r1 r2 r3 r4
  go_wp2
  have HO : Below W0.heap.size W0 W5 := by have h := HD.out; rw [← HBD.out] at h; exact Drew.out HB1.out h
  refine bodyPost_ret (v := .tuple #[ldV b n o s m, .int .i64 y, .int .i64 z, vw]) (by simp [results, Tryd.results49, go_sem, r0, r1, r2, r3, r4]) rfl ?_
  exact ⟨⟨_, _, _, _, _, _, _, _, _, rfl, own_rd (own_oth5 HO9.out (by omega) _ _ _ _ _), hT⟩, bel_grown (bel_then HB0.out HO) (only_setCell (only_setCell (only_setCell (only_setCell (only_setCell (World.grownBy.refl _ _) 0 _) 1 _) 2 _) 3 _) 4 _) (fun q e => Nat.le_of_eq (Option.some.inj e))⟩
set_option maxRecDepth 100000 in
set_option maxHeartbeats 2000000 in
theorem drawFewestPlaces_c (v : Value) (l : List Int) (hn : l.length ≤ 9223372036854775807) (hl : BytesOk l) (w : World) (hr : Rd w v l.length (bys l)) :
    Calls Tryd.prog 48 #[v] w fun e w' => (∃ (b n o s m y : Int) (x : Value) (T : List Wn), e = .returned (.tuple #[ldV b n o s m, .int .i64 y, x]) ∧ Rd w' x T.length (T.flatMap Wn.cells) ∧ T.length ≤ 14) ∧ Below w.heap.size w w' := by
  have HB9 := Lib.hid hr
  have HL := Lib.hid hl
  obtain ⟨A0, c0, rfl, _⟩ := hr
  clear hl
  go_enter Tryd.func48, Tryd.ntmps48
  go_upto_region 1 with fail
  generalize hW : World.alloc w _ = W0
  have hr0 : W0.ownsRow w.heap.size 31 5 (.slice (some ⟨w.heap.size, 0, none⟩) 1 1) 1 [.int .i64 0, .int .i64 0, .int .i64 0, .int .i64 0, .int .i64 0] := by subst hW; exact row_new w _ _ 1 5 rfl (by omega) (by omega)
  have hb0 : Below w.heap.size w W0 := by subst hW; exact bel_al (Below.refl _ _) _
  have sz0 : w.heap.size < W0.heap.size := by subst hW; simp
  have HR := Lib.hid hr0
  have HB0 := Lib.hid hb0
  have HRd := Lib.hid (rd_below HB9.out hb0)
  clear hW hr0 hb0
  go_upto_region 2 with fail
  generalize hW : World.alloc W0 _ = W1
  have hc := cur_new W0 _ l HRd.out hn W1 (by subst hW; simp [go_sem]) (by subst hW; simp [go_sem]) (by subst hW; simp [go_sem]) (by subst hW; simp [go_sem]) (by subst hW; simp [go_sem]) (by subst hW; exact bel_al (Below.refl _ _) _)
  have hb1 : Below W0.heap.size W0 W1 := by subst hW; exact bel_al (Below.refl _ _) _
  have HR := Lib.hid (own_below HR.out hb1)
  have HB1 := Lib.hid hb1
  have sz1 := hb1.size
  obtain ⟨B, hBd⟩ : ∃ B, W0.heap.size = B := ⟨_, rfl⟩
  rw [hBd] at hc ⊢
  have HBD := Lib.hid hBd
  have hwB : w.heap.size < B := by omega
  have hBb : B < W1.heap.size := hc.lt
  obtain ⟨a, ha0, ha1⟩ : ∃ a : Nat, a = 0 ∧ a ≤ 0 := ⟨0, rfl, Nat.le_refl _⟩
  rw [← ha0] at hc
  have HD := Lib.hid (Drew.refl hc 0)
  clear hW hb1 hBd hc ha0
  go_wp2_with fail
  refine (shortLadder_c B l HL.out (a + 0) (by omega) _ HD.out.1).mono ?_; rintro e W2 ⟨b, n, o, s, m, rfl, hd⟩
  have HR := Lib.hid (gro_other HR.out hd.2 (fun hq => by have : w.heap.size = B := Option.some.inj hq; omega))
  have HD := Lib.hid (HD.out.trans hd)
  have szW2 := hd.2.size
  clear hd
  go_wp2_with fail
  refine (wallOf_c B l HL.out (a + 22) (by omega) _ HD.out.1).mono ?_; rintro e W3 ⟨y, rfl, hd⟩
  have HR := Lib.hid (gro_other HR.out hd.2 (fun hq => by have : w.heap.size = B := Option.some.inj hq; omega))
  have HD := Lib.hid (HD.out.trans hd)
  have szW3 := hd.2.size
  clear hd
  go_wp2_with fail
  refine (windows_c B l HL.out (a + 26) (by omega) _ HD.out.1).mono ?_; rintro e W4 ⟨vw, T, rfl, ho, hT, hd⟩
  have HR := Lib.hid (gro_other HR.out hd.2 (fun hq => by have : w.heap.size = B := Option.some.inj hq; omega))
  have HO9 := Lib.hid ho
  clear ho
  have szw : B < W3.heap.size := by omega
  have HD := Lib.hid (HD.out.trans hd)
  have szW4 := hd.2.size
  clear hd
  have r0 := HR.out.cellAt 0 (by omega)
  have f0 := HR.out.frozenAt 0
  have r1 := HR.out.cellAt 1 (by omega)
  have f1 := HR.out.frozenAt 1
  have r2 := HR.out.cellAt 2 (by omega)
  have f2 := HR.out.frozenAt 2
  have r3 := HR.out.cellAt 3 (by omega)
  have f3 := HR.out.frozenAt 3
  have r4 := HR.out.cellAt 4 (by omega)
  have f4 := HR.out.frozenAt 4
  dsimp only [List.getElem?_cons_zero, List.getElem?_cons_succ] at r0 r1 r2 r3 r4
  go_wp2
  have HO : Below W0.heap.size W0 W4 := by have h := HD.out; rw [← HBD.out] at h; exact Drew.out HB1.out h
  refine bodyPost_ret (v := .tuple #[ldV b n o s m, .int .i64 y, vw]) (by simp [results, Tryd.results48, go_sem, r0, r1, r2, r3, r4]) rfl ?_
  exact ⟨⟨_, _, _, _, _, _, _, _, rfl, own_rd (own_oth5 HO9.out (by omega) _ _ _ _ _), hT⟩, bel_grown (bel_then HB0.out HO) (only_setCell (only_setCell (only_setCell (only_setCell (only_setCell (World.grownBy.refl _ _) 0 _) 1 _) 2 _) 3 _) 4 _) (fun q e => Nat.le_of_eq (Option.some.inj e))⟩
theorem gro_belo {a b c : World} {B : Nat} (h : a.grownBy b (some B)) (g : Below b.heap.size b c) : a.grownBy c (some B) :=
  ⟨g.os.trans h.os, g.tape.trans h.tape, g.output.trans h.output, Nat.le_trans h.size g.size, fun i hi hne => (g.block i (Nat.lt_of_lt_of_le hi h.size)).trans (h.block i hi hne)⟩
theorem gro_app {a b c : World} {B : Nat} {o : Obj} {r : Option Nat} (h : a.grownBy b (some B)) (g : (b.alloc o).grownBy c r) (hr : ∀ q, r = some q → a.heap.size ≤ q) : a.grownBy c (some B) := by
  have h1 := gro_belo h (bel_al (Below.refl _ b) o)
  exact ⟨g.os.trans h1.os, g.tape.trans h1.tape, g.output.trans h1.output, Nat.le_trans h1.size g.size, fun i hi hne => (g.block i (Nat.lt_of_lt_of_le hi h1.size) (fun e => by have := hr i e.symm; omega)).trans (h1.block i hi hne)⟩
set_option maxRecDepth 100000 in
set_option maxHeartbeats 2000000 in
theorem drawBestPlace_c (v : Value) (l : List Int) (hn : l.length ≤ 9223372036854775807) (hl : BytesOk l) (w : World) (hr : Rd w v l.length (bys l)) :
    Calls Tryd.prog 47 #[v] w fun e w' => (∃ (b n o s m y : Int) (x : Value) (T : List Wn) (u : Value) (Q : List Int), e = .returned (.tuple #[ldV b n o s m, .int .i64 y, x, u]) ∧ Rd w' x T.length (T.flatMap Wn.cells) ∧ T.length ≤ 14 ∧ RdI w' u Q) ∧ Below w.heap.size w w' := by
  have HB9 := Lib.hid hr
  have HL := Lib.hid hl
  obtain ⟨A0, c0, rfl, _⟩ := hr
  clear hl
  go_enter Tryd.func47, Tryd.ntmps47
  go_upto_region 1 with fail
  generalize hW : World.alloc w _ = W0
  have hr0 : W0.ownsRow w.heap.size 31 5 (.slice (some ⟨w.heap.size, 0, none⟩) 1 1) 1 [.int .i64 0, .int .i64 0, .int .i64 0, .int .i64 0, .int .i64 0] := by subst hW; exact row_new w _ _ 1 5 rfl (by omega) (by omega)
  have hb0 : Below w.heap.size w W0 := by subst hW; exact bel_al (Below.refl _ _) _
  have sz0 : w.heap.size < W0.heap.size := by subst hW; simp
  have HR := Lib.hid hr0
  have HB0 := Lib.hid hb0
  have HRd := Lib.hid (rd_below HB9.out hb0)
  clear hW hr0 hb0
  go_upto_region 2 with fail
  generalize hW : World.alloc W0 _ = W1
  have hc := cur_new W0 _ l HRd.out hn W1 (by subst hW; simp [go_sem]) (by subst hW; simp [go_sem]) (by subst hW; simp [go_sem]) (by subst hW; simp [go_sem]) (by subst hW; simp [go_sem]) (by subst hW; exact bel_al (Below.refl _ _) _)
  have hb1 : Below W0.heap.size W0 W1 := by subst hW; exact bel_al (Below.refl _ _) _
  have HR := Lib.hid (own_below HR.out hb1)
  have HB1 := Lib.hid hb1
  have sz1 := hb1.size
  obtain ⟨B, hBd⟩ : ∃ B, W0.heap.size = B := ⟨_, rfl⟩
  rw [hBd] at hc ⊢
  have HBD := Lib.hid hBd
  have hwB : w.heap.size < B := by omega
  have hBb : B < W1.heap.size := hc.lt
  obtain ⟨a, ha0, ha1⟩ : ∃ a : Nat, a = 0 ∧ a ≤ 0 := ⟨0, rfl, Nat.le_refl _⟩
  rw [← ha0] at hc
  have HD := Lib.hid (Drew.refl hc 0)
  clear hW hb1 hBd hc ha0
  go_wp2_with fail
  refine (shortLadder_c B l HL.out (a + 0) (by omega) _ HD.out.1).mono ?_; rintro e W2 ⟨b, n, o, s, m, rfl, hd⟩
  have HR := Lib.hid (gro_other HR.out hd.2 (fun hq => by have : w.heap.size = B := Option.some.inj hq; omega))
  have HD := Lib.hid (HD.out.trans hd)
  have szW2 := hd.2.size
  clear hd
  go_wp2_with fail
  refine (wallOf_c B l HL.out (a + 22) (by omega) _ HD.out.1).mono ?_; rintro e W3 ⟨y, rfl, hd⟩
  have HR := Lib.hid (gro_other HR.out hd.2 (fun hq => by have : w.heap.size = B := Option.some.inj hq; omega))
  have HD := Lib.hid (HD.out.trans hd)
  have szW3 := hd.2.size
  clear hd
  go_wp2_with fail
  refine (windows_c B l HL.out (a + 26) (by omega) _ HD.out.1).mono ?_; rintro e W4 ⟨vw, T, rfl, ho, hT, hd⟩
  have HR := Lib.hid (gro_other HR.out hd.2 (fun hq => by have : w.heap.size = B := Option.some.inj hq; omega))
  have HO9 := Lib.hid ho
  clear ho
  have szw : B < W3.heap.size := by omega
  have HD := Lib.hid (HD.out.trans hd)
  have szW4 := hd.2.size
  clear hd
  go_upto_region 3 with fail
  generalize hW : World.alloc W4 _ = W5
  have hr0 : W5.ownsRow W4.heap.size 31 5 (.slice (some ⟨W4.heap.size, 0, none⟩) 1 1) 1 [.int .i64 b, .int .i64 n, .int .i64 o, .int .i64 s, .int .i64 m] := by subst hW; exact row_new W4 _ _ 1 5 rfl (by omega) (by omega)
  have hbl : Below W4.heap.size W4 W5 := by subst hW; exact bel_al (Below.refl _ _) _
  have HD := Lib.hid (HD.out.bel hbl)
  have HR := Lib.hid (own_below HR.out hbl)
  have HO9 := Lib.hid (own_below HO9.out hbl)
  have sz5 : W4.heap.size < W5.heap.size := by subst hW; simp
  obtain ⟨R, hRR⟩ : ∃ R, W4.heap.size = R := ⟨_, rfl⟩
  have hBR : B < R := by omega
  have szR : W1.heap.size ≤ R := by omega
  have hwR : w.heap.size < R := by omega
  have hne : w.heap.size ≠ R := by omega
  have hne2 : R ≠ w.heap.size := by omega
  rw [hRR] at hr0 sz5 ⊢
  have HT := Lib.hid hr0
  clear hW hr0 hbl hRR
  obtain ⟨i0, hi, hz0, hz1, hz2⟩ := info_parts Tryd.infoInt
  go_wp2_with fail
  refine (pick_c B l HL.out (a + 226) (by omega) 4 (by omega) _ HD.out.1).mono ?_; rintro e w1 ⟨x, rfl, hx, hd⟩
  have HG := Lib.hid hd.2
  have HD := Lib.hid (HD.out.trans hd)
  clear hd
  go_wp2_with fail
  refine (one_c B l HL.out (a + 228) (by omega) 12 (by omega) _ HD.out.1).mono ?_; rintro e w2 ⟨b9, rfl, hd⟩
  have HG := Lib.hid (HG.out.trans hd.2)
  have HD := Lib.hid (HD.out.trans hd)
  clear hd
  cases b9
  · obtain ⟨w3, hw3⟩ : ∃ w3 : World, w2 = w3 := ⟨_, rfl⟩
    obtain ⟨n2, hn0⟩ : ∃ n : Nat, x = n := ⟨_, rfl⟩
    have hn2 : n2 ≤ 21 := by omega
    rw [hw3] at HD HG ⊢
    rw [hn0] at ⊢
    have HD6 := Lib.hid (HD.out.more (k' := 232) (by omega))
    have HG6 := HG
    have hs3 := HD6.out.2.size
    clear hw3 hn0 hx
    go_wp2_with fail
    go_loopw [10] (fun v3 wr => ∃ (Q : List Int) (A : Option Addr) (c : Nat), v3 = .slice A Q.length c ∧ Q.length ≤ n2 ∧ Hid (wr.ownsRow W5.heap.size 3 1 (.slice A Q.length c) Q.length (ints Q)) ∧ Hid (Drew B l a (232 + 6 * Q.length) W1 wr) ∧ Hid (W5.grownBy wr (some B))) (fun v3 _ => n2 - lenOf v3)
    case atStart => exact ⟨[], none, 0, rfl, Nat.zero_le _, Lib.hid (World.ownsRow_nil _ _ _ _), HD6, HG6⟩
    case round =>
      obtain ⟨Q, A, c, rfl, hTn, HOW, HDR, HGR⟩ := hrel
      obtain ⟨wA, rfl⟩ : ∃ wA : World, wA = wr := ⟨_, rfl⟩
      by_cases hlt : Q.length < n2
      · have hlt2 : (Q.length : Int) < (n2 : Int) := by omega
        have hdR := HDR.out
        obtain ⟨q, hq0⟩ : ∃ q, 232 + 6 * Q.length = q := ⟨_, rfl⟩
        rw [hq0] at hdR
        have hq1 : q ≤ 1000 := by omega
        have HD := Lib.hid hdR
        clear hdR
        have hBW5 : B < W5.heap.size := by omega
        go_wp2_with fail
        refine (pick_c B l HL.out (a + q) (by omega) 61 (by omega) _ HD.out.1).mono ?_; rintro e W10 ⟨x, rfl, hx, hd⟩
        have HOW := Lib.hid (own_draw HOW.out hd.2 hBW5)
        have HD := Lib.hid (HD.out.trans hd)
        have HGR := Lib.hid (HGR.out.trans hd.2)
        clear hd
        have sx : IntKind.i64.wrap (10 * (x : Int)) = 10 * (x : Int) := IntWalk.i64_in _ (by omega)
        go_wp2_with fail
        generalize hW : World.alloc W10 _ = W11
        have hq : RdI W11 (.slice (some ⟨W10.heap.size, 0, none⟩) 3 3) [600, 601, -1] := by subst hW; exact rd_new W10 rfl (Nat.le_refl _) (by rw [maxLen_eq]; omega)
        have hbl : Below W10.heap.size W10 W11 := by subst hW; exact bel_al (Below.refl _ _) _
        have hBW := HD.out.1.lt
        have HD := Lib.hid (HD.out.bel hbl)
        have HOW := Lib.hid (own_below HOW.out hbl)
        have HGR := Lib.hid (gro_belo HGR.out hbl)
        clear hW hbl
        refine (among_c B l HL.out (a + (q + 2)) (by omega) _ [600, 601, -1] (by simp) (by simp) _ HD.out.1 hq (lit_ne hBW)).mono ?_; rintro e W12 ⟨z1, rfl, _, hd⟩
        clear hq hBW
        have HOW := Lib.hid (own_draw HOW.out hd.2 hBW5)
        have HD := Lib.hid (HD.out.trans hd)
        have HGR := Lib.hid (HGR.out.trans hd.2)
        clear hd
        go_wp2_with fail
        generalize hW : World.alloc W12 _ = W13
        have hq : RdI W13 (.slice (some ⟨W12.heap.size, 0, none⟩) 6 6) [0, 10, 50, 300, 10 * (x : Int), z1] := by subst hW; exact rd_new W12 rfl (Nat.le_refl _) (by rw [maxLen_eq]; omega)
        have hbl : Below W12.heap.size W12 W13 := by subst hW; exact bel_al (Below.refl _ _) _
        have hBW := HD.out.1.lt
        have HD := Lib.hid (HD.out.bel hbl)
        have HOW := Lib.hid (own_below HOW.out hbl)
        have HGR := Lib.hid (gro_belo HGR.out hbl)
        clear hW hbl
        refine (among_c B l HL.out (a + (q + 4)) (by omega) _ [0, 10, 50, 300, 10 * (x : Int), z1] (by simp) (by simp) _ HD.out.1 hq (lit_ne hBW)).mono ?_; rintro e W14 ⟨z2, rfl, _, hd⟩
        clear hq hBW
        have HOW4 := Lib.hid (own_draw HOW.out hd.2 hBW5)
        have HD4 := Lib.hid (HD.out.trans hd)
        have HG4 := Lib.hid (HGR.out.trans hd.2)
        have hs5 := HG4.out.size
        have hs4 := HD4.out.2.size
        clear hd
        go_wp2_with (at_builtin; go_loud (refine wpList_app_rd _ rfl _ _ 22 rfl W5.heap.size 3 i0 (.int .i64 0) 1 8 Tryd.underlying22 hi hz0 hz1 hz2 rfl (by decide) _ _ _ rfl (HOW4.out.alloc _) _ 1 [.int .i64 z2] rfl (rd_new _ rfl (Nat.le_refl _) (by rw [maxLen_eq]; omega)) rfl (ints_one [z2]) (by rw [maxLen_eq]; omega) (by omega) (by simp; omega) ?_); intro v7 w7 hown7 hgrow7 _)
        obtain ⟨A7, c7, rfl, _⟩ := own_rd hown7
        have hlo := HOW4.out.lt
        have hB7 : Drew B l a (q + 6) W1 w7 := HD4.out.app hgrow7 (fun q e => by have := (hlo q e).1; omega) hBb
        have hG7 : W5.grownBy w7 (some B) := gro_app HG4.out hgrow7 (fun q e => (hlo q e).1)
        refine ⟨⟨Q ++ [z2], A7, c7, by simp, by simp; omega, Lib.hid ?_, Lib.hid ?_, Lib.hid hG7⟩, by simp [lenOf]; omega⟩
        · rw [ints_append, List.length_append]; exact hown7
        · rw [List.length_append]; exact hB7.more (by simp; omega)
      · have hge : (n2 : Int) ≤ (Q.length : Int) := by omega
        have HRx := Lib.hid (gro_other HR.out HGR.out (fun hq => by have : w.heap.size = B := Option.some.inj hq; omega))
        have HTx := Lib.hid (gro_other HT.out HGR.out (fun hq => by have : R = B := Option.some.inj hq; omega))
        have HOx := Lib.hid (own_draw HO9.out HGR.out (by omega))
        have HD := Lib.hid (HDR.out)
        have t0 := HTx.out.cellAt 0 (by omega)
        have t1 := HTx.out.cellAt 1 (by omega)
        have t2 := HTx.out.cellAt 2 (by omega)
        have t3 := HTx.out.cellAt 3 (by omega)
        have t4 := HTx.out.cellAt 4 (by omega)
        have r0 := HRx.out.cellAt 0 (by omega)
        have f0 := HRx.out.frozenAt 0
        have r1 := HRx.out.cellAt 1 (by omega)
        have f1 := HRx.out.frozenAt 1
        have r2 := HRx.out.cellAt 2 (by omega)
        have f2 := HRx.out.frozenAt 2
        have r3 := HRx.out.cellAt 3 (by omega)
        have f3 := HRx.out.frozenAt 3
        have r4 := HRx.out.cellAt 4 (by omega)
        have f4 := HRx.out.frozenAt 4
        dsimp only [List.getElem?_cons_zero, List.getElem?_cons_succ] at t0 t1 t2 t3 t4 r0 r1 r2 r3 r4
        go_wp2
        have HO : Below W0.heap.size W0 wA := by have h := HD.out; rw [← HBD.out] at h; exact Drew.out HB1.out h
        refine bodyPost_ret (v := .tuple #[ldV b n o s m, .int .i64 y, vw, .slice A Q.length c]) (by simp [results, Tryd.results47, go_sem, r0, r1, r2, r3, r4, t0, t1, t2, t3, t4, hne, hne2]) rfl ?_
        exact ⟨⟨_, _, _, _, _, _, _, T, _, Q, rfl, own_rd (own_oth5 HOx.out (by omega) _ _ _ _ _), hT, rdi_own (own_oth5 HOW.out (by omega) _ _ _ _ _)⟩, bel_grown (bel_then HB0.out HO) (only_setCell (only_setCell (only_setCell (only_setCell (only_setCell (World.grownBy.refl _ _) 0 _) 1 _) 2 _) 3 _) 4 _) (fun q e => Nat.le_of_eq (Option.some.inj e))⟩
  · go_wp2_with fail
    refine (pick_c B l HL.out (a + 230) (by omega) 2 (by omega) _ HD.out.1).mono ?_; rintro e w3 ⟨y9, rfl, hy, hd⟩
    have HG6 := Lib.hid (HG.out.trans hd.2)
    have HD6 := Lib.hid (HD.out.trans hd)
    have s1 : IntKind.i64.wrap (20 + (y9 : Int)) = ((20 + y9 : Nat) : Int) := by rw [IntWalk.i64_in _ (by omega)]; omega
    obtain ⟨n2, hn0⟩ : ∃ n : Nat, 20 + y9 = n := ⟨_, rfl⟩
    have hn2 : n2 ≤ 21 := by omega
    have hs3 := HD6.out.2.size
    rw [hn0] at s1
    clear hd hn0 hx hy
    go_wp2_with fail
    go_loopw [10] (fun v3 wr => ∃ (Q : List Int) (A : Option Addr) (c : Nat), v3 = .slice A Q.length c ∧ Q.length ≤ n2 ∧ Hid (wr.ownsRow W5.heap.size 3 1 (.slice A Q.length c) Q.length (ints Q)) ∧ Hid (Drew B l a (232 + 6 * Q.length) W1 wr) ∧ Hid (W5.grownBy wr (some B))) (fun v3 _ => n2 - lenOf v3)
    case atStart => exact ⟨[], none, 0, rfl, Nat.zero_le _, Lib.hid (World.ownsRow_nil _ _ _ _), HD6, HG6⟩
    case round =>
      obtain ⟨Q, A, c, rfl, hTn, HOW, HDR, HGR⟩ := hrel
      obtain ⟨wA, rfl⟩ : ∃ wA : World, wA = wr := ⟨_, rfl⟩
      by_cases hlt : Q.length < n2
      · have hlt2 : (Q.length : Int) < (n2 : Int) := by omega
        have hdR := HDR.out
        obtain ⟨q, hq0⟩ : ∃ q, 232 + 6 * Q.length = q := ⟨_, rfl⟩
        rw [hq0] at hdR
        have hq1 : q ≤ 1000 := by omega
        have HD := Lib.hid hdR
        clear hdR
        have hBW5 : B < W5.heap.size := by omega
        go_wp2_with fail
        refine (pick_c B l HL.out (a + q) (by omega) 61 (by omega) _ HD.out.1).mono ?_; rintro e W10 ⟨x, rfl, hx, hd⟩
        have HOW := Lib.hid (own_draw HOW.out hd.2 hBW5)
        have HD := Lib.hid (HD.out.trans hd)
        have HGR := Lib.hid (HGR.out.trans hd.2)
        clear hd
        have sx : IntKind.i64.wrap (10 * (x : Int)) = 10 * (x : Int) := IntWalk.i64_in _ (by omega)
        go_wp2_with fail
        generalize hW : World.alloc W10 _ = W11
        have hq : RdI W11 (.slice (some ⟨W10.heap.size, 0, none⟩) 3 3) [600, 601, -1] := by subst hW; exact rd_new W10 rfl (Nat.le_refl _) (by rw [maxLen_eq]; omega)
        have hbl : Below W10.heap.size W10 W11 := by subst hW; exact bel_al (Below.refl _ _) _
        have hBW := HD.out.1.lt
        have HD := Lib.hid (HD.out.bel hbl)
        have HOW := Lib.hid (own_below HOW.out hbl)
        have HGR := Lib.hid (gro_belo HGR.out hbl)
        clear hW hbl
        refine (among_c B l HL.out (a + (q + 2)) (by omega) _ [600, 601, -1] (by simp) (by simp) _ HD.out.1 hq (lit_ne hBW)).mono ?_; rintro e W12 ⟨z1, rfl, _, hd⟩
        clear hq hBW
        have HOW := Lib.hid (own_draw HOW.out hd.2 hBW5)
        have HD := Lib.hid (HD.out.trans hd)
        have HGR := Lib.hid (HGR.out.trans hd.2)
        clear hd
        go_wp2_with fail
        generalize hW : World.alloc W12 _ = W13
        have hq : RdI W13 (.slice (some ⟨W12.heap.size, 0, none⟩) 6 6) [0, 10, 50, 300, 10 * (x : Int), z1] := by subst hW; exact rd_new W12 rfl (Nat.le_refl _) (by rw [maxLen_eq]; omega)
        have hbl : Below W12.heap.size W12 W13 := by subst hW; exact bel_al (Below.refl _ _) _
        have hBW := HD.out.1.lt
        have HD := Lib.hid (HD.out.bel hbl)
        have HOW := Lib.hid (own_below HOW.out hbl)
        have HGR := Lib.hid (gro_belo HGR.out hbl)
        clear hW hbl
        refine (among_c B l HL.out (a + (q + 4)) (by omega) _ [0, 10, 50, 300, 10 * (x : Int), z1] (by simp) (by simp) _ HD.out.1 hq (lit_ne hBW)).mono ?_; rintro e W14 ⟨z2, rfl, _, hd⟩
        clear hq hBW
        have HOW4 := Lib.hid (own_draw HOW.out hd.2 hBW5)
        have HD4 := Lib.hid (HD.out.trans hd)
        have HG4 := Lib.hid (HGR.out.trans hd.2)
        have hs5 := HG4.out.size
        have hs4 := HD4.out.2.size
        clear hd
        go_wp2_with (at_builtin; go_loud (refine wpList_app_rd _ rfl _ _ 22 rfl W5.heap.size 3 i0 (.int .i64 0) 1 8 Tryd.underlying22 hi hz0 hz1 hz2 rfl (by decide) _ _ _ rfl (HOW4.out.alloc _) _ 1 [.int .i64 z2] rfl (rd_new _ rfl (Nat.le_refl _) (by rw [maxLen_eq]; omega)) rfl (ints_one [z2]) (by rw [maxLen_eq]; omega) (by omega) (by simp; omega) ?_); intro v7 w7 hown7 hgrow7 _)
        obtain ⟨A7, c7, rfl, _⟩ := own_rd hown7
        have hlo := HOW4.out.lt
        have hB7 : Drew B l a (q + 6) W1 w7 := HD4.out.app hgrow7 (fun q e => by have := (hlo q e).1; omega) hBb
        have hG7 : W5.grownBy w7 (some B) := gro_app HG4.out hgrow7 (fun q e => (hlo q e).1)
        refine ⟨⟨Q ++ [z2], A7, c7, by simp, by simp; omega, Lib.hid ?_, Lib.hid ?_, Lib.hid hG7⟩, by simp [lenOf]; omega⟩
        · rw [ints_append, List.length_append]; exact hown7
        · rw [List.length_append]; exact hB7.more (by simp; omega)
      · have hge : (n2 : Int) ≤ (Q.length : Int) := by omega
        have HRx := Lib.hid (gro_other HR.out HGR.out (fun hq => by have : w.heap.size = B := Option.some.inj hq; omega))
        have HTx := Lib.hid (gro_other HT.out HGR.out (fun hq => by have : R = B := Option.some.inj hq; omega))
        have HOx := Lib.hid (own_draw HO9.out HGR.out (by omega))
        have HD := Lib.hid (HDR.out)
        have t0 := HTx.out.cellAt 0 (by omega)
        have t1 := HTx.out.cellAt 1 (by omega)
        have t2 := HTx.out.cellAt 2 (by omega)
        have t3 := HTx.out.cellAt 3 (by omega)
        have t4 := HTx.out.cellAt 4 (by omega)
        have r0 := HRx.out.cellAt 0 (by omega)
        have f0 := HRx.out.frozenAt 0
        have r1 := HRx.out.cellAt 1 (by omega)
        have f1 := HRx.out.frozenAt 1
        have r2 := HRx.out.cellAt 2 (by omega)
        have f2 := HRx.out.frozenAt 2
        have r3 := HRx.out.cellAt 3 (by omega)
        have f3 := HRx.out.frozenAt 3
        have r4 := HRx.out.cellAt 4 (by omega)
        have f4 := HRx.out.frozenAt 4
        dsimp only [List.getElem?_cons_zero, List.getElem?_cons_succ] at t0 t1 t2 t3 t4 r0 r1 r2 r3 r4
        go_wp2
        have HO : Below W0.heap.size W0 wA := by have h := HD.out; rw [← HBD.out] at h; exact Drew.out HB1.out h
        refine bodyPost_ret (v := .tuple #[ldV b n o s m, .int .i64 y, vw, .slice A Q.length c]) (by simp [results, Tryd.results47, go_sem, r0, r1, r2, r3, r4, t0, t1, t2, t3, t4, hne, hne2]) rfl ?_
        exact ⟨⟨_, _, _, _, _, _, _, T, _, Q, rfl, own_rd (own_oth5 HOx.out (by omega) _ _ _ _ _), hT, rdi_own (own_oth5 HOW.out (by omega) _ _ _ _ _)⟩, bel_grown (bel_then HB0.out HO) (only_setCell (only_setCell (only_setCell (only_setCell (only_setCell (World.grownBy.refl _ _) 0 _) 1 _) 2 _) 3 _) 4 _) (fun q e => Nat.le_of_eq (Option.some.inj e))⟩
end Go.Proofs.YtibkadkodblefaaDoor
