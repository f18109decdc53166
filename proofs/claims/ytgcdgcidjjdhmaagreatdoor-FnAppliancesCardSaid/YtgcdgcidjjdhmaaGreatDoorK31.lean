/-
  Draws of strings and appliances (printed by gen_fld.py). Draws of fleets (printed by gen_fld.py). Draws of nodes, needs and names (printed by gen_drawtu.py). (joined by pack.py: DrawFa DrawFl DrawNd)
-/
import Derived.Test.YtgcdgcidjjdhmaaGreatDoorK29
import Derived.Test.YtgcdgcidjjdhmaaGreatDoorK5
import Derived.Test.YtgcdgcidjjdhmaaGreatDoorK9
import Derived.Test.YtgcdgcidjjdhmaaGreatDoorK15
import Derived.Deep.DeepCutAuto
import Derived.Deep.CutBlock
import Derived.Test.YtgcdgcidjjdhmaaGreatDoorK30
import Derived.Test.YtgcdgcidjjdhmaaGreatDoorK6
namespace Go.Proofs.YtgcdgcidjjdhmaaGreatDoor
set_option linter.unusedVariables false
set_option linter.unusedSimpArgs false
open Go.RowKit

set_option maxRecDepth 100000 in
set_option maxHeartbeats 1000000 in
theorem of_c (B : Nat) (l : List Int) (hl : BytesOk l) (a : Nat) (ha : a ≤ 4611686018427387000) (v : Value) (q : List ByteArray) (hq0 : 0 < q.length) (hq1 : q.length ≤ 1000) (w : World) (hc : CurAt B l a w) (hq : RdS w v q) (hne : ∀ b off n c, v = .slice (some ⟨b, off, none⟩) n c → b ≠ B) :
    Calls Tryz.prog 49 #[.pointer (some ⟨B, 0, none⟩), v] w fun e w' => ∃ y : ByteArray, e = .returned (.string y) ∧ y ∈ q ∧ Drew B l a 2 w w' := by
  have HC := Lib.hid hc
  have HL := Lib.hid hl
  obtain ⟨A, c, rfl, hcc, hm, hr⟩ := hq
  rw [maxLen_eq] at hm
  obtain ⟨b, off, rfl, hb, hcell⟩ := hr hq0
  have hbB := hne b off _ _ rfl
  have HCL := Lib.hid hcell
  clear hc hl hr hcell hne
  go_enter Tryz.func49, Tryz.ntmps49
  go_wp2_with fail
  refine (pick_c B l HL.out a ha _ (by omega) _ HC.out).mono ?_; rintro e w1 ⟨x, rfl, hx, hd⟩
  have hxl : x < q.length := by omega
  obtain ⟨y, hy⟩ : ∃ y, q[x]? = some y := ⟨_, List.getElem?_eq_getElem hxl⟩
  have c0 := (gro_cell hd.2 (o := off + x) hb hbB).trans (HCL.out x _ (strs_get hy))
  have x1 : (x : Int) < (q.length : Int) := by omega
  have HD := Lib.hid hd
  have HY := Lib.hid (List.mem_of_getElem? hy)
  clear hd hy hx
  go_wp2
  go_ret
  exact ⟨y, rfl, HY.out, HD.out⟩

set_option maxRecDepth 100000 in
set_option maxHeartbeats 1000000 in
theorem appliance_c (B : Nat) (l : List Int) (hl : BytesOk l) (a : Nat) (ha : a ≤ 4611686018427380000) (w : World) (hc : CurAt B l a w) (name : ByteArray) (nodes : Int) (hnodes : nodes ≤ 4294967296) :
    Calls Tryz.prog 56 #[.pointer (some ⟨B, 0, none⟩), .string name, .int .i64 nodes] w fun e w' => ∃ t : Ap, e = .returned (.agg #[.string t.nm, .int .i64 t.kd, .int .i64 t.nd, .int .i64 t.cr, .int .i64 t.sv]) ∧ t.nm = name ∧ Drew B l a 12 w w' := by
  have HL := Lib.hid hl
  have HD := Lib.hid (Drew.refl hc 0)
  have hBb : B < w.heap.size := hc.lt
  clear hc hl
  go_enter Tryz.func56, Tryz.ntmps56
  go_upto_region 1 with fail
  generalize hW : World.alloc w _ = W93
  have hr0 : W93.ownsRow w.heap.size 35 5 (.slice (some ⟨w.heap.size, 0, none⟩) 1 1) 1 [.string ⟨#[]⟩, .int .i64 0, .int .i64 0, .int .i64 0, .int .i64 0] := by subst hW; exact row_new w _ _ 1 5 rfl (by omega) (by omega)
  have HD := Lib.hid (HD.out.bel (show Below w.heap.size w W93 by subst hW; exact bel_al (Below.refl _ _) _))
  have sz0 : w.heap.size < W93.heap.size := by subst hW; simp
  have HR := Lib.hid hr0
  clear hW hr0
  go_wp2_with fail
  generalize hW : World.alloc W93 _ = W94
  have hq : RdI W94 (.slice (some ⟨W93.heap.size, 0, none⟩) 5 5) [0, 0, 1, 2, 3] := by subst hW; exact rd_new W93 rfl (Nat.le_refl _) (by rw [maxLen_eq]; omega)
  have hbl : Below W93.heap.size W93 W94 := by subst hW; exact bel_al (Below.refl _ _) _
  have hBW := HD.out.1.lt
  have HD := Lib.hid (HD.out.bel hbl)
  have HR := Lib.hid (own_below HR.out hbl)
  have szW94 := hbl.size
  clear hW hbl
  refine (among_c B l HL.out (a + 0) (by omega) _ [0, 0, 1, 2, 3] (by simp) (by simp) _ HD.out.1 hq (lit_ne hBW)).mono ?_; rintro e W95 ⟨y96, rfl, _, hd⟩
  clear hq hBW
  have HD := Lib.hid (HD.out.trans hd)
  have HR := Lib.hid (own_draw HR.out hd.2 hBb)
  have szW95 := hd.2.size
  clear hd
  go_wp2_with fail
  refine (pick_c B l HL.out (a + 2) (by omega) nodes (by omega) _ HD.out.1).mono ?_; rintro e W97 ⟨x98, rfl, hx98, hd⟩
  have HD := Lib.hid (HD.out.trans hd)
  have HR := Lib.hid (own_draw HR.out hd.2 hBb)
  have szW97 := hd.2.size
  clear hd
  go_wp2_with fail
  generalize hW : World.alloc W97 _ = W99
  have hq : RdI W99 (.slice (some ⟨W97.heap.size, 0, none⟩) 6 6) [6, 4, 3, 2, 1, 9] := by subst hW; exact rd_new W97 rfl (Nat.le_refl _) (by rw [maxLen_eq]; omega)
  have hbl : Below W97.heap.size W97 W99 := by subst hW; exact bel_al (Below.refl _ _) _
  have hBW := HD.out.1.lt
  have HD := Lib.hid (HD.out.bel hbl)
  have HR := Lib.hid (own_below HR.out hbl)
  have szW99 := hbl.size
  clear hW hbl
  refine (among_c B l HL.out (a + 4) (by omega) _ [6, 4, 3, 2, 1, 9] (by simp) (by simp) _ HD.out.1 hq (lit_ne hBW)).mono ?_; rintro e W100 ⟨y101, rfl, _, hd⟩
  clear hq hBW
  have HD := Lib.hid (HD.out.trans hd)
  have HR := Lib.hid (own_draw HR.out hd.2 hBb)
  have szW100 := hd.2.size
  clear hd
  go_wp2_with fail
  generalize hW : World.alloc W100 _ = W102
  have hq : RdI W102 (.slice (some ⟨W100.heap.size, 0, none⟩) 8 8) [0, 0, 0, 4, 1, 2, 3, 5] := by subst hW; exact rd_new W100 rfl (Nat.le_refl _) (by rw [maxLen_eq]; omega)
  have hbl : Below W100.heap.size W100 W102 := by subst hW; exact bel_al (Below.refl _ _) _
  have hBW := HD.out.1.lt
  have HD := Lib.hid (HD.out.bel hbl)
  have HR := Lib.hid (own_below HR.out hbl)
  have szW102 := hbl.size
  clear hW hbl
  refine (among_c B l HL.out (a + 6) (by omega) _ [0, 0, 0, 4, 1, 2, 3, 5] (by simp) (by simp) _ HD.out.1 hq (lit_ne hBW)).mono ?_; rintro e W103 ⟨y104, rfl, _, hd⟩
  clear hq hBW
  have HD := Lib.hid (HD.out.trans hd)
  have HR := Lib.hid (own_draw HR.out hd.2 hBb)
  have szW103 := hd.2.size
  clear hd
  go_upto_region 2 with fail
  generalize hW : World.alloc W103 _ = W105
  have hr0 : W105.ownsRow w.heap.size 35 5 (.slice (some ⟨W103.heap.size, 0, none⟩) 1 1) 1 [.string name, .int .i64 y96, .int .i64 (x98 : Int), .int .i64 y101, .int .i64 y104] := by subst hW; exact own_base (row_new W103 _ _ 1 5 rfl (by omega) (by omega)) (by omega)
  have hbl : Below W103.heap.size W103 W105 := by subst hW; exact bel_al (Below.refl _ _) _
  have HD := Lib.hid (HD.out.bel hbl)
  have HR := Lib.hid (own_below HR.out hbl)
  have HT := Lib.hid hr0
  obtain ⟨R, hRR⟩ : ∃ R, W103.heap.size = R := ⟨_, rfl⟩
  have hwR : w.heap.size < R := by omega
  rw [hRR] at HT ⊢
  clear hW hr0 hbl hRR
  go_wp2_with fail
  refine (pick_c B l HL.out (a + 8) (by omega) 80 (by omega) _ HD.out.1).mono ?_; rintro e W106 ⟨x107, rfl, hx107, hd⟩
  have HD := Lib.hid (HD.out.trans hd)
  have HR := Lib.hid (own_draw HR.out hd.2 hBb)
  have HT := Lib.hid (own_draw HT.out hd.2 hBb)
  have szW106 := hd.2.size
  clear hd
  rcases (show x107 = 0 ∨ x107 = 1 ∨ x107 = 2 ∨ x107 = 3 ∨ 4 ≤ x107 by omega) with hx | hx | hx | hx | hx
  · subst hx
    go_wp2_with fail
    generalize hW : World.alloc W106 _ = W108
    have hq : RdI W108 (.slice (some ⟨W106.heap.size, 0, none⟩) 2 2) [-1, 4] := by subst hW; exact rd_new W106 rfl (Nat.le_refl _) (by rw [maxLen_eq]; omega)
    have hbl : Below W106.heap.size W106 W108 := by subst hW; exact bel_al (Below.refl _ _) _
    have hBW := HD.out.1.lt
    have HD := Lib.hid (HD.out.bel hbl)
    have HR := Lib.hid (own_below HR.out hbl)
    have HT := Lib.hid (own_below HT.out hbl)
    have szW108 := hbl.size
    clear hW hbl
    refine (among_c B l HL.out (a + 10) (by omega) _ [-1, 4] (by simp) (by simp) _ HD.out.1 hq (lit_ne hBW)).mono ?_; rintro e W109 ⟨y110, rfl, _, hd⟩
    clear hq hBW
    have HD := Lib.hid (HD.out.trans hd)
    have HR := Lib.hid (own_draw HR.out hd.2 hBb)
    have HT := Lib.hid (own_draw HT.out hd.2 hBb)
    have szW109 := hd.2.size
    clear hd
    have HST : Hid ((W109.setCell ⟨R, 1, none⟩ (.int .i64 y110)).ownsRow w.heap.size 35 5 (.slice (some ⟨R, 0, none⟩) 1 1) 1 [.string name, .int .i64 y110, .int .i64 (x98 : Int), .int .i64 y101, .int .i64 y104]) := Lib.hid (own_put [_] W109 _ 1 HT.out)
    have HSR : Hid ((W109.setCell ⟨R, 1, none⟩ (.int .i64 y110)).ownsRow w.heap.size 35 5 (.slice (some ⟨w.heap.size, 0, none⟩) 1 1) 1 [.string ⟨#[]⟩, .int .i64 0, .int .i64 0, .int .i64 0, .int .i64 0]) := Lib.hid (HR.out.kept (only_setCell (World.grownBy.refl _ (some R)) 1 _) (.inr (fun hq => by have : w.heap.size = R := Option.some.inj hq; omega)))
    have HSD := Lib.hid (HD.out.own (only_setCell (World.grownBy.refl _ (some R)) 1 (.int .i64 y110)) (by omega) hBb)
    have u1 := HT.out.cellAt 1 (by omega)
    have v1 := HT.out.frozenAt 1
    dsimp only [List.getElem?_cons_zero, List.getElem?_cons_succ] at u1
    go_upto_region 11 with fail
    generalize hW : World.setCell _ _ _ = WS at HST HSR HSD ⊢
    have HT := HST
    have HR := HSR
    have HD := HSD
    clear hW u1 v1 HST HSR HSD
    have t0 := HT.out.cellAt 0 (by omega)
    have t1 := HT.out.cellAt 1 (by omega)
    have t2 := HT.out.cellAt 2 (by omega)
    have t3 := HT.out.cellAt 3 (by omega)
    have t4 := HT.out.cellAt 4 (by omega)
    have g0 := HT.out.frozenAt 0
    have g1 := HT.out.frozenAt 1
    have g2 := HT.out.frozenAt 2
    have g3 := HT.out.frozenAt 3
    have g4 := HT.out.frozenAt 4
    have r0 := HR.out.cellAt 0 (by omega)
    have r1 := HR.out.cellAt 1 (by omega)
    have r2 := HR.out.cellAt 2 (by omega)
    have r3 := HR.out.cellAt 3 (by omega)
    have r4 := HR.out.cellAt 4 (by omega)
    have f0 := HR.out.frozenAt 0
    have f1 := HR.out.frozenAt 1
    have f2 := HR.out.frozenAt 2
    have f3 := HR.out.frozenAt 3
    have f4 := HR.out.frozenAt 4
    dsimp only [List.getElem?_cons_zero, List.getElem?_cons_succ] at t0 t1 t2 t3 t4 r0 r1 r2 r3 r4
    go_wp2
    refine bodyPost_ret (v := .agg #[.string name, .int .i64 y110, .int .i64 (x98 : Int), .int .i64 y101, .int .i64 y104]) (by simp [results, Tryz.results56, go_sem, r0, r1, r2, r3, r4]) rfl ?_
    exact ⟨⟨name, y110, (x98 : Int), y101, y104⟩, rfl, rfl, (HD.out.own (only_setCell (only_setCell (only_setCell (only_setCell (only_setCell (World.grownBy.refl _ _) 0 _) 1 _) 2 _) 3 _) 4 _) (Nat.le_refl _) hBb).more (by omega)⟩
  · subst hx
    go_wp2_with fail
    generalize hW : World.alloc W106 _ = W111
    have hq : RdI W111 (.slice (some ⟨W106.heap.size, 0, none⟩) 3 3) [-1, 13, 14] := by subst hW; exact rd_new W106 rfl (Nat.le_refl _) (by rw [maxLen_eq]; omega)
    have hbl : Below W106.heap.size W106 W111 := by subst hW; exact bel_al (Below.refl _ _) _
    have hBW := HD.out.1.lt
    have HD := Lib.hid (HD.out.bel hbl)
    have HR := Lib.hid (own_below HR.out hbl)
    have HT := Lib.hid (own_below HT.out hbl)
    have szW111 := hbl.size
    clear hW hbl
    refine (among_c B l HL.out (a + 10) (by omega) _ [-1, 13, 14] (by simp) (by simp) _ HD.out.1 hq (lit_ne hBW)).mono ?_; rintro e W112 ⟨y113, rfl, _, hd⟩
    clear hq hBW
    have HD := Lib.hid (HD.out.trans hd)
    have HR := Lib.hid (own_draw HR.out hd.2 hBb)
    have HT := Lib.hid (own_draw HT.out hd.2 hBb)
    have szW112 := hd.2.size
    clear hd
    have HST : Hid ((W112.setCell ⟨R, 2, none⟩ (.int .i64 y113)).ownsRow w.heap.size 35 5 (.slice (some ⟨R, 0, none⟩) 1 1) 1 [.string name, .int .i64 y96, .int .i64 y113, .int .i64 y101, .int .i64 y104]) := Lib.hid (own_put [_] W112 _ 2 HT.out)
    have HSR : Hid ((W112.setCell ⟨R, 2, none⟩ (.int .i64 y113)).ownsRow w.heap.size 35 5 (.slice (some ⟨w.heap.size, 0, none⟩) 1 1) 1 [.string ⟨#[]⟩, .int .i64 0, .int .i64 0, .int .i64 0, .int .i64 0]) := Lib.hid (HR.out.kept (only_setCell (World.grownBy.refl _ (some R)) 2 _) (.inr (fun hq => by have : w.heap.size = R := Option.some.inj hq; omega)))
    have HSD := Lib.hid (HD.out.own (only_setCell (World.grownBy.refl _ (some R)) 2 (.int .i64 y113)) (by omega) hBb)
    have u2 := HT.out.cellAt 2 (by omega)
    have v2 := HT.out.frozenAt 2
    dsimp only [List.getElem?_cons_zero, List.getElem?_cons_succ] at u2
    go_upto_region 11 with fail
    generalize hW : World.setCell _ _ _ = WS at HST HSR HSD ⊢
    have HT := HST
    have HR := HSR
    have HD := HSD
    clear hW u2 v2 HST HSR HSD
    have t0 := HT.out.cellAt 0 (by omega)
    have t1 := HT.out.cellAt 1 (by omega)
    have t2 := HT.out.cellAt 2 (by omega)
    have t3 := HT.out.cellAt 3 (by omega)
    have t4 := HT.out.cellAt 4 (by omega)
    have g0 := HT.out.frozenAt 0
    have g1 := HT.out.frozenAt 1
    have g2 := HT.out.frozenAt 2
    have g3 := HT.out.frozenAt 3
    have g4 := HT.out.frozenAt 4
    have r0 := HR.out.cellAt 0 (by omega)
    have r1 := HR.out.cellAt 1 (by omega)
    have r2 := HR.out.cellAt 2 (by omega)
    have r3 := HR.out.cellAt 3 (by omega)
    have r4 := HR.out.cellAt 4 (by omega)
    have f0 := HR.out.frozenAt 0
    have f1 := HR.out.frozenAt 1
    have f2 := HR.out.frozenAt 2
    have f3 := HR.out.frozenAt 3
    have f4 := HR.out.frozenAt 4
    dsimp only [List.getElem?_cons_zero, List.getElem?_cons_succ] at t0 t1 t2 t3 t4 r0 r1 r2 r3 r4
    go_wp2
    refine bodyPost_ret (v := .agg #[.string name, .int .i64 y96, .int .i64 y113, .int .i64 y101, .int .i64 y104]) (by simp [results, Tryz.results56, go_sem, r0, r1, r2, r3, r4]) rfl ?_
    exact ⟨⟨name, y96, y113, y101, y104⟩, rfl, rfl, (HD.out.own (only_setCell (only_setCell (only_setCell (only_setCell (only_setCell (World.grownBy.refl _ _) 0 _) 1 _) 2 _) 3 _) 4 _) (Nat.le_refl _) hBb).more (by omega)⟩
  · subst hx
    go_wp2_with fail
    generalize hW : World.alloc W106 _ = W114
    have hq : RdI W114 (.slice (some ⟨W106.heap.size, 0, none⟩) 3 3) [0, 10, -9223372036854775808] := by subst hW; exact rd_new W106 rfl (Nat.le_refl _) (by rw [maxLen_eq]; omega)
    have hbl : Below W106.heap.size W106 W114 := by subst hW; exact bel_al (Below.refl _ _) _
    have hBW := HD.out.1.lt
    have HD := Lib.hid (HD.out.bel hbl)
    have HR := Lib.hid (own_below HR.out hbl)
    have HT := Lib.hid (own_below HT.out hbl)
    have szW114 := hbl.size
    clear hW hbl
    refine (among_c B l HL.out (a + 10) (by omega) _ [0, 10, -9223372036854775808] (by simp) (by simp) _ HD.out.1 hq (lit_ne hBW)).mono ?_; rintro e W115 ⟨y116, rfl, _, hd⟩
    clear hq hBW
    have HD := Lib.hid (HD.out.trans hd)
    have HR := Lib.hid (own_draw HR.out hd.2 hBb)
    have HT := Lib.hid (own_draw HT.out hd.2 hBb)
    have szW115 := hd.2.size
    clear hd
    have HST : Hid ((W115.setCell ⟨R, 3, none⟩ (.int .i64 y116)).ownsRow w.heap.size 35 5 (.slice (some ⟨R, 0, none⟩) 1 1) 1 [.string name, .int .i64 y96, .int .i64 (x98 : Int), .int .i64 y116, .int .i64 y104]) := Lib.hid (own_put [_] W115 _ 3 HT.out)
    have HSR : Hid ((W115.setCell ⟨R, 3, none⟩ (.int .i64 y116)).ownsRow w.heap.size 35 5 (.slice (some ⟨w.heap.size, 0, none⟩) 1 1) 1 [.string ⟨#[]⟩, .int .i64 0, .int .i64 0, .int .i64 0, .int .i64 0]) := Lib.hid (HR.out.kept (only_setCell (World.grownBy.refl _ (some R)) 3 _) (.inr (fun hq => by have : w.heap.size = R := Option.some.inj hq; omega)))
    have HSD := Lib.hid (HD.out.own (only_setCell (World.grownBy.refl _ (some R)) 3 (.int .i64 y116)) (by omega) hBb)
    have u3 := HT.out.cellAt 3 (by omega)
    have v3 := HT.out.frozenAt 3
    dsimp only [List.getElem?_cons_zero, List.getElem?_cons_succ] at u3
    go_upto_region 11 with fail
    generalize hW : World.setCell _ _ _ = WS at HST HSR HSD ⊢
    have HT := HST
    have HR := HSR
    have HD := HSD
    clear hW u3 v3 HST HSR HSD
    have t0 := HT.out.cellAt 0 (by omega)
    have t1 := HT.out.cellAt 1 (by omega)
    have t2 := HT.out.cellAt 2 (by omega)
    have t3 := HT.out.cellAt 3 (by omega)
    have t4 := HT.out.cellAt 4 (by omega)
    have g0 := HT.out.frozenAt 0
    have g1 := HT.out.frozenAt 1
    have g2 := HT.out.frozenAt 2
    have g3 := HT.out.frozenAt 3
    have g4 := HT.out.frozenAt 4
    have r0 := HR.out.cellAt 0 (by omega)
    have r1 := HR.out.cellAt 1 (by omega)
    have r2 := HR.out.cellAt 2 (by omega)
    have r3 := HR.out.cellAt 3 (by omega)
    have r4 := HR.out.cellAt 4 (by omega)
    have f0 := HR.out.frozenAt 0
    have f1 := HR.out.frozenAt 1
    have f2 := HR.out.frozenAt 2
    have f3 := HR.out.frozenAt 3
    have f4 := HR.out.frozenAt 4
    dsimp only [List.getElem?_cons_zero, List.getElem?_cons_succ] at t0 t1 t2 t3 t4 r0 r1 r2 r3 r4
    go_wp2
    refine bodyPost_ret (v := .agg #[.string name, .int .i64 y96, .int .i64 (x98 : Int), .int .i64 y116, .int .i64 y104]) (by simp [results, Tryz.results56, go_sem, r0, r1, r2, r3, r4]) rfl ?_
    exact ⟨⟨name, y96, (x98 : Int), y116, y104⟩, rfl, rfl, (HD.out.own (only_setCell (only_setCell (only_setCell (only_setCell (only_setCell (World.grownBy.refl _ _) 0 _) 1 _) 2 _) 3 _) 4 _) (Nat.le_refl _) hBb).more (by omega)⟩
  · subst hx
    go_wp2_with fail
    generalize hW : World.alloc W106 _ = W117
    have hq : RdI W117 (.slice (some ⟨W106.heap.size, 0, none⟩) 2 2) [-1, 6] := by subst hW; exact rd_new W106 rfl (Nat.le_refl _) (by rw [maxLen_eq]; omega)
    have hbl : Below W106.heap.size W106 W117 := by subst hW; exact bel_al (Below.refl _ _) _
    have hBW := HD.out.1.lt
    have HD := Lib.hid (HD.out.bel hbl)
    have HR := Lib.hid (own_below HR.out hbl)
    have HT := Lib.hid (own_below HT.out hbl)
    have szW117 := hbl.size
    clear hW hbl
    refine (among_c B l HL.out (a + 10) (by omega) _ [-1, 6] (by simp) (by simp) _ HD.out.1 hq (lit_ne hBW)).mono ?_; rintro e W118 ⟨y119, rfl, _, hd⟩
    clear hq hBW
    have HD := Lib.hid (HD.out.trans hd)
    have HR := Lib.hid (own_draw HR.out hd.2 hBb)
    have HT := Lib.hid (own_draw HT.out hd.2 hBb)
    have szW118 := hd.2.size
    clear hd
    have HST : Hid ((W118.setCell ⟨R, 4, none⟩ (.int .i64 y119)).ownsRow w.heap.size 35 5 (.slice (some ⟨R, 0, none⟩) 1 1) 1 [.string name, .int .i64 y96, .int .i64 (x98 : Int), .int .i64 y101, .int .i64 y119]) := Lib.hid (own_put [_] W118 _ 4 HT.out)
    have HSR : Hid ((W118.setCell ⟨R, 4, none⟩ (.int .i64 y119)).ownsRow w.heap.size 35 5 (.slice (some ⟨w.heap.size, 0, none⟩) 1 1) 1 [.string ⟨#[]⟩, .int .i64 0, .int .i64 0, .int .i64 0, .int .i64 0]) := Lib.hid (HR.out.kept (only_setCell (World.grownBy.refl _ (some R)) 4 _) (.inr (fun hq => by have : w.heap.size = R := Option.some.inj hq; omega)))
    have HSD := Lib.hid (HD.out.own (only_setCell (World.grownBy.refl _ (some R)) 4 (.int .i64 y119)) (by omega) hBb)
    have u4 := HT.out.cellAt 4 (by omega)
    have v4 := HT.out.frozenAt 4
    dsimp only [List.getElem?_cons_zero, List.getElem?_cons_succ] at u4
    go_upto_region 11 with fail
    generalize hW : World.setCell _ _ _ = WS at HST HSR HSD ⊢
    have HT := HST
    have HR := HSR
    have HD := HSD
    clear hW u4 v4 HST HSR HSD
    have t0 := HT.out.cellAt 0 (by omega)
    have t1 := HT.out.cellAt 1 (by omega)
    have t2 := HT.out.cellAt 2 (by omega)
    have t3 := HT.out.cellAt 3 (by omega)
    have t4 := HT.out.cellAt 4 (by omega)
    have g0 := HT.out.frozenAt 0
    have g1 := HT.out.frozenAt 1
    have g2 := HT.out.frozenAt 2
    have g3 := HT.out.frozenAt 3
    have g4 := HT.out.frozenAt 4
    have r0 := HR.out.cellAt 0 (by omega)
    have r1 := HR.out.cellAt 1 (by omega)
    have r2 := HR.out.cellAt 2 (by omega)
    have r3 := HR.out.cellAt 3 (by omega)
    have r4 := HR.out.cellAt 4 (by omega)
    have f0 := HR.out.frozenAt 0
    have f1 := HR.out.frozenAt 1
    have f2 := HR.out.frozenAt 2
    have f3 := HR.out.frozenAt 3
    have f4 := HR.out.frozenAt 4
    dsimp only [List.getElem?_cons_zero, List.getElem?_cons_succ] at t0 t1 t2 t3 t4 r0 r1 r2 r3 r4
    go_wp2
    refine bodyPost_ret (v := .agg #[.string name, .int .i64 y96, .int .i64 (x98 : Int), .int .i64 y101, .int .i64 y119]) (by simp [results, Tryz.results56, go_sem, r0, r1, r2, r3, r4]) rfl ?_
    exact ⟨⟨name, y96, (x98 : Int), y101, y119⟩, rfl, rfl, (HD.out.own (only_setCell (only_setCell (only_setCell (only_setCell (only_setCell (World.grownBy.refl _ _) 0 _) 1 _) 2 _) 3 _) 4 _) (Nat.le_refl _) hBb).more (by omega)⟩
  · have n0 : ((x107 : Int) == 0) = false := beq_false_of_ne (by omega)
    have n1 : ((x107 : Int) == 1) = false := beq_false_of_ne (by omega)
    have n2 : ((x107 : Int) == 2) = false := beq_false_of_ne (by omega)
    have n3 : ((x107 : Int) == 3) = false := beq_false_of_ne (by omega)
    have t0 := HT.out.cellAt 0 (by omega)
    have t1 := HT.out.cellAt 1 (by omega)
    have t2 := HT.out.cellAt 2 (by omega)
    have t3 := HT.out.cellAt 3 (by omega)
    have t4 := HT.out.cellAt 4 (by omega)
    have g0 := HT.out.frozenAt 0
    have g1 := HT.out.frozenAt 1
    have g2 := HT.out.frozenAt 2
    have g3 := HT.out.frozenAt 3
    have g4 := HT.out.frozenAt 4
    have r0 := HR.out.cellAt 0 (by omega)
    have r1 := HR.out.cellAt 1 (by omega)
    have r2 := HR.out.cellAt 2 (by omega)
    have r3 := HR.out.cellAt 3 (by omega)
    have r4 := HR.out.cellAt 4 (by omega)
    have f0 := HR.out.frozenAt 0
    have f1 := HR.out.frozenAt 1
    have f2 := HR.out.frozenAt 2
    have f3 := HR.out.frozenAt 3
    have f4 := HR.out.frozenAt 4
    dsimp only [List.getElem?_cons_zero, List.getElem?_cons_succ] at t0 t1 t2 t3 t4 r0 r1 r2 r3 r4
    go_wp2
    refine bodyPost_ret (v := .agg #[.string name, .int .i64 y96, .int .i64 (x98 : Int), .int .i64 y101, .int .i64 y104]) (by simp [results, Tryz.results56, go_sem, r0, r1, r2, r3, r4]) rfl ?_
    exact ⟨⟨name, y96, (x98 : Int), y101, y104⟩, rfl, rfl, (HD.out.own (only_setCell (only_setCell (only_setCell (only_setCell (only_setCell (World.grownBy.refl _ _) 0 _) 1 _) 2 _) 3 _) 4 _) (Nat.le_refl _) hBb).more (by omega)⟩
end Go.Proofs.YtgcdgcidjjdhmaaGreatDoor

namespace Go.Proofs.YtgcdgcidjjdhmaaGreatDoor
set_option linter.unusedVariables false
set_option linter.unusedSimpArgs false
open Go.RowKit

theorem flat_snoc_ap (l : List Ap) (t : Ap) : (l ++ [t]).flatMap Ap.cells = l.flatMap Ap.cells ++ [.string t.nm, .int .i64 t.kd, .int .i64 t.nd, .int .i64 t.cr, .int .i64 t.sv] := by rw [List.flatMap_append]; simp [Ap.cells]
theorem snoc_small {T : List Ap} {t : Ap} (h : ∀ x ∈ T, x.nm.size ≤ 7) (ht : t.nm.size ≤ 7) : ∀ x ∈ T ++ [t], x.nm.size ≤ 7 := fun x hx => by
  rcases List.mem_append.1 hx with h1 | h1
  · exact h x h1
  · rw [List.mem_singleton.1 h1]; exact ht

set_option maxRecDepth 100000 in
set_option maxHeartbeats 4000000 in
theorem fleet_c (B : Nat) (l : List Int) (hl : BytesOk l) (a : Nat) (ha : a ≤ 4611686018427370000) (w : World) (hc : CurAt B l a w) (nodes : Int) (hnodes : nodes ≤ 4294967296) :
    Calls Tryz.prog 46 #[.pointer (some ⟨B, 0, none⟩), .int .i64 nodes] w fun e w' => ∃ (v : Value) (T : List Ap), e = .returned v ∧ w'.ownsRow w.heap.size 35 5 v T.length (T.flatMap Ap.cells) ∧ T.length ≤ 12 ∧ (∀ x ∈ T, x.nm.size ≤ 7) ∧ Drew B l a 300 w w' := by
  have HL := Lib.hid hl
  have HD := Lib.hid (Drew.refl hc 0)
  have hBb : B < w.heap.size := hc.lt
  obtain ⟨i0, hi, hz0, hz1, hz2⟩ := info_parts Tryz.infoAp
  obtain ⟨NS, hNS⟩ : ∃ NS : List ByteArray, NS = [⟨#[100, 49]⟩, ⟨#[112, 49]⟩, ⟨#[112, 50]⟩, ⟨#[112, 51]⟩, ⟨#[114, 49]⟩, ⟨#[116, 49]⟩, ⟨#[116, 50]⟩] := ⟨_, rfl⟩
  clear hc hl
  go_enter Tryz.func46, Tryz.ntmps46
  go_wp2_with fail
  generalize hW : World.alloc w _ = w1
  have hlit : w1.ownsRow w.heap.size 9 1 (.slice (some ⟨w.heap.size, 0, none⟩) 7 7) 7 (strs NS) := by subst hW; subst hNS; exact row_new w _ _ 7 1 rfl (by omega) (by omega)
  have HSM : Hid (∀ x ∈ NS, x.size ≤ 7) := Lib.hid (by subst hNS; decide)
  have hNl : NS.length = 7 := by subst hNS; rfl
  have HNL := Lib.hid hNl
  have sz1 : w1.heap.size = w.heap.size + 1 := by subst hW; simp
  have HD := Lib.hid (HD.out.bel (show Below w.heap.size w w1 by subst hW; exact bel_al (Below.refl _ _) _))
  have HLIT := Lib.hid hlit
  have HSZ := Lib.hid sz1
  clear hW hlit hNS hNl sz1
  go_loopw [5, 10] (fun v5 v10 wr => ∃ (k : Nat) (T : List Ap) (A : Option Addr) (c : Nat), k ≤ 7 ∧ v10 = .int .i64 k ∧ v5 = .slice A T.length c ∧ T.length ≤ k ∧ w1.heap.size ≤ wr.heap.size ∧ Hid (∀ x ∈ T, x.nm.size ≤ 7) ∧ Hid (wr.ownsRow w1.heap.size 35 5 (.slice A T.length c) T.length (T.flatMap Ap.cells)) ∧ Hid (wr.ownsRow w.heap.size 9 1 (.slice (some ⟨w.heap.size, 0, none⟩) 7 7) 7 (strs NS)) ∧ Hid (Drew B l a (14 * k) w wr)) (fun _ v10 _ => 7 - (intOf v10).toNat)
  case atStart => exact ⟨0, [], none, 0, Nat.zero_le _, rfl, rfl, Nat.le_refl _, Nat.le_refl _, Lib.hid (by simp), Lib.hid (World.ownsRow_nil _ _ _ _), HLIT, HD⟩
  case round =>
    obtain ⟨k, T, A, c, hk, rfl, rfl, hTk, hsw, HTS, HOW, HLT, HDR⟩ := hrel
    obtain ⟨wA, rfl⟩ : ∃ wA : World, wA = wr := ⟨_, rfl⟩
    by_cases hlt : k < 7
    · obtain ⟨y, hy⟩ : ∃ y, NS[k]? = some y := ⟨_, List.getElem?_eq_getElem (by rw [HNL.out]; exact hlt)⟩
      have hys := HSM.out y (List.mem_of_getElem? hy)
      have cy := HLT.out.cellAt k (by omega)
      rw [strs_get hy] at cy
      have k1 : (k : Int) < 7 := by omega
      have k0 : (0 : Int) ≤ (k : Int) := by omega
      clear hy
      go_wp2_with fail
      refine (one_c B l HL.out (a + 14 * k) (by omega) 2 (by omega) _ HDR.out.1).mono ?_; rintro e w2 ⟨b, rfl, hd⟩
      have HLT2 := Lib.hid (own_draw HLT.out hd.2 hBb)
      have HOW2 := Lib.hid (own_draw HOW.out hd.2 (by have := HSZ.out; omega))
      have HD2 := Lib.hid (HDR.out.trans hd)
      have hs2 := hd.2.size
      clear hd cy
      cases b
      · go_wp2
        exact ⟨⟨k + 1, T, A, c, by omega, by go_num, rfl, by omega, by omega, HTS, HOW2, HLT2, Lib.hid (HD2.out.more (by omega))⟩, by simp [intOf]; omega⟩
      · go_wp2_with fail
        refine (appliance_c B l HL.out (a + (14 * k + 2)) (by omega) _ HD2.out.1 y nodes hnodes).mono ?_; rintro e w4 ⟨⟨t0, t1, t2, t3, t4⟩, rfl, htn, hd⟩
        have HLT4 := Lib.hid (own_draw HLT2.out hd.2 hBb)
        have HOW4 := Lib.hid (own_draw HOW2.out hd.2 (by have := HSZ.out; omega))
        have HD4 := Lib.hid (HD2.out.trans hd)
        have hs4 := hd.2.size
        have hs1 := HSZ.out
        have HTN := Lib.hid (show t0.size ≤ 7 by rw [show t0 = y from htn]; exact hys)
        clear hd htn
        go_wp2_with (at_builtin; refine wpList_app_rd _ rfl _ _ 24 rfl w1.heap.size 35 i0 _ 5 48 Tryz.underlying24 hi hz0 hz1 hz2 rfl (by decide) _ _ _ rfl (HOW4.out.alloc _) _ 1 [.string t0, .int .i64 t1, .int .i64 t2, .int .i64 t3, .int .i64 t4] rfl (rd_new _ rfl (Nat.le_refl _) (by rw [maxLen_eq]; omega)) rfl (by intro u hu; simp at hu; rcases hu with rfl | rfl | rfl | rfl | rfl <;> rfl) (by rw [maxLen_eq]; omega) (by omega) (by simp; omega) ?_; intro v7 w7 hown7 hgrow7 _)
        obtain ⟨A7, c7, rfl, _⟩ := own_rd hown7
        have hlo := HOW4.out.lt
        have hB7 := HD4.out.app hgrow7 (fun q e => (by have := (hlo q e).1; omega)) hBb
        have hlt7 := (HLT4.out.alloc _).kept hgrow7 (.inr (fun hq => by have h := (hlo w.heap.size hq.symm).1; omega))
        have hs7 := hgrow7.size
        refine ⟨⟨k + 1, T ++ [⟨t0, t1, t2, t3, t4⟩], A7, c7, by omega, by go_num, by simp, by simp; omega, by simp at hs7; omega, Lib.hid (snoc_small HTS.out HTN.out), Lib.hid ?_, Lib.hid hlt7, Lib.hid (hB7.more (by omega))⟩, by simp [intOf]; omega⟩
        rw [flat_snoc_ap, List.length_append]; exact hown7
    · obtain rfl : k = 7 := by omega
      have HD7 := Lib.hid (HDR.out.more (k' := 100) (by omega))
      have HOW7 := Lib.hid (own_base HOW.out (show w.heap.size ≤ w1.heap.size by have := HSZ.out; omega))
      clear HDR HLT HOW
      go_wp2_with fail
      refine (one_c B l HL.out (a + 100) (by omega) 16 (by omega) _ HD7.out.1).mono ?_; rintro e w2 ⟨b, rfl, hd⟩
      have HOW8 := Lib.hid (own_draw HOW7.out hd.2 hBb)
      have HD8 := Lib.hid (HD7.out.trans hd)
      have hs2 := HD8.out.2.size
      clear hd HOW7 HD7
      cases b
      · go_wp2
        go_ret
        exact ⟨_, T, rfl, HOW8.out, by omega, HTS.out, HD8.out.more (by omega)⟩
      · obtain ⟨w3, hw3⟩ : ∃ w3 : World, w2 = w3 := ⟨_, rfl⟩
        rw [hw3] at HD8 hs2 ⊢
        clear hw3 HOW8
        go_wp2_with fail
        go_loopw [5] (fun v5 wr => ∃ (T : List Ap) (A : Option Addr) (c : Nat), v5 = .slice A T.length c ∧ T.length ≤ 12 ∧ Hid (∀ x ∈ T, x.nm.size ≤ 7) ∧ Hid (wr.ownsRow w.heap.size 35 5 (.slice A T.length c) T.length (T.flatMap Ap.cells)) ∧ Hid (Drew B l a (102 + 12 * T.length) w wr)) (fun v5 _ => 12 - lenOf v5)
        case atStart => exact ⟨[], none, 0, rfl, Nat.zero_le _, Lib.hid (by simp), Lib.hid (World.ownsRow_nil _ _ _ _), HD8⟩
        case round =>
          obtain ⟨T, A, c, rfl, hTn, HTS, HOW, HDR⟩ := hrel
          obtain ⟨wA, rfl⟩ : ∃ wA : World, wA = wr := ⟨_, rfl⟩
          have hsA := HDR.out.2.size
          by_cases hlt : T.length < 12
          · have hlt2 : (T.length : Int) < 12 := by omega
            go_wp2_with fail
            refine (appliance_c B l HL.out (a + (102 + 12 * T.length)) (by omega) _ HDR.out.1 _ nodes hnodes).mono ?_; rintro e w4 ⟨⟨t0, t1, t2, t3, t4⟩, rfl, htn, hd⟩
            have HOW4 := Lib.hid (own_draw HOW.out hd.2 hBb)
            have HD4 := Lib.hid (HDR.out.trans hd)
            have HTN := Lib.hid (show t0.size ≤ 7 by rw [show t0 = _ from htn, ByteArray.size_append, ByteArray.size_extract]; simp [ByteArray.size]; omega)
            have hs4 := hd.2.size
            clear hd htn
            go_wp2_with (at_builtin; refine wpList_app_rd _ rfl _ _ 24 rfl w.heap.size 35 i0 _ 5 48 Tryz.underlying24 hi hz0 hz1 hz2 rfl (by decide) _ _ _ rfl (HOW4.out.alloc _) _ 1 [.string t0, .int .i64 t1, .int .i64 t2, .int .i64 t3, .int .i64 t4] rfl (rd_new _ rfl (Nat.le_refl _) (by rw [maxLen_eq]; omega)) rfl (by intro u hu; simp at hu; rcases hu with rfl | rfl | rfl | rfl | rfl <;> rfl) (by rw [maxLen_eq]; omega) (by omega) (by simp; omega) ?_; intro v7 w7 hown7 hgrow7 _)
            obtain ⟨A7, c7, rfl, _⟩ := own_rd hown7
            have hlo := HOW4.out.lt
            have hB7 := HD4.out.app hgrow7 (fun q e => (hlo q e).1) hBb
            refine ⟨⟨T ++ [⟨t0, t1, t2, t3, t4⟩], A7, c7, by simp, by simp; omega, Lib.hid (snoc_small HTS.out HTN.out), Lib.hid ?_, Lib.hid ?_⟩, by simp [lenOf]; omega⟩
            · rw [flat_snoc_ap, List.length_append]; exact hown7
            · rw [List.length_append]; exact hB7.more (by simp; omega)
          · have hge : (12 : Int) ≤ (T.length : Int) := by omega
            go_wp2
            go_ret
            exact ⟨_, T, rfl, HOW.out, by omega, HTS.out, HDR.out.more (by omega)⟩

set_option maxRecDepth 100000 in
set_option maxHeartbeats 2000000 in
theorem anyFleet_c (B : Nat) (l : List Int) (hl : BytesOk l) (a : Nat) (ha : a ≤ 4611686018427360000) (w : World) (hc : CurAt B l a w) (nodes : Int) (hnodes : nodes ≤ 4294967296) :
    Calls Tryz.prog 25 #[.pointer (some ⟨B, 0, none⟩), .int .i64 nodes] w fun e w' => ∃ (v : Value) (T : List Ap), e = .returned v ∧ w'.ownsRow w.heap.size 35 5 v T.length (T.flatMap Ap.cells) ∧ T.length ≤ 13 ∧ (∀ x ∈ T, x.nm.size ≤ 7) ∧ Drew B l a 320 w w' := by
  have HL := Lib.hid hl
  have HD := Lib.hid (Drew.refl hc 0)
  have hBb : B < w.heap.size := hc.lt
  obtain ⟨i0, hi, hz0, hz1, hz2⟩ := info_parts Tryz.infoAp
  clear hc hl
  go_enter Tryz.func25, Tryz.ntmps25
  go_wp2_with fail
  refine (fleet_c B l HL.out (a + 0) (by omega) _ HD.out.1 nodes hnodes).mono ?_; rintro e w1 ⟨v1, T, rfl, ho, hT, hts, hd⟩
  obtain ⟨A1, c1, rfl, _⟩ := own_rd ho
  have HOW := Lib.hid ho
  have HTS := Lib.hid hts
  have HD := Lib.hid (HD.out.trans hd)
  clear ho hts hd
  go_wp2_with fail
  refine (pick_c B l HL.out (a + 300) (by omega) 30 (by omega) _ HD.out.1).mono ?_; rintro e w2 ⟨x, rfl, hx, hd⟩
  have HOW := Lib.hid (own_draw HOW.out hd.2 hBb)
  have HD := Lib.hid (HD.out.trans hd)
  have hs2 := HD.out.2.size
  clear hd
  rcases (show x = 0 ∨ x = 1 ∨ 2 ≤ x by omega) with hx0 | hx0 | hx0
  · subst hx0
    go_wp2_with fail
    generalize hW : World.alloc w2 _ = w3
    have hlit : RdS w3 (.slice (some ⟨w2.heap.size, 0, none⟩) 6 6) [⟨#[]⟩, ⟨#[49, 97]⟩, ⟨#[97, 49]⟩, ⟨#[115, 101, 118, 101, 110, 120, 120]⟩, ⟨#[122, 122]⟩, ⟨#[112, 45, 49]⟩] := by subst hW; exact rd_new w2 rfl (Nat.le_refl _) (by rw [maxLen_eq]; omega)
    have hbl : Below w2.heap.size w2 w3 := by subst hW; exact bel_al (Below.refl _ _) _
    have hBW := HD.out.1.lt
    have HD := Lib.hid (HD.out.bel hbl)
    have HOW := Lib.hid (own_below HOW.out hbl)
    have hs3 := hbl.size
    clear hW hbl
    refine (of_c B l HL.out (a + 302) (by omega) _ [⟨#[]⟩, ⟨#[49, 97]⟩, ⟨#[97, 49]⟩, ⟨#[115, 101, 118, 101, 110, 120, 120]⟩, ⟨#[122, 122]⟩, ⟨#[112, 45, 49]⟩] (by simp) (by simp) _ HD.out.1 hlit (lit_ne hBW)).mono ?_; rintro e w4 ⟨y, rfl, hy, hd⟩
    have hys : y.size ≤ 7 := by
      have h : ∀ z ∈ ([⟨#[]⟩, ⟨#[49, 97]⟩, ⟨#[97, 49]⟩, ⟨#[115, 101, 118, 101, 110, 120, 120]⟩, ⟨#[122, 122]⟩, ⟨#[112, 45, 49]⟩] : List ByteArray), z.size ≤ 7 := by decide
      exact h y hy
    have HOW := Lib.hid (own_draw HOW.out hd.2 hBb)
    have HD := Lib.hid (HD.out.trans hd)
    have hs4 := hd.2.size
    clear hd hlit hBW hy
    go_wp2_with fail
    refine (appliance_c B l HL.out (a + 304) (by omega) _ HD.out.1 y nodes hnodes).mono ?_; rintro e w5 ⟨⟨t0, t1, t2, t3, t4⟩, rfl, htn, hd⟩
    have HOW4 := Lib.hid (own_draw HOW.out hd.2 hBb)
    have HD4 := Lib.hid (HD.out.trans hd)
    have HTN := Lib.hid (show t0.size ≤ 7 by rw [show t0 = y from htn]; exact hys)
    have hs5 := hd.2.size
    clear hd htn
    go_wp2_with (at_builtin; refine wpList_app_rd _ rfl _ _ 24 rfl w.heap.size 35 i0 _ 5 48 Tryz.underlying24 hi hz0 hz1 hz2 rfl (by decide) _ _ _ rfl (HOW4.out.alloc _) _ 1 [.string t0, .int .i64 t1, .int .i64 t2, .int .i64 t3, .int .i64 t4] rfl (rd_new _ rfl (Nat.le_refl _) (by rw [maxLen_eq]; omega)) rfl (by intro u hu; simp at hu; rcases hu with rfl | rfl | rfl | rfl | rfl <;> rfl) (by rw [maxLen_eq]; omega) (by omega) (by simp; omega) ?_; intro v7 w7 hown7 hgrow7 _)
    obtain ⟨A7, c7, rfl, _⟩ := own_rd hown7
    have hlo := HOW4.out.lt
    have hB7 := HD4.out.app hgrow7 (fun q e => (hlo q e).1) hBb
    go_wp2
    go_ret
    refine ⟨_, T ++ [⟨t0, t1, t2, t3, t4⟩], rfl, ?_, by simp; omega, snoc_small HTS.out HTN.out, hB7.more (by omega)⟩
    rw [flat_snoc_ap, List.length_append]; exact hown7
  · subst hx0
    clear HOW HTS
    have HDX := HD
    go_wp2_with fail
    go_loopw [5] (fun v5 wr => ∃ (T : List Ap) (A : Option Addr) (c : Nat), v5 = .slice A T.length c ∧ T.length ≤ 13 ∧ Hid (∀ x ∈ T, x.nm.size ≤ 7) ∧ Hid (wr.ownsRow w.heap.size 35 5 (.slice A T.length c) T.length (T.flatMap Ap.cells)) ∧ Hid (Drew B l a (302 + 0 * T.length) w wr)) (fun v5 _ => 13 - lenOf v5)
    case atStart => exact ⟨[], none, 0, rfl, Nat.zero_le _, Lib.hid (by simp), Lib.hid (World.ownsRow_nil _ _ _ _), HDX⟩
    case round =>
      obtain ⟨T, A, c, rfl, hTn, HTS, HOW4, HD4⟩ := hrel
      obtain ⟨wA, rfl⟩ : ∃ wA : World, wA = wr := ⟨_, rfl⟩
      have hsA := HD4.out.2.size
      by_cases hlt : T.length < 13
      · have hlt2 : (T.length : Int) < 13 := by omega
        obtain ⟨S, hS⟩ : ∃ S : ByteArray, (⟨#[112]⟩ ++ (⟨#[97, 98, 99, 100, 101, 102, 103, 104, 105, 106, 107, 108, 109]⟩ : ByteArray).extract T.length (T.length + 1)) = S := ⟨_, rfl⟩
        have HTN := Lib.hid (show S.size ≤ 7 by rw [← hS, ByteArray.size_append, ByteArray.size_extract]; simp [ByteArray.size]; omega)
        go_upto_region 8 with fail
        go_wp2_with (at_builtin; refine wpList_app_rd _ rfl _ _ 24 rfl w.heap.size 35 i0 _ 5 48 Tryz.underlying24 hi hz0 hz1 hz2 rfl (by decide) _ _ _ rfl (HOW4.out.alloc _) _ 1 [.string S, .int .i64 0, .int .i64 0, .int .i64 4, .int .i64 0] rfl (rd_new _ rfl (Nat.le_refl _) (by rw [maxLen_eq]; omega)) rfl (by intro u hu; simp at hu; rcases hu with rfl | rfl | rfl | rfl | rfl <;> rfl) (by rw [maxLen_eq]; omega) (by omega) (by simp; omega) ?_; intro v7 w7 hown7 hgrow7 _)
        obtain ⟨A7, c7, rfl, _⟩ := own_rd hown7
        have hlo := HOW4.out.lt
        have hB7 := HD4.out.app hgrow7 (fun q e => (hlo q e).1) hBb
        refine ⟨⟨T ++ [⟨S, 0, 0, 4, 0⟩], A7, c7, by simp, by simp; omega, Lib.hid (snoc_small HTS.out HTN.out), Lib.hid ?_, Lib.hid ?_⟩, by simp [lenOf]; omega⟩
        · rw [flat_snoc_ap, List.length_append]; exact hown7
        · rw [List.length_append]; exact hB7.more (by simp)
      · have hge : (13 : Int) ≤ (T.length : Int) := by omega
        go_wp2
        go_ret
        exact ⟨_, T, rfl, HOW4.out, by omega, HTS.out, HD4.out.more (by omega)⟩
  · have n0 : ((x : Int) == 0) = false := beq_false_of_ne (by omega)
    have n1 : ((x : Int) == 1) = false := beq_false_of_ne (by omega)
    go_wp2
    go_ret
    exact ⟨_, T, rfl, HOW.out, by omega, HTS.out, HD.out.more (by omega)⟩

end Go.Proofs.YtgcdgcidjjdhmaaGreatDoor

namespace Go.Proofs.YtgcdgcidjjdhmaaGreatDoor
set_option linter.unusedVariables false
set_option linter.unusedSimpArgs false
open Go.RowKit

theorem own_cut3 {w : World} {base : Nat} {e : TypeId} {g n cap : Nat} {xs : List Value} (h : w.ownsRow base e 1 (.slice (some ⟨g, 0, none⟩) n cap) n xs) {k : Nat} (hk : k ≤ n) : w.ownsRow base e 1 (.slice (some ⟨g, 0, none⟩) k cap) k (xs.take k) := by
  have hl := h.1
  rcases h.2 with ⟨h1, _⟩ | ⟨g', cap', cur, h1, h2, h3, h4, h5, h6, h7⟩
  · cases h1
  · injection h1 with h1 _ h8
    injection h1 with h1
    injection h1 with h1
    subst h1; subst h8
    refine ⟨by rw [List.length_take]; omega, .inr ⟨g, cap, cur, rfl, h2, h3, by omega, h5, h6, ?_⟩⟩
    rw [← h7, List.take_take]
    congr 1
    omega
theorem rdb_cells {base B : Nat} {w w' : World} {v : Value} {n : Nat} {xs : List Value} (h : RdB base w v n xs) (g : w.grownBy w' (some B)) (hB : B < base) (h0 : 0 < n) :
    ∃ b off c, v = .slice (some ⟨b, off, none⟩) n c ∧ b < w'.heap.size ∧ ∀ j u, xs[j]? = some u → w'.cell? ⟨b, off + j, none⟩ = some u := by
  obtain ⟨⟨A, c, hv, _, _, h3⟩, _⟩ := rdb_gro h g hB
  obtain ⟨b, off, rfl, hb, hc⟩ := h3 h0
  exact ⟨b, off, c, hv, hb, hc⟩

set_option maxRecDepth 100000 in
set_option maxHeartbeats 2000000 in
theorem nameIn_c (B : Nat) (l : List Int) (hl : BytesOk l) (a : Nat) (ha : a ≤ 4611686018427360000) (w : World) (hc : CurAt B l a w) (base : Nat) (vf : Value) (f : List Ap) (hf : RdB base w vf f.length (f.flatMap Ap.cells)) (hfB : B < base) (hfs : ∀ x ∈ f, x.nm.size ≤ 7) (hfl : f.length ≤ 1000) :
    Calls Tryz.prog 26 #[.pointer (some ⟨B, 0, none⟩), vf] w fun e w' => ∃ y : ByteArray, e = .returned (.string y) ∧ y.size ≤ 7 ∧ Drew B l a 6 w w' := by
  have HL := Lib.hid hl
  have HD := Lib.hid (Drew.refl hc 0)
  have hBb : B < w.heap.size := hc.lt
  clear hc hl
  have HF := Lib.hid hf
  have HFS := Lib.hid hfs
  obtain ⟨⟨Af, cf, rfl, hcf, hmf, -⟩, -⟩ := hf
  rw [maxLen_eq] at hmf
  clear hfs
  go_enter Tryz.func26, Tryz.ntmps26
  by_cases h0 : 0 < f.length
  · have h1 : (0 : Int) < (f.length : Int) := by omega
    go_wp2_with fail
    refine (one_c B l HL.out (a + 0) (by omega) 10 (by omega) _ HD.out.1).mono ?_; rintro e W1 ⟨b, rfl, hd⟩
    have HD := Lib.hid (HD.out.trans hd)
    have hs1 := hd.2.size
    clear hd
    cases b
    · go_wp2_with fail
      refine (pick_c B l HL.out (a + 2) (by omega) _ (by omega) _ HD.out.1).mono ?_; rintro e W2 ⟨x, rfl, hx, hd⟩
      have HD := Lib.hid (HD.out.trans hd)
      have hs2 := hd.2.size
      have hxl : x < f.length := by omega
      obtain ⟨b, off, c, hv, hb, hcl⟩ := rdb_cells HF.out HD.out.2 hfB h0
      injection hv with hv _ hv2
      subst hv; subst hv2
      obtain ⟨nm, kd, ndd, cr, sv, hxx, c0, -, -, -, -⟩ := ap_at' hcl (Below.refl _ _) hb hxl
      have hns : nm.size ≤ 7 := HFS.out _ (List.mem_of_getElem? hxx)
      have x1 : (x : Int) < (f.length : Int) := by omega
      clear hd hx hcl hxx
      go_wp2
      go_ret
      exact ⟨nm, rfl, hns, HD.out.more (by omega)⟩
    · go_wp2_with fail
      generalize hW : World.alloc W1 _ = Wl
      have hlit : RdS Wl (.slice (some ⟨W1.heap.size, 0, none⟩) 3 3) [⟨#[112, 49]⟩, ⟨#[120, 57]⟩, ⟨#[]⟩] := by subst hW; exact rd_new W1 rfl (Nat.le_refl _) (by rw [maxLen_eq]; omega)
      have hbl : Below W1.heap.size W1 Wl := by subst hW; exact bel_al (Below.refl _ _) _
      have hBW := HD.out.1.lt
      have HD := Lib.hid (HD.out.bel hbl)
      have hsl := hbl.size
      clear hW hbl
      refine (of_c B l HL.out (a + 2) (by omega) _ [⟨#[112, 49]⟩, ⟨#[120, 57]⟩, ⟨#[]⟩] (by simp) (by simp) _ HD.out.1 hlit (lit_ne hBW)).mono ?_; rintro e Wm ⟨y, rfl, hy, hd⟩
      have hys : y.size ≤ 7 := by
        have h : ∀ z ∈ ([⟨#[112, 49]⟩, ⟨#[120, 57]⟩, ⟨#[]⟩] : List ByteArray), z.size ≤ 7 := by decide
        exact h y hy
      have HD := Lib.hid (HD.out.trans hd)
      have hsm := hd.2.size
      clear hd hlit hBW hy
      go_wp2
      go_ret
      exact ⟨y, rfl, hys, HD.out.more (by omega)⟩
  · have h1 : (f.length : Int) ≤ 0 := by omega
    go_wp2_with fail
    generalize hW : World.alloc w _ = Wl
    have hlit : RdS Wl (.slice (some ⟨w.heap.size, 0, none⟩) 3 3) [⟨#[112, 49]⟩, ⟨#[120, 57]⟩, ⟨#[]⟩] := by subst hW; exact rd_new w rfl (Nat.le_refl _) (by rw [maxLen_eq]; omega)
    have hbl : Below w.heap.size w Wl := by subst hW; exact bel_al (Below.refl _ _) _
    have hBW := HD.out.1.lt
    have HD := Lib.hid (HD.out.bel hbl)
    have hsl := hbl.size
    clear hW hbl
    refine (of_c B l HL.out (a + 0) (by omega) _ [⟨#[112, 49]⟩, ⟨#[120, 57]⟩, ⟨#[]⟩] (by simp) (by simp) _ HD.out.1 hlit (lit_ne hBW)).mono ?_; rintro e Wm ⟨y, rfl, hy, hd⟩
    have hys : y.size ≤ 7 := by
      have h : ∀ z ∈ ([⟨#[112, 49]⟩, ⟨#[120, 57]⟩, ⟨#[]⟩] : List ByteArray), z.size ≤ 7 := by decide
      exact h y hy
    have HD := Lib.hid (HD.out.trans hd)
    have hsm := hd.2.size
    clear hd hlit hBW hy
    go_wp2
    go_ret
    exact ⟨y, rfl, hys, HD.out.more (by omega)⟩
end Go.Proofs.YtgcdgcidjjdhmaaGreatDoor
