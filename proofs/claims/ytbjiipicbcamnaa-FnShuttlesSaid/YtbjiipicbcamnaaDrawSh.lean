/-
  Draws of stores, deliveries, tankers wanted and dry minutes (printed by gen_drawsh.py).
-/
import Derived.Test.YtbjiipicbcamnaaDrawU
namespace Go.Proofs.Ytbjiipicbcamnaa
open Go.RowKit

set_option maxRecDepth 100000 in
set_option maxHeartbeats 4000000 in
theorem drawLeastStore_c (v : Value) (l : List Int) (hn : l.length ≤ 9223372036854775807) (hl : BytesOk l) (w : World) (hr : Rd w v l.length (bys l)) :
    Calls Try.prog 14 #[v] w fun e w' => (∃ (x : Value) (T : List Tk) (f s : Int), e = .returned (.tuple #[x, .int .i64 f, .int .i64 s]) ∧ Rd w' x T.length (T.flatMap Tk.cells) ∧ T.length ≤ 14) ∧ Below w.heap.size w w' := by
  have HB9 := Lib.hid hr
  have HL := Lib.hid hl
  obtain ⟨A0, c0, rfl, _⟩ := hr
  clear hl
  go_enter Try.func14, Try.ntmps14
  go_upto_region 2 with fail
  generalize hW : World.alloc w _ = w0
  have hc := cur_new w _ l HB9.out hn w0 (by subst hW; simp [go_sem]) (by subst hW; simp [go_sem]) (by subst hW; simp [go_sem]) (by subst hW; simp [go_sem]) (by subst hW; simp [go_sem]) (by subst hW; exact bel_al (Below.refl _ _) _)
  have hb0 : Below w.heap.size w w0 := by subst hW; exact bel_al (Below.refl _ _) _
  obtain ⟨B, hBd⟩ : ∃ B, w.heap.size = B := ⟨_, rfl⟩
  rw [hBd] at hc ⊢
  have HB0 := Lib.hid hb0
  have HBD := Lib.hid hBd
  obtain ⟨a, ha0, ha1⟩ : ∃ a : Nat, a = 0 ∧ a ≤ 0 := ⟨0, rfl, Nat.le_refl _⟩
  rw [← ha0] at hc
  have HD := Lib.hid (Drew.refl hc 0)
  have hBb : B < w0.heap.size := hc.lt
  clear hW hb0 hBd hc ha0
  go_wp2_with fail
  refine (tankers_c B l HL.out (a + 0) (by omega) _ HD.out.1).mono ?_; rintro e w9 ⟨v9, T, rfl, ho, hT, hd⟩
  have HD := Lib.hid (HD.out.trans hd)
  have HO := Lib.hid ho
  have sz9 := hd.2.size
  have szB : B < w0.heap.size := hBb
  clear hd ho
  go_wp2_with fail
  refine (takenFlow_c B l HL.out (a + 300) (by omega) _ HD.out.1).mono ?_; rintro e W94 ⟨f93, rfl, hd⟩
  have HD := Lib.hid (HD.out.trans hd)
  have HO := Lib.hid (own_draw HO.out hd.2 hBb)
  have szW94 := hd.2.size
  clear hd
  go_wp2_with fail
  refine (secondsOf_c B l HL.out (a + 306) (by omega) _ HD.out.1).mono ?_; rintro e W96 ⟨f95, rfl, hd⟩
  have HD := Lib.hid (HD.out.trans hd)
  have HO := Lib.hid (own_draw HO.out hd.2 hBb)
  have szW96 := hd.2.size
  clear hd
  go_wp2
  have hbb : Below B w w0 := by rw [← HBD.out]; exact HB0.out
  have hfin : Below B w W96 := ⟨HD.out.2.os.trans hbb.os, HD.out.2.tape.trans hbb.tape, HD.out.2.output.trans hbb.output, Nat.le_trans hbb.size HD.out.2.size, fun i hi => (HD.out.2.block i (by omega) (fun e => by have := Option.some.inj e; omega)).trans (hbb.block i hi)⟩
  refine bodyPost_ret (v := .tuple #[v9, .int .i64 f93, .int .i64 f95]) (by simp [results, Try.results14, go_sem]) rfl ?_
  exact ⟨⟨v9, T, f93, f95, rfl, own_rd HO.out, hT⟩, by rw [HBD.out]; exact hfin⟩
set_option maxRecDepth 100000 in
set_option maxHeartbeats 4000000 in
theorem drawDeliveries_c (v : Value) (l : List Int) (hn : l.length ≤ 9223372036854775807) (hl : BytesOk l) (w : World) (hr : Rd w v l.length (bys l)) :
    Calls Try.prog 17 #[v] w fun e w' => (∃ (x : Value) (T : List Tk) (s : Int), e = .returned (.tuple #[x, .int .i64 s]) ∧ Rd w' x T.length (T.flatMap Tk.cells) ∧ T.length ≤ 14) ∧ Below w.heap.size w w' := by
  have HB9 := Lib.hid hr
  have HL := Lib.hid hl
  obtain ⟨A0, c0, rfl, _⟩ := hr
  clear hl
  go_enter Try.func17, Try.ntmps17
  go_upto_region 2 with fail
  generalize hW : World.alloc w _ = w0
  have hc := cur_new w _ l HB9.out hn w0 (by subst hW; simp [go_sem]) (by subst hW; simp [go_sem]) (by subst hW; simp [go_sem]) (by subst hW; simp [go_sem]) (by subst hW; simp [go_sem]) (by subst hW; exact bel_al (Below.refl _ _) _)
  have hb0 : Below w.heap.size w w0 := by subst hW; exact bel_al (Below.refl _ _) _
  obtain ⟨B, hBd⟩ : ∃ B, w.heap.size = B := ⟨_, rfl⟩
  rw [hBd] at hc ⊢
  have HB0 := Lib.hid hb0
  have HBD := Lib.hid hBd
  obtain ⟨a, ha0, ha1⟩ : ∃ a : Nat, a = 0 ∧ a ≤ 0 := ⟨0, rfl, Nat.le_refl _⟩
  rw [← ha0] at hc
  have HD := Lib.hid (Drew.refl hc 0)
  have hBb : B < w0.heap.size := hc.lt
  clear hW hb0 hBd hc ha0
  go_wp2_with fail
  refine (tankers_c B l HL.out (a + 0) (by omega) _ HD.out.1).mono ?_; rintro e w9 ⟨v9, T, rfl, ho, hT, hd⟩
  have HD := Lib.hid (HD.out.trans hd)
  have HO := Lib.hid ho
  have sz9 := hd.2.size
  have szB : B < w0.heap.size := hBb
  clear hd ho
  go_wp2_with fail
  refine (secondsOf_c B l HL.out (a + 300) (by omega) _ HD.out.1).mono ?_; rintro e W98 ⟨f97, rfl, hd⟩
  have HD := Lib.hid (HD.out.trans hd)
  have HO := Lib.hid (own_draw HO.out hd.2 hBb)
  have szW98 := hd.2.size
  clear hd
  go_wp2
  have hbb : Below B w w0 := by rw [← HBD.out]; exact HB0.out
  have hfin : Below B w W98 := ⟨HD.out.2.os.trans hbb.os, HD.out.2.tape.trans hbb.tape, HD.out.2.output.trans hbb.output, Nat.le_trans hbb.size HD.out.2.size, fun i hi => (HD.out.2.block i (by omega) (fun e => by have := Option.some.inj e; omega)).trans (hbb.block i hi)⟩
  refine bodyPost_ret (v := .tuple #[v9, .int .i64 f97]) (by simp [results, Try.results17, go_sem]) rfl ?_
  exact ⟨⟨v9, T, f97, rfl, own_rd HO.out, hT⟩, by rw [HBD.out]; exact hfin⟩
set_option maxRecDepth 100000 in
set_option maxHeartbeats 4000000 in
theorem drawDryAt_c (v : Value) (l : List Int) (hn : l.length ≤ 9223372036854775807) (hl : BytesOk l) (w : World) (hr : Rd w v l.length (bys l)) :
    Calls Try.prog 23 #[v] w fun e w' => (∃ (x : Value) (T : List Tk) (f s : Int), e = .returned (.tuple #[x, .int .i64 f, .int .i64 s]) ∧ Rd w' x T.length (T.flatMap Tk.cells) ∧ T.length ≤ 14) ∧ Below w.heap.size w w' := by
  have HB9 := Lib.hid hr
  have HL := Lib.hid hl
  obtain ⟨A0, c0, rfl, _⟩ := hr
  clear hl
  go_enter Try.func23, Try.ntmps23
  go_upto_region 2 with fail
  generalize hW : World.alloc w _ = w0
  have hc := cur_new w _ l HB9.out hn w0 (by subst hW; simp [go_sem]) (by subst hW; simp [go_sem]) (by subst hW; simp [go_sem]) (by subst hW; simp [go_sem]) (by subst hW; simp [go_sem]) (by subst hW; exact bel_al (Below.refl _ _) _)
  have hb0 : Below w.heap.size w w0 := by subst hW; exact bel_al (Below.refl _ _) _
  obtain ⟨B, hBd⟩ : ∃ B, w.heap.size = B := ⟨_, rfl⟩
  rw [hBd] at hc ⊢
  have HB0 := Lib.hid hb0
  have HBD := Lib.hid hBd
  obtain ⟨a, ha0, ha1⟩ : ∃ a : Nat, a = 0 ∧ a ≤ 0 := ⟨0, rfl, Nat.le_refl _⟩
  rw [← ha0] at hc
  have HD := Lib.hid (Drew.refl hc 0)
  have hBb : B < w0.heap.size := hc.lt
  clear hW hb0 hBd hc ha0
  go_wp2_with fail
  refine (tankers_c B l HL.out (a + 0) (by omega) _ HD.out.1).mono ?_; rintro e w9 ⟨v9, T, rfl, ho, hT, hd⟩
  have HD := Lib.hid (HD.out.trans hd)
  have HO := Lib.hid ho
  have sz9 := hd.2.size
  have szB : B < w0.heap.size := hBb
  clear hd ho
  go_wp2_with fail
  generalize hW : World.alloc w9 _ = W99
  have hq : RdI W99 (.slice (some ⟨w9.heap.size, 0, none⟩) 2 2) [-1, 100001] := by subst hW; exact rd_new w9 rfl (Nat.le_refl _) (by rw [maxLen_eq]; omega)
  have hbl : Below w9.heap.size w9 W99 := by subst hW; exact bel_al (Below.refl _ _) _
  have hBW := HD.out.1.lt
  have HD := Lib.hid (HD.out.bel hbl)
  have HO := Lib.hid (own_below HO.out hbl)
  have szW99 := hbl.size
  clear hW hbl
  refine (among_c B l HL.out (a + 300) (by omega) _ [-1, 100001] (by simp) (by simp) _ HD.out.1 hq (lit_ne hBW)).mono ?_; rintro e W100 ⟨y101, rfl, _, hd⟩
  clear hq hBW
  have HD := Lib.hid (HD.out.trans hd)
  have HO := Lib.hid (own_draw HO.out hd.2 hBb)
  have szW100 := hd.2.size
  clear hd
  go_wp2_with fail
  generalize hW : World.alloc W100 _ = W102
  have hq : RdI W102 (.slice (some ⟨W100.heap.size, 0, none⟩) 5 5) [0, 2500, 10000, 100000, y101] := by subst hW; exact rd_new W100 rfl (Nat.le_refl _) (by rw [maxLen_eq]; omega)
  have hbl : Below W100.heap.size W100 W102 := by subst hW; exact bel_al (Below.refl _ _) _
  have hBW := HD.out.1.lt
  have HD := Lib.hid (HD.out.bel hbl)
  have HO := Lib.hid (own_below HO.out hbl)
  have szW102 := hbl.size
  clear hW hbl
  refine (among_c B l HL.out (a + 302) (by omega) _ [0, 2500, 10000, 100000, y101] (by simp) (by simp) _ HD.out.1 hq (lit_ne hBW)).mono ?_; rintro e W103 ⟨y104, rfl, _, hd⟩
  clear hq hBW
  have HD := Lib.hid (HD.out.trans hd)
  have HO := Lib.hid (own_draw HO.out hd.2 hBb)
  have szW103 := hd.2.size
  clear hd
  go_wp2_with fail
  refine (takenFlow_c B l HL.out (a + 304) (by omega) _ HD.out.1).mono ?_; rintro e W106 ⟨f105, rfl, hd⟩
  have HD := Lib.hid (HD.out.trans hd)
  have HO := Lib.hid (own_draw HO.out hd.2 hBb)
  have szW106 := hd.2.size
  clear hd
  go_wp2
  have hbb : Below B w w0 := by rw [← HBD.out]; exact HB0.out
  have hfin : Below B w W106 := ⟨HD.out.2.os.trans hbb.os, HD.out.2.tape.trans hbb.tape, HD.out.2.output.trans hbb.output, Nat.le_trans hbb.size HD.out.2.size, fun i hi => (HD.out.2.block i (by omega) (fun e => by have := Option.some.inj e; omega)).trans (hbb.block i hi)⟩
  refine bodyPost_ret (v := .tuple #[v9, .int .i64 y104, .int .i64 f105]) (by simp [results, Try.results23, go_sem]) rfl ?_
  exact ⟨⟨v9, T, y104, f105, rfl, own_rd HO.out, hT⟩, by rw [HBD.out]; exact hfin⟩
set_option maxRecDepth 100000 in
set_option maxHeartbeats 4000000 in
theorem drawTankersFor_c (v : Value) (l : List Int) (hn : l.length ≤ 9223372036854775807) (hl : BytesOk l) (w : World) (hr : Rd w v l.length (bys l)) :
    Calls Try.prog 18 #[v] w fun e w' => (∃ (t : Tk) (f : Int), e = .returned (.tuple #[.agg #[.int .i64 t.l, .int .i64 t.f, .int .i64 t.d, .int .i64 t.e], .int .i64 f])) ∧ Below w.heap.size w w' := by
  have HB9 := Lib.hid hr
  have HL := Lib.hid hl
  obtain ⟨A0, c0, rfl, _⟩ := hr
  clear hl
  go_enter Try.func18, Try.ntmps18
  go_upto_region 1 with fail
  generalize hW : World.alloc w _ = W0
  have hr0 : W0.ownsRow w.heap.size 42 4 (.slice (some ⟨w.heap.size, 0, none⟩) 1 1) 1 [.int .i64 0, .int .i64 0, .int .i64 0, .int .i64 0] := by subst hW; exact row_new w _ _ 1 4 rfl (by omega) (by omega)
  have hb0 : Below w.heap.size w W0 := by subst hW; exact bel_al (Below.refl _ _) _
  have sz0 : W0.heap.size = w.heap.size + 1 := by subst hW; simp
  have HR := Lib.hid hr0
  have HB0 := Lib.hid hb0
  have HRd := Lib.hid (rd_below HB9.out hb0)
  clear hW hb0 hr0
  go_upto_region 2 with fail
  generalize hW : World.alloc W0 _ = W1
  have hc := cur_new W0 _ l HRd.out hn W1 (by subst hW; simp [go_sem]) (by subst hW; simp [go_sem]) (by subst hW; simp [go_sem]) (by subst hW; simp [go_sem]) (by subst hW; simp [go_sem]) (by subst hW; exact bel_al (Below.refl _ _) _)
  have hb1 : Below W0.heap.size W0 W1 := by subst hW; exact bel_al (Below.refl _ _) _
  have HR := Lib.hid (own_below HR.out hb1)
  have HB1 := Lib.hid (bel_then HB0.out hb1)
  obtain ⟨B, hBd⟩ : ∃ B, w.heap.size + 1 = B := ⟨_, rfl⟩
  rw [sz0, hBd] at hc
  rw [hBd]
  have hwB : w.heap.size < B := by omega
  obtain ⟨a, ha0, ha1⟩ : ∃ a : Nat, a = 0 ∧ a ≤ 0 := ⟨0, rfl, Nat.le_refl _⟩
  rw [← ha0] at hc
  have HD := Lib.hid (Drew.refl hc 0)
  clear hW hb1 hBd hc ha0
  go_wp2_with fail
  refine (tanker_c B l HL.out (a + 0) (by omega) _ HD.out.1).mono ?_; rintro e w2 ⟨⟨t1, t2, t3, t4⟩, rfl, hd⟩
  have HD := Lib.hid (HD.out.trans hd)
  clear hd
  go_wp2_with fail
  refine (takenFlow_c B l HL.out (a + 14) (by omega) _ HD.out.1).mono ?_; rintro e w3 ⟨y, rfl, hd⟩
  have HD := Lib.hid (HD.out.trans hd)
  clear hd
  have HR := Lib.hid (World.ownsRow.kept HR.out HD.out.2 (.inr (fun e => by have : B = w.heap.size := by first | exact (Option.some.inj e) | exact (Option.some.inj e).symm
                                                                            omega)))
  have r0 := HR.out.cellAt 0 (by omega)
  have r1 := HR.out.cellAt 1 (by omega)
  have r2 := HR.out.cellAt 2 (by omega)
  have r3 := HR.out.cellAt 3 (by omega)
  have f0 := HR.out.frozenAt 0
  have f1 := HR.out.frozenAt 1
  have f2 := HR.out.frozenAt 2
  have f3 := HR.out.frozenAt 3
  dsimp only [List.getElem?_cons_zero, List.getElem?_cons_succ] at r0 r1 r2 r3
  have hbw : Below w.heap.size w w3 := bel_grown HB1.out HD.out.2 (fun q e => by have := Option.some.inj e; omega)
  have HBW := Lib.hid hbw
  clear hbw
  go_wp2
  refine bodyPost_ret (v := .tuple #[.agg #[.int .i64 t1, .int .i64 t2, .int .i64 t3, .int .i64 t4], .int .i64 y]) (by simp [results, Try.results18, go_sem, r0, r1, r2, r3]) rfl ?_
  exact ⟨⟨⟨t1, t2, t3, t4⟩, y, rfl⟩, bel_grown HBW.out (only_setCell (only_setCell (only_setCell (only_setCell (World.grownBy.refl _ _) 0 _) 1 _) 2 _) 3 _) (fun q e => Nat.le_of_eq (Option.some.inj e))⟩

end Go.Proofs.Ytbjiipicbcamnaa
