/-
  Draws of fleets, names, states (printed by gen_drawap.py). (joined by pack.py: DrawAp)
-/
import Derived.Test.YtgcdgcidjjdhmaaGreatDoorK31
namespace Go.Proofs.YtgcdgcidjjdhmaaGreatDoor
set_option linter.unusedVariables false
set_option linter.unusedSimpArgs false
open Go.RowKit

set_option maxRecDepth 100000 in
set_option maxHeartbeats 2000000 in
theorem stateOf_c (B : Nat) (l : List Int) (hl : BytesOk l) (a : Nat) (ha : a ≤ 4611686018427380000) (w : World) (hc : CurAt B l a w) :
    Calls Tryz.prog 27 #[.pointer (some ⟨B, 0, none⟩)] w fun e w' => ∃ y : Int, e = .returned (.int .i64 y) ∧ Drew B l a 4 w w' := by
  have HL := Lib.hid hl
  have HD := Lib.hid (Drew.refl hc 0)
  have hBb : B < w.heap.size := hc.lt
  clear hc hl
  go_enter Tryz.func27, Tryz.ntmps27
  go_wp2_with fail
  generalize hW : World.alloc w _ = W93
  have hq : RdI W93 (.slice (some ⟨w.heap.size, 0, none⟩) 2 2) [-1, 6] := by subst hW; exact rd_new w rfl (Nat.le_refl _) (by rw [maxLen_eq]; omega)
  have hbl : Below w.heap.size w W93 := by subst hW; exact bel_al (Below.refl _ _) _
  have hBW := HD.out.1.lt
  have HD := Lib.hid (HD.out.bel hbl)
  have szW93 := hbl.size
  clear hW hbl
  refine (among_c B l HL.out (a + 0) (by omega) _ [-1, 6] (by simp) (by simp) _ HD.out.1 hq (lit_ne hBW)).mono ?_; rintro e W94 ⟨y95, rfl, _, hd⟩
  clear hq hBW
  have HD := Lib.hid (HD.out.trans hd)
  have szW94 := hd.2.size
  clear hd
  go_wp2_with fail
  generalize hW : World.alloc W94 _ = W96
  have hq : RdI W96 (.slice (some ⟨W94.heap.size, 0, none⟩) 7 7) [0, 1, 2, 3, 4, 5, y95] := by subst hW; exact rd_new W94 rfl (Nat.le_refl _) (by rw [maxLen_eq]; omega)
  have hbl : Below W94.heap.size W94 W96 := by subst hW; exact bel_al (Below.refl _ _) _
  have hBW := HD.out.1.lt
  have HD := Lib.hid (HD.out.bel hbl)
  have szW96 := hbl.size
  clear hW hbl
  refine (among_c B l HL.out (a + 2) (by omega) _ [0, 1, 2, 3, 4, 5, y95] (by simp) (by simp) _ HD.out.1 hq (lit_ne hBW)).mono ?_; rintro e W97 ⟨y98, rfl, _, hd⟩
  clear hq hBW
  have HD := Lib.hid (HD.out.trans hd)
  have szW97 := hd.2.size
  clear hd
  go_wp2
  go_ret
  exact ⟨y98, rfl, HD.out⟩
set_option maxRecDepth 100000 in
set_option maxHeartbeats 4000000 in
theorem drawChangeState_c (v : Value) (l : List Int) (hn : l.length ≤ 9223372036854775807) (hl : BytesOk l) (w : World) (hr : Rd w v l.length (bys l)) :
    Calls Tryz.prog 5 #[v] w fun e w' => (∃ (x : Value) (T : List Ap) (nm : ByteArray) (st : Int), e = .returned (.tuple #[x, .string nm, .int .i64 st]) ∧ Rd w' x T.length (T.flatMap Ap.cells) ∧ T.length ≤ 13 ∧ (∀ y ∈ T, y.nm.size ≤ 7) ∧ nm.size ≤ 7) ∧ Below w.heap.size w w' := by
  have HB9 := Lib.hid hr
  have HL := Lib.hid hl
  obtain ⟨A0, c0, rfl, _⟩ := hr
  clear hl
  go_enter Tryz.func5, Tryz.ntmps5
  go_upto_region 2 with fail
  generalize hW : World.alloc w _ = w0
  have hc := cur_new w _ l HB9.out hn w0 (by subst hW; simp [go_sem]) (by subst hW; simp [go_sem]) (by subst hW; simp [go_sem]) (by subst hW; simp [go_sem]) (by subst hW; simp [go_sem]) (by subst hW; exact bel_al (Below.refl _ _) _)
  have hb0 : Below w.heap.size w w0 := by subst hW; exact bel_al (Below.refl _ _) _
  obtain ⟨B, hBd⟩ : ∃ B, w.heap.size = B := ⟨_, rfl⟩
  rw [hBd] at hc ⊢
  have HB0 := Lib.hid hb0
  have HBD := Lib.hid hBd
  obtain ⟨a, ha0, ha1⟩ : ∃ a : Nat, a = 0 ∧ a ≤ 0 := ⟨0, rfl, Nat.le_refl _⟩
  rw [← ha0] at hc
  have HD := Lib.hid (Drew.refl hc 0)
  have hBb : B < w0.heap.size := hc.lt
  clear hW hb0 hBd hc ha0
  go_wp2_with fail
  refine (anyFleet_c B l HL.out (a + 0) (by omega) _ HD.out.1 4 (by omega)).mono ?_; rintro e w9 ⟨v9, T, rfl, ho, hT, hTs, hd⟩
  obtain ⟨A9, c9, rfl, -⟩ := own_rd ho
  have HD := Lib.hid (HD.out.trans hd)
  have HO := Lib.hid ho
  have HTS := Lib.hid hTs
  have sz9 := hd.2.size
  clear hd ho hTs
  go_wp2_with fail
  refine (nameIn_c B l HL.out (a + 320) (by omega) _ HD.out.1 w0.heap.size _ T (rdb_own HO.out) hBb HTS.out (by omega)).mono ?_; rintro e W99 ⟨s100, rfl, hs100, hd⟩
  have HD := Lib.hid (HD.out.trans hd)
  have HO := Lib.hid (own_draw HO.out hd.2 hBb)
  have szW99 := hd.2.size
  clear hd
  go_wp2_with fail
  refine (stateOf_c B l HL.out (a + 326) (by omega) _ HD.out.1).mono ?_; rintro e W102 ⟨f101, rfl, hd⟩
  have HD := Lib.hid (HD.out.trans hd)
  have HO := Lib.hid (own_draw HO.out hd.2 hBb)
  have szW102 := hd.2.size
  clear hd
  go_wp2
  have hbb : Below B w w0 := by rw [← HBD.out]; exact HB0.out
  have hfin : Below B w W102 := ⟨HD.out.2.os.trans hbb.os, HD.out.2.tape.trans hbb.tape, HD.out.2.output.trans hbb.output, Nat.le_trans hbb.size HD.out.2.size, fun i hi => (HD.out.2.block i (by omega) (fun e => by have := Option.some.inj e; omega)).trans (hbb.block i hi)⟩
  refine bodyPost_ret (v := .tuple #[.slice A9 T.length c9, .string s100, .int .i64 f101]) (by simp [results, Tryz.results5, go_sem]) rfl ?_
  exact ⟨⟨_, T, s100, f101, rfl, own_rd HO.out, hT, HTS.out, hs100⟩, by rw [HBD.out]; exact hfin⟩
set_option maxRecDepth 100000 in
set_option maxHeartbeats 4000000 in
theorem drawMoveAppliance_c (v : Value) (l : List Int) (hn : l.length ≤ 9223372036854775807) (hl : BytesOk l) (w : World) (hr : Rd w v l.length (bys l)) :
    Calls Tryz.prog 13 #[v] w fun e w' => (∃ (x : Value) (T : List Ap) (nm : ByteArray) (st : Int), e = .returned (.tuple #[x, .string nm, .int .i64 st]) ∧ Rd w' x T.length (T.flatMap Ap.cells) ∧ T.length ≤ 13 ∧ (∀ y ∈ T, y.nm.size ≤ 7) ∧ nm.size ≤ 7) ∧ Below w.heap.size w w' := by
  have HB9 := Lib.hid hr
  have HL := Lib.hid hl
  obtain ⟨A0, c0, rfl, _⟩ := hr
  clear hl
  go_enter Tryz.func13, Tryz.ntmps13
  go_upto_region 2 with fail
  generalize hW : World.alloc w _ = w0
  have hc := cur_new w _ l HB9.out hn w0 (by subst hW; simp [go_sem]) (by subst hW; simp [go_sem]) (by subst hW; simp [go_sem]) (by subst hW; simp [go_sem]) (by subst hW; simp [go_sem]) (by subst hW; exact bel_al (Below.refl _ _) _)
  have hb0 : Below w.heap.size w w0 := by subst hW; exact bel_al (Below.refl _ _) _
  obtain ⟨B, hBd⟩ : ∃ B, w.heap.size = B := ⟨_, rfl⟩
  rw [hBd] at hc ⊢
  have HB0 := Lib.hid hb0
  have HBD := Lib.hid hBd
  obtain ⟨a, ha0, ha1⟩ : ∃ a : Nat, a = 0 ∧ a ≤ 0 := ⟨0, rfl, Nat.le_refl _⟩
  rw [← ha0] at hc
  have HD := Lib.hid (Drew.refl hc 0)
  have hBb : B < w0.heap.size := hc.lt
  clear hW hb0 hBd hc ha0
  go_wp2_with fail
  refine (anyFleet_c B l HL.out (a + 0) (by omega) _ HD.out.1 4 (by omega)).mono ?_; rintro e w9 ⟨v9, T, rfl, ho, hT, hTs, hd⟩
  obtain ⟨A9, c9, rfl, -⟩ := own_rd ho
  have HD := Lib.hid (HD.out.trans hd)
  have HO := Lib.hid ho
  have HTS := Lib.hid hTs
  have sz9 := hd.2.size
  clear hd ho hTs
  go_wp2_with fail
  refine (nameIn_c B l HL.out (a + 320) (by omega) _ HD.out.1 w0.heap.size _ T (rdb_own HO.out) hBb HTS.out (by omega)).mono ?_; rintro e W103 ⟨s104, rfl, hs104, hd⟩
  have HD := Lib.hid (HD.out.trans hd)
  have HO := Lib.hid (own_draw HO.out hd.2 hBb)
  have szW103 := hd.2.size
  clear hd
  go_wp2_with fail
  generalize hW : World.alloc W103 _ = W105
  have hq : RdI W105 (.slice (some ⟨W103.heap.size, 0, none⟩) 2 2) [-1, 14] := by subst hW; exact rd_new W103 rfl (Nat.le_refl _) (by rw [maxLen_eq]; omega)
  have hbl : Below W103.heap.size W103 W105 := by subst hW; exact bel_al (Below.refl _ _) _
  have hBW := HD.out.1.lt
  have HD := Lib.hid (HD.out.bel hbl)
  have HO := Lib.hid (own_below HO.out hbl)
  have szW105 := hbl.size
  clear hW hbl
  refine (among_c B l HL.out (a + 326) (by omega) _ [-1, 14] (by simp) (by simp) _ HD.out.1 hq (lit_ne hBW)).mono ?_; rintro e W106 ⟨y107, rfl, _, hd⟩
  clear hq hBW
  have HD := Lib.hid (HD.out.trans hd)
  have HO := Lib.hid (own_draw HO.out hd.2 hBb)
  have szW106 := hd.2.size
  clear hd
  go_wp2_with fail
  generalize hW : World.alloc W106 _ = W108
  have hq : RdI W108 (.slice (some ⟨W106.heap.size, 0, none⟩) 5 5) [0, 1, 2, 13, y107] := by subst hW; exact rd_new W106 rfl (Nat.le_refl _) (by rw [maxLen_eq]; omega)
  have hbl : Below W106.heap.size W106 W108 := by subst hW; exact bel_al (Below.refl _ _) _
  have hBW := HD.out.1.lt
  have HD := Lib.hid (HD.out.bel hbl)
  have HO := Lib.hid (own_below HO.out hbl)
  have szW108 := hbl.size
  clear hW hbl
  refine (among_c B l HL.out (a + 328) (by omega) _ [0, 1, 2, 13, y107] (by simp) (by simp) _ HD.out.1 hq (lit_ne hBW)).mono ?_; rintro e W109 ⟨y110, rfl, _, hd⟩
  clear hq hBW
  have HD := Lib.hid (HD.out.trans hd)
  have HO := Lib.hid (own_draw HO.out hd.2 hBb)
  have szW109 := hd.2.size
  clear hd
  go_wp2
  have hbb : Below B w w0 := by rw [← HBD.out]; exact HB0.out
  have hfin : Below B w W109 := ⟨HD.out.2.os.trans hbb.os, HD.out.2.tape.trans hbb.tape, HD.out.2.output.trans hbb.output, Nat.le_trans hbb.size HD.out.2.size, fun i hi => (HD.out.2.block i (by omega) (fun e => by have := Option.some.inj e; omega)).trans (hbb.block i hi)⟩
  refine bodyPost_ret (v := .tuple #[.slice A9 T.length c9, .string s104, .int .i64 y110]) (by simp [results, Tryz.results13, go_sem]) rfl ?_
  exact ⟨⟨_, T, s104, y110, rfl, own_rd HO.out, hT, HTS.out, hs104⟩, by rw [HBD.out]; exact hfin⟩
set_option maxRecDepth 100000 in
set_option maxHeartbeats 4000000 in
theorem drawShareCrew_c (v : Value) (l : List Int) (hn : l.length ≤ 9223372036854775807) (hl : BytesOk l) (w : World) (hr : Rd w v l.length (bys l)) :
    Calls Tryz.prog 16 #[v] w fun e w' => (∃ (x : Value) (T : List Ap) (nm nm2 : ByteArray) (st : Int), e = .returned (.tuple #[x, .string nm, .string nm2, .int .i64 st]) ∧ Rd w' x T.length (T.flatMap Ap.cells) ∧ T.length ≤ 13 ∧ (∀ y ∈ T, y.nm.size ≤ 7) ∧ nm.size ≤ 7 ∧ nm2.size ≤ 7) ∧ Below w.heap.size w w' := by
  have HB9 := Lib.hid hr
  have HL := Lib.hid hl
  obtain ⟨A0, c0, rfl, _⟩ := hr
  clear hl
  go_enter Tryz.func16, Tryz.ntmps16
  go_upto_region 2 with fail
  generalize hW : World.alloc w _ = w0
  have hc := cur_new w _ l HB9.out hn w0 (by subst hW; simp [go_sem]) (by subst hW; simp [go_sem]) (by subst hW; simp [go_sem]) (by subst hW; simp [go_sem]) (by subst hW; simp [go_sem]) (by subst hW; exact bel_al (Below.refl _ _) _)
  have hb0 : Below w.heap.size w w0 := by subst hW; exact bel_al (Below.refl _ _) _
  obtain ⟨B, hBd⟩ : ∃ B, w.heap.size = B := ⟨_, rfl⟩
  rw [hBd] at hc ⊢
  have HB0 := Lib.hid hb0
  have HBD := Lib.hid hBd
  obtain ⟨a, ha0, ha1⟩ : ∃ a : Nat, a = 0 ∧ a ≤ 0 := ⟨0, rfl, Nat.le_refl _⟩
  rw [← ha0] at hc
  have HD := Lib.hid (Drew.refl hc 0)
  have hBb : B < w0.heap.size := hc.lt
  clear hW hb0 hBd hc ha0
  go_wp2_with fail
  refine (anyFleet_c B l HL.out (a + 0) (by omega) _ HD.out.1 2 (by omega)).mono ?_; rintro e w9 ⟨v9, T, rfl, ho, hT, hTs, hd⟩
  obtain ⟨A9, c9, rfl, -⟩ := own_rd ho
  have HD := Lib.hid (HD.out.trans hd)
  have HO := Lib.hid ho
  have HTS := Lib.hid hTs
  have sz9 := hd.2.size
  clear hd ho hTs
  go_wp2_with fail
  refine (nameIn_c B l HL.out (a + 320) (by omega) _ HD.out.1 w0.heap.size _ T (rdb_own HO.out) hBb HTS.out (by omega)).mono ?_; rintro e W111 ⟨s112, rfl, hs112, hd⟩
  have HD := Lib.hid (HD.out.trans hd)
  have HO := Lib.hid (own_draw HO.out hd.2 hBb)
  have szW111 := hd.2.size
  clear hd
  go_wp2_with fail
  refine (nameIn_c B l HL.out (a + 326) (by omega) _ HD.out.1 w0.heap.size _ T (rdb_own HO.out) hBb HTS.out (by omega)).mono ?_; rintro e W113 ⟨s114, rfl, hs114, hd⟩
  have HD := Lib.hid (HD.out.trans hd)
  have HO := Lib.hid (own_draw HO.out hd.2 hBb)
  have szW113 := hd.2.size
  clear hd
  go_wp2_with fail
  generalize hW : World.alloc W113 _ = W115
  have hq : RdI W115 (.slice (some ⟨W113.heap.size, 0, none⟩) 2 2) [0, 9] := by subst hW; exact rd_new W113 rfl (Nat.le_refl _) (by rw [maxLen_eq]; omega)
  have hbl : Below W113.heap.size W113 W115 := by subst hW; exact bel_al (Below.refl _ _) _
  have hBW := HD.out.1.lt
  have HD := Lib.hid (HD.out.bel hbl)
  have HO := Lib.hid (own_below HO.out hbl)
  have szW115 := hbl.size
  clear hW hbl
  refine (among_c B l HL.out (a + 332) (by omega) _ [0, 9] (by simp) (by simp) _ HD.out.1 hq (lit_ne hBW)).mono ?_; rintro e W116 ⟨y117, rfl, _, hd⟩
  clear hq hBW
  have HD := Lib.hid (HD.out.trans hd)
  have HO := Lib.hid (own_draw HO.out hd.2 hBb)
  have szW116 := hd.2.size
  clear hd
  go_wp2_with fail
  generalize hW : World.alloc W116 _ = W118
  have hq : RdI W118 (.slice (some ⟨W116.heap.size, 0, none⟩) 6 6) [1, 1, 2, 3, 8, y117] := by subst hW; exact rd_new W116 rfl (Nat.le_refl _) (by rw [maxLen_eq]; omega)
  have hbl : Below W116.heap.size W116 W118 := by subst hW; exact bel_al (Below.refl _ _) _
  have hBW := HD.out.1.lt
  have HD := Lib.hid (HD.out.bel hbl)
  have HO := Lib.hid (own_below HO.out hbl)
  have szW118 := hbl.size
  clear hW hbl
  refine (among_c B l HL.out (a + 334) (by omega) _ [1, 1, 2, 3, 8, y117] (by simp) (by simp) _ HD.out.1 hq (lit_ne hBW)).mono ?_; rintro e W119 ⟨y120, rfl, _, hd⟩
  clear hq hBW
  have HD := Lib.hid (HD.out.trans hd)
  have HO := Lib.hid (own_draw HO.out hd.2 hBb)
  have szW119 := hd.2.size
  clear hd
  go_wp2
  have hbb : Below B w w0 := by rw [← HBD.out]; exact HB0.out
  have hfin : Below B w W119 := ⟨HD.out.2.os.trans hbb.os, HD.out.2.tape.trans hbb.tape, HD.out.2.output.trans hbb.output, Nat.le_trans hbb.size HD.out.2.size, fun i hi => (HD.out.2.block i (by omega) (fun e => by have := Option.some.inj e; omega)).trans (hbb.block i hi)⟩
  refine bodyPost_ret (v := .tuple #[.slice A9 T.length c9, .string s112, .string s114, .int .i64 y120]) (by simp [results, Tryz.results16, go_sem]) rfl ?_
  exact ⟨⟨_, T, s112, s114, y120, rfl, own_rd HO.out, hT, HTS.out, hs112, hs114⟩, by rw [HBD.out]; exact hfin⟩
set_option maxRecDepth 100000 in
set_option maxHeartbeats 4000000 in
theorem drawIsFleet_c (v : Value) (l : List Int) (hn : l.length ≤ 9223372036854775807) (hl : BytesOk l) (w : World) (hr : Rd w v l.length (bys l)) :
    Calls Tryz.prog 43 #[v] w fun e w' => (∃ (x : Value) (T : List Ap), e = .returned x ∧ Rd w' x T.length (T.flatMap Ap.cells) ∧ T.length ≤ 13 ∧ (∀ y ∈ T, y.nm.size ≤ 7)) ∧ Below w.heap.size w w' := by
  have HB9 := Lib.hid hr
  have HL := Lib.hid hl
  obtain ⟨A0, c0, rfl, _⟩ := hr
  clear hl
  go_enter Tryz.func43, Tryz.ntmps43
  go_upto_region 2 with fail
  generalize hW : World.alloc w _ = w0
  have hc := cur_new w _ l HB9.out hn w0 (by subst hW; simp [go_sem]) (by subst hW; simp [go_sem]) (by subst hW; simp [go_sem]) (by subst hW; simp [go_sem]) (by subst hW; simp [go_sem]) (by subst hW; exact bel_al (Below.refl _ _) _)
  have hb0 : Below w.heap.size w w0 := by subst hW; exact bel_al (Below.refl _ _) _
  obtain ⟨B, hBd⟩ : ∃ B, w.heap.size = B := ⟨_, rfl⟩
  rw [hBd] at hc ⊢
  have HB0 := Lib.hid hb0
  have HBD := Lib.hid hBd
  obtain ⟨a, ha0, ha1⟩ : ∃ a : Nat, a = 0 ∧ a ≤ 0 := ⟨0, rfl, Nat.le_refl _⟩
  rw [← ha0] at hc
  have HD := Lib.hid (Drew.refl hc 0)
  have hBb : B < w0.heap.size := hc.lt
  clear hW hb0 hBd hc ha0
  go_wp2_with fail
  refine (anyFleet_c B l HL.out (a + 0) (by omega) _ HD.out.1 4 (by omega)).mono ?_; rintro e w9 ⟨v9, T, rfl, ho, hT, hTs, hd⟩
  obtain ⟨A9, c9, rfl, -⟩ := own_rd ho
  have HD := Lib.hid (HD.out.trans hd)
  have HO := Lib.hid ho
  have HTS := Lib.hid hTs
  have sz9 := hd.2.size
  clear hd ho hTs
  go_wp2
  go_ret
  have hbb : Below B w w0 := by rw [← HBD.out]; exact HB0.out
  have hfin : Below B w w9 := ⟨HD.out.2.os.trans hbb.os, HD.out.2.tape.trans hbb.tape, HD.out.2.output.trans hbb.output, Nat.le_trans hbb.size HD.out.2.size, fun i hi => (HD.out.2.block i (by omega) (fun e => by have := Option.some.inj e; omega)).trans (hbb.block i hi)⟩
  exact ⟨⟨_, T, rfl, own_rd HO.out, hT, HTS.out⟩, by rw [HBD.out]; exact hfin⟩
theorem drawFleetText_c (v : Value) (l : List Int) (hn : l.length ≤ 9223372036854775807) (hl : BytesOk l) (w : World) (hr : Rd w v l.length (bys l)) :
    Calls Tryz.prog 19 #[v] w fun e w' => (∃ (x : Value) (T : List Ap), e = .returned x ∧ Rd w' x T.length (T.flatMap Ap.cells) ∧ T.length ≤ 13 ∧ (∀ y ∈ T, y.nm.size ≤ 7)) ∧ Below w.heap.size w w' := by
  have HB9 := Lib.hid hr
  have HL := Lib.hid hl
  clear hr hl
  go_enter Tryz.func19, Tryz.ntmps19
  go_wp2_with fail
  refine (drawIsFleet_c v l hn HL.out _ HB9.out).mono ?_; rintro e w1 ⟨⟨x, T, rfl, hr, hT, hs⟩, hb⟩
  have HR := Lib.hid hr
  have HB := Lib.hid hb
  have HS := Lib.hid hs
  clear hr hb hs
  go_wp2
  go_ret
  exact ⟨⟨x, T, rfl, HR.out, hT, HS.out⟩, HB.out⟩

end Go.Proofs.YtgcdgcidjjdhmaaGreatDoor
