/-
  The draw of choices for their text (printed by gen_drawtu.py). (joined by pack.py: DrawCt)
-/
import Derived.Test.YthgegghdkoeofaaGreatDoorK33
import Derived.Test.YthgegghdkoeofaaGreatDoorK20
namespace Go.Proofs.YthgegghdkoeofaaGreatDoor
set_option linter.unusedVariables false
set_option linter.unusedSimpArgs false
open Go.RowKit

theorem chs_snoc {L : List Ch} {t : Ch} (h : ∀ x ∈ L, x.cn.size ≤ 7) (ht : t.cn.size ≤ 7) : ∀ x ∈ L ++ [t], x.cn.size ≤ 7 := fun x hx => by
  rcases List.mem_append.1 hx with h1 | h1
  · exact h x h1
  · rw [List.mem_singleton.1 h1]; exact ht
theorem chL_small {f : List Ap} {ev L : List Int} (h : ∀ x ∈ f, x.nm.size ≤ 7) : ∀ x ∈ chL f ev L, x.cn.size ≤ 7 := fun x hx => by
  unfold chL at hx
  obtain ⟨y, _, rfl⟩ := List.mem_map.1 hx
  unfold chAt
  split
  · rename_i a ha; exact h a (List.mem_of_getElem? ha)
  · decide

set_option maxRecDepth 100000 in
set_option maxHeartbeats 4000000 in
theorem drawChoiceText_c (v : Value) (l : List Int) (hn : l.length ≤ 9223372036854775807) (hl : BytesOk l) (w : World) (hr : Rd w v l.length (bys l)) :
    Calls Tryz.prog 46 #[v] w fun e w' => (∃ (x : Value) (L : List Ch), e = .returned x ∧ Rd w' x L.length (L.flatMap Ch.cells) ∧ L.length ≤ 14 ∧ ∀ y ∈ L, y.cn.size ≤ 7) ∧ Below w.heap.size w w' := by
  have HB9 := Lib.hid hr
  have HL := Lib.hid hl
  obtain ⟨A0, c0, rfl, _⟩ := hr
  obtain ⟨i0, hi, hz0, hz1, hz2⟩ := info_parts Tryz.infoCh
  clear hl
  go_enter Tryz.func46, Tryz.ntmps46
  go_upto_region 2 with fail
  generalize hW : World.alloc w _ = w0
  have hc := cur_new w _ l HB9.out hn w0 (by subst hW; simp [go_sem]) (by subst hW; simp [go_sem]) (by subst hW; simp [go_sem]) (by subst hW; simp [go_sem]) (by subst hW; simp [go_sem]) (by subst hW; exact bel_al (Below.refl _ _) _)
  have hb0 : Below w.heap.size w w0 := by subst hW; exact bel_al (Below.refl _ _) _
  obtain ⟨B, hBd⟩ : ∃ B, w.heap.size = B := ⟨_, rfl⟩
  rw [hBd] at hc ⊢
  have HB0 := Lib.hid hb0
  have HBD := Lib.hid hBd
  obtain ⟨a, ha0, ha1⟩ : ∃ a : Nat, a = 0 ∧ a ≤ 0 := ⟨0, rfl, Nat.le_refl _⟩
  rw [← ha0] at hc
  have HD := Lib.hid (Drew.refl hc 0)
  have hBb : B < w0.heap.size := hc.lt
  clear hW hb0 hBd hc ha0
  go_wp2_with fail
  refine (turnout_c B l HL.out (a + 0) (by omega) _ HD.out.1).mono ?_; rintro e W2 ⟨n, v, L, vf, F, rfl, ho, hof, hF, hFs, hd⟩
  obtain ⟨Av, cv, rfl, -⟩ := ho.1
  obtain ⟨Af, cf, rfl, -⟩ := hof.1
  have HD := Lib.hid (HD.out.trans hd)
  have HO := Lib.hid ho
  have HFL := Lib.hid hof
  have HFS := Lib.hid hFs
  have sz2 := hd.2.size
  have HZ : Hid (∀ x ∈ F, x.nm.size ≤ 9223372036854775807) := Lib.hid (fun x hx => Nat.le_trans (HFS.out x hx) (by decide))
  clear hd ho hof hFs
  go_upto_region 3 with fail
  generalize hW : World.alloc W2 _ = W3
  have ht : W3.ownsRow w0.heap.size 47 2 (.slice (some ⟨W2.heap.size, 0, none⟩) 1 1) 1 [.int .i64 n, .slice Av L.length cv] := by subst hW; exact own_base (row_new W2 _ _ 1 2 rfl (by omega) (by omega)) (by omega)
  have hbl : Below W2.heap.size W2 W3 := by subst hW; exact bel_al (Below.refl _ _) _
  have szR : W2.heap.size < W3.heap.size := by subst hW; simp
  obtain ⟨RT, hRT⟩ : ∃ RT, W2.heap.size = RT := ⟨_, rfl⟩
  rw [hRT] at ht szR ⊢
  have HD := Lib.hid (HD.out.bel hbl)
  have HO := Lib.hid (rdb_bel HO.out hbl)
  have HFL := Lib.hid (rdb_bel HFL.out hbl)
  have HT := Lib.hid ht
  clear hW ht hbl hRT
  have t0 := HT.out.cellAt 0 (by omega)
  have t1 := HT.out.cellAt 1 (by omega)
  dsimp only [List.getElem?_cons_zero, List.getElem?_cons_succ] at t0 t1
  go_wp2_with fail
  refine (nodeOf_c B l HL.out (a + (0 + 9000)) (by omega) _ HD.out.1 n Av L.length cv).mono ?_; rintro e W4 ⟨x, rfl, hd⟩
  have HT := Lib.hid (own_draw HT.out hd.2 hBb)
  have HO := Lib.hid (rdb_gro HO.out hd.2 hBb)
  have HFL := Lib.hid (rdb_gro HFL.out hd.2 hBb)
  have HD := Lib.hid (HD.out.trans hd)
  have sz4 := hd.2.size
  clear hd t0 t1
  have t0 := HT.out.cellAt 0 (by omega)
  have t1 := HT.out.cellAt 1 (by omega)
  dsimp only [List.getElem?_cons_zero, List.getElem?_cons_succ] at t0 t1
  go_wp2_with fail
  refine (dsAsked_c n _ L _ F x _ HO.out.1 HZ.out HFL.out.1).mono ?_; rintro e W5 ⟨rfl, hb⟩
  have HT := Lib.hid (own_below HT.out hb)
  have HO := Lib.hid (rdb_bel HO.out hb)
  have HFL := Lib.hid (rdb_bel HFL.out hb)
  have HD := Lib.hid (HD.out.bel hb)
  have sz5 := hb.size
  clear hb t0 t1
  obtain ⟨ask, hask⟩ : ∃ b, askD n L F x = b := ⟨_, rfl⟩
  rw [hask]
  have HASK := Lib.hid hask
  clear hask
  go_upto_if 25 with fail
  go_cut [6] from 8 to 36 (fun v6 wx => ∃ (LC : List Ch) (A : Option Addr) (c : Nat), v6 = .slice A LC.length c ∧ LC.length ≤ 12 ∧ Hid (∀ y ∈ LC, y.cn.size ≤ 7) ∧ Hid (wx.ownsRow w0.heap.size 62 2 (.slice A LC.length c) LC.length (LC.flatMap Ch.cells)) ∧ Hid (Drew B l a 9020 w0 wx))
  case first =>
    cases ask with
    | false =>
      go_wp2_with fail
      go_meet
      exact ⟨[], none, 0, rfl, by simp, Lib.hid (by simp), Lib.hid (World.ownsRow_nil _ _ _ _), HD⟩
    | true =>
      obtain ⟨hds, hx0, hx1⟩ := askD_true HASK.out
      obtain ⟨hgt, hgf, hnd⟩ := goodDs_true hds
      have hn1 := (goodTown_true hgt).1
      obtain ⟨N, rfl⟩ := Int.eq_ofNat_of_zero_le (show 0 ≤ n by omega)
      obtain ⟨src, rfl⟩ := Int.eq_ofNat_of_zero_le hx0
      have hs : src < N := by omega
      have HGT := Lib.hid hgt
      have HGF := Lib.hid hgf
      have HND := Lib.hid hnd
      clear hds hgt hgf hnd hx0 hx1
      have t0 := HT.out.cellAt 0 (by omega)
      have t1 := HT.out.cellAt 1 (by omega)
      dsimp only [List.getElem?_cons_zero, List.getElem?_cons_succ] at t0 t1
      go_wp2_with fail
      refine (dsReady_c N _ L _ F src _ HGT.out HGF.out HND.out hs HO.out.1 HFL.out.1).mono ?_
      rintro e W6 ⟨v5, u5, rfl, hv5, hu5, hb⟩
      have HL5 := Lib.hid hv5
      have HU5 := Lib.hid hu5
      obtain ⟨hm, hll⟩ := readyTimes_mem (ev := distT N (arcs L) src) HGF.out
      have HM := Lib.hid hm
      have HFL := Lib.hid (rdb_bel HFL.out hb)
      have HD := Lib.hid (HD.out.bel hb)
      have sz6 := hb.size
      have sz60 := HD.out.2.size
      have HND2 : Hid (∀ a ∈ F, 0 ≤ a.nd ∧ a.nd ≤ ((distT N (arcs L) src).length : Int) - 1) := Lib.hid (by rw [show (distT N (arcs L) src).length = N by unfold distT; rw [iterT_len, startT_len]]; exact HND.out)
      clear hb hv5 hu5 hm t0 t1
      go_wp2_with fail
      refine (dsChoices_c _ F _ _ _ (distT N (arcs L) src) _ HM.out hll HND2.out HFL.out.1 HL5.out HU5.out).mono ?_
      rintro e W7 ⟨xx, rfl, hoc, hb⟩
      obtain ⟨Ac, cc, hxx, -, -, -⟩ := own_rd hoc
      subst hxx
      have HOC := Lib.hid (own_base hoc (show w0.heap.size ≤ W6.heap.size by omega))
      have HD := Lib.hid (HD.out.bel hb)
      have HLL := Lib.hid (show (chL F (distT N (arcs L) src) (readyL (distT N (arcs L) src) F)).length ≤ 12 by rw [chL_len]; exact hll)
      have HSM := Lib.hid (chL_small (ev := distT N (arcs L) src) (L := readyL (distT N (arcs L) src) F) HFS.out)
      clear hoc hb hll
      go_wp2_with fail
      go_meet
      exact ⟨_, Ac, cc, rfl, HLL.out, HSM, HOC, HD⟩
  case rest => as_aux_lemma =>
    obtain ⟨LC, A, c, rfl, hl12, HSM, HOW, HD⟩ := hcut
    go_wp2_with fail
    refine (pick_c B l HL.out (a + 9020) (by omega) 12 (by omega) _ HD.out.1).mono ?_; rintro e W8 ⟨k, rfl, hk, hd⟩
    have HOW := Lib.hid (own_draw HOW.out hd.2 hBb)
    have HD := Lib.hid (HD.out.trans hd)
    have sz8 := HD.out.2.size
    clear hd
    rcases (show k = 0 ∨ k = 1 ∨ 2 ≤ k by omega) with hx0 | hx0 | hx0
    · subst hx0
      go_wp2_with fail
      generalize hW : World.alloc W8 _ = Wl
      have hlit : RdS Wl (.slice (some ⟨W8.heap.size, 0, none⟩) 3 3) [⟨#[112, 49]⟩, ⟨#[]⟩, ⟨#[49, 112]⟩] := by subst hW; exact rd_new W8 rfl (Nat.le_refl _) (by rw [maxLen_eq]; omega)
      have hbl : Below W8.heap.size W8 Wl := by subst hW; exact bel_al (Below.refl _ _) _
      have hBW := HD.out.1.lt
      have HD := Lib.hid (HD.out.bel hbl)
      have HOW := Lib.hid (own_below HOW.out hbl)
      have hsl := hbl.size
      clear hW hbl
      refine (of_c B l HL.out (a + 9022) (by omega) _ [⟨#[112, 49]⟩, ⟨#[]⟩, ⟨#[49, 112]⟩] (by simp) (by simp) _ HD.out.1 hlit (lit_ne hBW)).mono ?_; rintro e Wm ⟨y, rfl, hy, hd⟩
      have hys : y.size ≤ 7 := by
        have h : ∀ z ∈ ([⟨#[112, 49]⟩, ⟨#[]⟩, ⟨#[49, 112]⟩] : List ByteArray), z.size ≤ 7 := by decide
        exact h y hy
      have HOW := Lib.hid (own_draw HOW.out hd.2 hBb)
      have HD := Lib.hid (HD.out.trans hd)
      have hsm := hd.2.size
      clear hd hlit hBW hy
      go_wp2_with fail
      generalize hW : World.alloc Wm _ = Wn
      have hq : RdI Wn (.slice (some ⟨Wm.heap.size, 0, none⟩) 4 4) [0, 36000, 36001, -1] := by subst hW; exact rd_new Wm rfl (Nat.le_refl _) (by rw [maxLen_eq]; omega)
      have hbl : Below Wm.heap.size Wm Wn := by subst hW; exact bel_al (Below.refl _ _) _
      have hBW := HD.out.1.lt
      have HD := Lib.hid (HD.out.bel hbl)
      have HOW := Lib.hid (own_below HOW.out hbl)
      have hsn := hbl.size
      clear hW hbl
      refine (among_c B l HL.out (a + 9024) (by omega) _ [0, 36000, 36001, -1] (by simp) (by simp) _ HD.out.1 hq (lit_ne hBW)).mono ?_; rintro e Wo ⟨z, rfl, _, hd⟩
      clear hq hBW
      have HOW := Lib.hid (own_draw HOW.out hd.2 hBb)
      have HD := Lib.hid (HD.out.trans hd)
      have hso := hd.2.size
      clear hd
      go_wp2_with (at_builtin; refine wpList_app_rd _ rfl _ _ 58 rfl w0.heap.size 62 i0 _ 2 24 Tryz.underlying58 hi hz0 hz1 hz2 rfl (by decide) _ _ _ rfl (HOW.out.alloc _) _ 1 [.string y, .int .i64 z] rfl (rd_new _ rfl (Nat.le_refl _) (by rw [maxLen_eq]; omega)) rfl (by intro u hu; simp at hu; rcases hu with rfl | rfl <;> rfl) (by rw [maxLen_eq]; omega) (by omega) (by simp; omega) ?_; intro v7 w7 hown7 hgrow7 _)
      obtain ⟨A7, c7, rfl, _⟩ := own_rd hown7
      have hlo := HOW.out.lt
      have hB7 := HD.out.app hgrow7 (fun q e => (hlo q e).1) hBb
      go_wp2
      go_ret
      have hbb : Below B w w0 := by rw [← HBD.out]; exact HB0.out
      have hfin : Below B w w7 := ⟨hB7.2.os.trans hbb.os, hB7.2.tape.trans hbb.tape, hB7.2.output.trans hbb.output, Nat.le_trans hbb.size hB7.2.size, fun i hi => (hB7.2.block i (by omega) (fun e => by have := Option.some.inj e; omega)).trans (hbb.block i hi)⟩
      refine ⟨⟨_, LC ++ [⟨y, z⟩], rfl, ?_, by simp; omega, chs_snoc HSM.out hys⟩, by rw [HBD.out]; exact hfin⟩
      rw [ch_flat, List.length_append]; exact own_rd hown7
    · subst hx0
      go_wp2_with fail
      refine (pick_c B l HL.out (a + (9020 + 2)) (by omega) 2 (by omega) _ HD.out.1).mono ?_; rintro e W9 ⟨y, rfl, hy, hd⟩
      have HOW := Lib.hid (own_draw HOW.out hd.2 hBb)
      have HD := Lib.hid (HD.out.trans hd)
      clear hd
      have s1 : IntKind.i64.wrap (12 + (y : Int)) = ((12 + y : Nat) : Int) := by rw [IntWalk.i64_in _ (by omega)]; omega
      obtain ⟨m, hm0⟩ : ∃ m : Nat, 12 + y = m := ⟨_, rfl⟩
      have hm : m ≤ 14 := by omega
      have hm2 : 12 ≤ m := by omega
      rw [hm0] at s1
      clear hm0
      go_wp2_with fail
      go_loopw [6] (fun v6 wr => ∃ (LC : List Ch) (A : Option Addr) (c : Nat), v6 = .slice A LC.length c ∧ LC.length ≤ m ∧ Hid (∀ y ∈ LC, y.cn.size ≤ 7) ∧ Hid (wr.ownsRow w0.heap.size 62 2 (.slice A LC.length c) LC.length (LC.flatMap Ch.cells)) ∧ Hid (Drew B l a (9020 + 2 + 2) w0 wr)) (fun v6 _ => m - lenOf v6)
      case atStart => exact ⟨LC, A, c, rfl, by omega, HSM, HOW, HD⟩
      case round =>
        obtain ⟨LC, A, c, rfl, hTn, HSM, HOW, HD⟩ := hrel
        obtain ⟨wA, rfl⟩ : ∃ wA : World, wA = wr := ⟨_, rfl⟩
        have hsA := HD.out.2.size
        by_cases hlt : LC.length < m
        · have hlt2 : (LC.length : Int) < (m : Int) := by omega
          go_wp2_with (at_builtin; refine wpList_app_rd _ rfl _ _ 58 rfl w0.heap.size 62 i0 _ 2 24 Tryz.underlying58 hi hz0 hz1 hz2 rfl (by decide) _ _ _ rfl (HOW.out.alloc _) _ 1 [.string ⟨#[112, 49]⟩, .int .i64 0] rfl (rd_new _ rfl (Nat.le_refl _) (by rw [maxLen_eq]; omega)) rfl (by intro u hu; simp at hu; rcases hu with rfl | rfl <;> rfl) (by rw [maxLen_eq]; omega) (by omega) (by simp; omega) ?_; intro v7 w7 hown7 hgrow7 _)
          obtain ⟨A7, c7, rfl, _⟩ := own_rd hown7
          have hlo := HOW.out.lt
          have hB7 := HD.out.app hgrow7 (fun q e => (hlo q e).1) hBb
          refine ⟨⟨LC ++ [⟨⟨#[112, 49]⟩, 0⟩], A7, c7, by simp, by simp; omega, Lib.hid (chs_snoc HSM.out (by decide)), Lib.hid ?_, Lib.hid hB7⟩, by simp [lenOf]; omega⟩
          rw [ch_flat, List.length_append]; exact hown7
        · have hge : (m : Int) ≤ (LC.length : Int) := by omega
          go_wp2
          go_ret
          have hbb : Below B w w0 := by rw [← HBD.out]; exact HB0.out
          have hfin : Below B w wA := ⟨HD.out.2.os.trans hbb.os, HD.out.2.tape.trans hbb.tape, HD.out.2.output.trans hbb.output, Nat.le_trans hbb.size HD.out.2.size, fun i hi => (HD.out.2.block i (by omega) (fun e => by have := Option.some.inj e; omega)).trans (hbb.block i hi)⟩
          exact ⟨⟨_, LC, rfl, own_rd HOW.out, by omega, HSM.out⟩, by rw [HBD.out]; exact hfin⟩
    · have n0 : ((k : Int) == 0) = false := beq_false_of_ne (by omega)
      have n1 : ((k : Int) == 1) = false := beq_false_of_ne (by omega)
      go_wp2
      go_ret
      have hbb : Below B w w0 := by rw [← HBD.out]; exact HB0.out
      have hfin : Below B w W8 := ⟨HD.out.2.os.trans hbb.os, HD.out.2.tape.trans hbb.tape, HD.out.2.output.trans hbb.output, Nat.le_trans hbb.size HD.out.2.size, fun i hi => (HD.out.2.block i (by omega) (fun e => by have := Option.some.inj e; omega)).trans (hbb.block i hi)⟩
      exact ⟨⟨_, LC, rfl, own_rd HOW.out, by omega, HSM.out⟩, by rw [HBD.out]; exact hfin⟩
end Go.Proofs.YthgegghdkoeofaaGreatDoor
