/-
  Ladders: the program's table of points, made.
-/
import Derived.Test.YtibkadkodblefaaDoorLadA
import Derived.Test.YtibkadkodblefaaDoorLadM
import Derived.Laws.Rows
namespace Go.Proofs.YtibkadkodblefaaDoor
open Go.RowKit Go.Maps

theorem bel_gb {a b : World} (hb : Below a.heap.size a b) : a.grownBy b none := ⟨hb.os, hb.tape, hb.output, hb.size, fun k hk _ => hb.block k hk⟩
theorem zero_int (W : World) : (zeroValue 3).run Tryd.prog W = .ok (.int .i64 0) W := by
  simp [Tryd.zeroValue3]
/-- The table of points: a map of the call's own. -/
def OwnP (F : Pts) (w : World) (e : Ending) (w' : World) : Prop :=
  ∃ B n D, e = .returned (.map (some B)) ∧ w.heap.size ≤ B ∧ n ≤ 1000000 ∧ w'.ownsMap Tryd.prog 76 (plainElem (H := Unit) Tryd.prog 3) B n D ∧ PtsD D F ∧ Below w.heap.size w w'
theorem ptAng_succ (b o : Int) (a k : Nat) (F : Pts) : (List.range (k + 1)).foldl (ptLen b o a) F = ptLen b o a ((List.range k).foldl (ptLen b o a) F) k := by
  rw [List.range_succ, List.foldl_append]; rfl
theorem ptAll_succ (b o : Int) (L s k : Nat) : (List.range (k + 1)).foldl (fun F i => ptAng b o L F (s + i)) (fun _ _ => 0) = ptAng b o L ((List.range k).foldl (fun F i => ptAng b o L F (s + i)) (fun _ _ => 0)) (s + k) := by
  rw [List.range_succ, List.foldl_append]; rfl
theorem ptFour_succ {v : Int} {l : List (Int × Int)} {j : Nat} {c : Int × Int} {F : Pts} (h : l[j]? = some c) : (l.take (j + 1)).foldl (ptStep v) F = ptStep v ((l.take j).foldl (ptStep v) F) c := by
  rw [take_succ_of h, List.foldl_append]; rfl
def pairC (c : Int × Int) : List Value := [.int .i64 c.1, .int .i64 c.2]
theorem pairC_len (c : Int × Int) : (pairC c).length = 2 := rfl

set_option maxRecDepth 100000 in
set_option maxHeartbeats 4000000 in
theorem reach_c (b o : Int) (L s m : Nat) (w : World) (hb : 0 ≤ b ∧ b ≤ 40) (hL : L ≤ 600) (ho : 20 ≤ o ∧ o ≤ 400) (hs : s ≤ m) (hm : m ≤ 85) (ht : SinTab w) :
    Calls Tryd.prog 61 #[ldV b L o s m] w (OwnP (ptAll b o L s m) w) := by
  have hmm := @run_makeMap Tryd.prog
  have HT := Lib.hid ht
  clear ht
  go_enter Tryd.func61, Tryd.ntmps61
  go_wp2_with fail
  (generalize hw1 : World.alloc w _ = w1; have k0 : w1.cell? ⟨w.heap.size, 0, none⟩ = some (.int .i64 b) := (by subst hw1; simp [go_sem]); have k1 : w1.cell? ⟨w.heap.size, 1, none⟩ = some (.int .i64 L) := (by subst hw1; simp [go_sem]); have k2 : w1.cell? ⟨w.heap.size, 2, none⟩ = some (.int .i64 o) := (by subst hw1; simp [go_sem]); have k3 : w1.cell? ⟨w.heap.size, 3, none⟩ = some (.int .i64 s) := (by subst hw1; simp [go_sem]); have k4 : w1.cell? ⟨w.heap.size, 4, none⟩ = some (.int .i64 m) := (by subst hw1; simp [go_sem]); have hb0 : Below w.heap.size w w1 := (by subst hw1; exact bel_al (Below.refl _ _) _); have hsz1 : w.heap.size < w1.heap.size := (by subst hw1; simp); clear hw1)
  have HB0 := Lib.hid hb0
  refine (sines_c _ (sinTab_below HT.out hb0)).mono ?_; rintro e wS ⟨v, rfl, ho3, hb1⟩
  have j0 := (hb1.cell (p := ⟨w.heap.size, 0, none⟩) (by show w.heap.size < _; omega)).trans k0
  have j1 := (hb1.cell (p := ⟨w.heap.size, 1, none⟩) (by show w.heap.size < _; omega)).trans k1
  have j2 := (hb1.cell (p := ⟨w.heap.size, 2, none⟩) (by show w.heap.size < _; omega)).trans k2
  have j3 := (hb1.cell (p := ⟨w.heap.size, 3, none⟩) (by show w.heap.size < _; omega)).trans k3
  have j4 := (hb1.cell (p := ⟨w.heap.size, 4, none⟩) (by show w.heap.size < _; omega)).trans k4
  have hsS : w.heap.size < wS.heap.size := Nat.lt_of_lt_of_le hsz1 hb1.size
  have HBS := Lib.hid (bel_then HB0.out hb1)
  have HV := Lib.hid (rdi_own ho3)
  clear hb1 ho3 k0 k1 k2 k3 k4 hb0 hsz1 HT HB0
  go_wp2_with fail
  generalize hW : World.alloc wS _ = wM
  have hmap : Hid (wM.ownsMap Tryd.prog 76 (plainElem (H := Unit) Tryd.prog 3) wS.heap.size 0 (.map [])) := Lib.hid (by subst hW; exact World.ownsMap_made _ _ _ _)
  have hbm : Hid (Below wS.heap.size wS wM) := Lib.hid (by subst hW; exact bel_al (Below.refl _ _) _)
  have hzm : wS.heap.size < wM.heap.size := by subst hW; simp
  clear hW
  have r3 := (hbm.out.cell (p := ⟨w.heap.size, 3, none⟩) (by show w.heap.size < _; omega)).trans j3
  go_wp2_with fail
  clear r3
  go_loopw [5] (fun v5 wr => ∃ (i n : Nat) (F : Pts) (D : DataW Unit), i ≤ m + 1 - s ∧ n ≤ 2404 * i ∧ v5 = .int .i64 ((s : Int) + (i : Int)) ∧ Hid ((List.range i).foldl (fun F i => ptAng b o L F (s + i)) (fun _ _ => 0) = F) ∧ Hid (PtsD D F) ∧ Hid (wr.ownsMap Tryd.prog 76 (plainElem (H := Unit) Tryd.prog 3) wS.heap.size n D) ∧ Hid (Below wS.heap.size wS wr) ∧ wS.heap.size < wr.heap.size) (fun v5 _ => m + 1 - (intOf v5).toNat)
  case atStart => exact ⟨0, 0, _, .map [], Nat.zero_le _, Nat.zero_le _, rfl, Lib.hid rfl, Lib.hid ptsD_nil, hmap, hbm, hzm⟩
  case round =>
   obtain ⟨i, n, F, D, hi, hn, rfl, HF, HD, HM, HB, hz⟩ := hrel
   obtain ⟨wA, rfl⟩ : ∃ wA : World, wA = wr := ⟨_, rfl⟩
   have r1 := (HB.out.cell (p := ⟨w.heap.size, 1, none⟩) (by show w.heap.size < _; omega)).trans j1
   have r4 := (HB.out.cell (p := ⟨w.heap.size, 4, none⟩) (by show w.heap.size < _; omega)).trans j4
   by_cases hlt : i < m + 1 - s
   · have hle : (s : Int) + (i : Int) ≤ (m : Int) := by omega
     have hL1 : IntKind.i64.wrap ((L : Int) + 1) = (L : Int) + 1 := IntWalk.i64_in _ (by omega)
     go_wp2_with fail
     clear r1 r4 hL1
     go_loopw [24] (fun v24 wr => ∃ (k n2 : Nat) (G : Pts) (D2 : DataW Unit), k ≤ L + 1 ∧ n2 ≤ 2404 * i + 4 * k ∧ v24 = .int .i64 k ∧ Hid ((List.range k).foldl (ptLen b o (s + i)) F = G) ∧ Hid (PtsD D2 G) ∧ Hid (wr.ownsMap Tryd.prog 76 (plainElem (H := Unit) Tryd.prog 3) wS.heap.size n2 D2) ∧ Hid (Below wS.heap.size wS wr) ∧ wS.heap.size < wr.heap.size) (fun v24 _ => L + 1 - (intOf v24).toNat)
     case atStart => exact ⟨0, n, F, D, Nat.zero_le _, by omega, rfl, Lib.hid rfl, HD, HM, HB, hz⟩
     case round =>
      obtain ⟨k, n2, G, D2, hk, hn2, rfl, HG, HD2, HM2, HB2, hz2⟩ := hrel
      obtain ⟨wB, rfl⟩ : ∃ wB : World, wB = wr := ⟨_, rfl⟩
      by_cases hkl : k < L + 1
      · have r0 := (HB2.out.cell (p := ⟨w.heap.size, 0, none⟩) (by show w.heap.size < _; omega)).trans j0
        have r1 := (HB2.out.cell (p := ⟨w.heap.size, 1, none⟩) (by show w.heap.size < _; omega)).trans j1
        have r2 := (HB2.out.cell (p := ⟨w.heap.size, 2, none⟩) (by show w.heap.size < _; omega)).trans j2
        have r3 := (HB2.out.cell (p := ⟨w.heap.size, 3, none⟩) (by show w.heap.size < _; omega)).trans j3
        have r4 := (HB2.out.cell (p := ⟨w.heap.size, 4, none⟩) (by show w.heap.size < _; omega)).trans j4
        have hkL : (k : Int) < (L : Int) + 1 := by omega
        go_wp2_with fail
        have hcast : ((s + i : Nat) : Int) = (s : Int) + (i : Int) := by omega
        have htip := tip_c b L o s m _ (s + i) k _ (rdi_below HV.out HB2.out) hb (by omega) (by omega)
        rw [hcast] at htip
        refine htip.mono ?_; rintro e wC ⟨rfl, hb3⟩
        clear htip
        have x2 := (hb3.cell (p := ⟨w.heap.size, 2, none⟩) (by show w.heap.size < _; omega)).trans r2
        have HB3 := Lib.hid (HB2.out.trans (hb3.mono (by omega)))
        have HM3 := Lib.hid (HM2.out.kept (row := none) (bel_gb hb3) (by simp))
        have hz3 : wS.heap.size < wC.heap.size := Nat.lt_of_lt_of_le hz2 hb3.size
        have hkk : k ≤ 600 := by omega
        obtain ⟨X, hX⟩ : ∃ X, tipL k (sn (90 - (s + i))) = X := ⟨_, rfl⟩
        obtain ⟨Y, hY⟩ : ∃ Y, b + tipL k (sn (s + i)) = Y := ⟨_, rfl⟩
        have t1 := tipL_bd (n := k) (s := sn (90 - (s + i))) (sn_bd (by omega)).1 (sn_bd (by omega)).2 hkk
        have t2 := tipL_bd (n := k) (s := sn (s + i)) (sn_bd (by omega)).1 (sn_bd (by omega)).2 hkk
        rw [hX] at t1
        have t3 : 0 ≤ Y ∧ Y ≤ 640 := by omega
        rw [hX, hY]
        have HXX := Lib.hid hX
        have HYY := Lib.hid hY
        clear hX hY t2 hb3 r0 r1 r2 r3 r4
        by_cases hxo : X ≤ o
        · have eX : IntKind.i64.wrap (X - 1) = X - 1 := IntWalk.i64_in _ (by omega)
          have eY : IntKind.i64.wrap (Y - 1) = Y - 1 := IntWalk.i64_in _ (by omega)
          have HG2 : Hid ((List.range (k + 1)).foldl (ptLen b o (s + i)) F = (fourC X Y).foldl (ptStep ((s : Int) + (i : Int) + 1)) G) := Lib.hid (by
            rw [ptAng_succ, HG.out]; unfold ptLen; rw [HXX.out, HYY.out, if_pos hxo, hcast])
          go_wp2_with fail
          generalize hW : World.alloc wC _ = wD
          have HR4 : Hid (wD.ownsRow wC.heap.size 76 2 (.slice (some ⟨wC.heap.size, 0, none⟩) 4 4) 4 ((fourC X Y).flatMap pairC)) := Lib.hid (by
            subst hW
            exact World.ownsRow_lit (size := 2) wC #[.int .i64 X, .int .i64 Y, .int .i64 (X - 1), .int .i64 Y, .int .i64 X, .int .i64 (Y - 1), .int .i64 (X - 1), .int .i64 (Y - 1)] 4 (Nat.le_refl _) (by rw [maxLen_eq]; omega) rfl)
          have HM4 : Hid (wD.ownsMap Tryd.prog 76 (plainElem (H := Unit) Tryd.prog 3) wS.heap.size n2 D2) := Lib.hid (by subst hW; exact HM3.out.alloc _)
          have HB4 : Hid (Below wS.heap.size wS wD) := Lib.hid (by subst hW; exact bel_al HB3.out _)
          have hz4 : wC.heap.size < wD.heap.size := by subst hW; simp
          clear hW eX eY x2
          go_loopw [57] (fun v57 wr => ∃ (j n3 : Nat) (G3 : Pts) (D3 : DataW Unit), j ≤ 4 ∧ n3 ≤ 2404 * i + 4 * k + j ∧ v57 = .int .i64 j ∧ Hid (((fourC X Y).take j).foldl (ptStep ((s : Int) + (i : Int) + 1)) G = G3) ∧ Hid (PtsD D3 G3) ∧ Hid (wr.ownsMap Tryd.prog 76 (plainElem (H := Unit) Tryd.prog 3) wS.heap.size n3 D3) ∧ Hid (wr.ownsRow wC.heap.size 76 2 (.slice (some ⟨wC.heap.size, 0, none⟩) 4 4) 4 ((fourC X Y).flatMap pairC)) ∧ Hid (Below wS.heap.size wS wr) ∧ wC.heap.size < wr.heap.size) (fun v57 _ => 4 - (intOf v57).toNat)
          case atStart => exact ⟨0, n2, G, D2, Nat.zero_le _, by omega, rfl, Lib.hid rfl, HD2, HM4, HR4, HB4, hz4⟩
          case round =>
           obtain ⟨j, n3, G3, D3, hj, hn3, rfl, HG3, HD3, HM5, HR5, HB5, hz5⟩ := hrel
           obtain ⟨wE, rfl⟩ : ∃ wE : World, wE = wr := ⟨_, rfl⟩
           by_cases hj4 : j < 4
           · obtain ⟨x, y, hc, hx, hy⟩ : ∃ x y, (fourC X Y)[j]? = some (x, y) ∧ (-1 ≤ x ∧ x ≤ 600) ∧ (-1 ≤ y ∧ y ≤ 640) := by
               rcases (show j = 0 ∨ j = 1 ∨ j = 2 ∨ j = 3 by omega) with rfl | rfl | rfl | rfl
               · exact ⟨X, Y, rfl, by omega, by omega⟩
               · exact ⟨X - 1, Y, rfl, by omega, by omega⟩
               · exact ⟨X, Y - 1, rfl, by omega, by omega⟩
               · exact ⟨X - 1, Y - 1, rfl, by omega, by omega⟩
             have c0 := (HR5.out.cellAt (j * 2) (by show j * 2 < 8; omega)).trans (flat_get pairC_len _ j _ hc 0 (by omega))
             have c1 := (HR5.out.cellAt (j * 2 + 1) (by show j * 2 + 1 < 8; omega)).trans (flat_get pairC_len _ j _ hc 1 (by omega))
             have HG4 : Hid (((fourC X Y).take (j + 1)).foldl (ptStep ((s : Int) + (i : Int) + 1)) G = ptStep ((s : Int) + (i : Int) + 1) G3 (x, y)) := Lib.hid (by rw [ptFour_succ hc, HG3.out])
             have q0 : (0 : Int) ≤ (j : Int) := Int.natCast_nonneg _
             have q1 : (j : Int) < 4 := by omega
             have c0' : wE.cell? ⟨wC.heap.size, j * 2, none⟩ = some (.int .i64 x) := c0
             have c1' : wE.cell? ⟨wC.heap.size, j * 2 + 1, none⟩ = some (.int .i64 y) := c1
             clear c0 c1 hc
             have hKX := wf_sm (x := x) (by omega)
             have hKY := wf_sm (x := y) (by omega)
             have HKX := Lib.hid hKX
             have HKY := Lib.hid hKY
             have eA : IntKind.i64.wrap ((s : Int) + (i : Int) + 1) = (s : Int) + (i : Int) + 1 := IntWalk.i64_in _ (by omega)
             have HXB := Lib.hid hx
             have HYB := Lib.hid hy
             clear hKX hKY
             go_wp2_with (first | (at_lookup; refine wpList_lookup_own_int _ rfl _ _ 74 rfl 76 3 .i64 pt_keyed Tryd.underlying74 Tryd.underlying3 (zero_int _) wS.heap.size n3 D3 rfl (HM5.out.alloc _) (ptA x y) (ptK x y) rfl (keyOf_pt HKX.out HKY.out) ?_; intro c hat _; have HAT := Lib.hid (ptsD_at HD3.out (by have := HXB.out; omega) (by have := HYB.out; omega) hat); clear hat) | (at_mapUpdate; refine wpList_mapUpdate_own _ rfl _ _ _ 74 rfl 76 3 pt_keyed Tryd.underlying74 (plainElem (H := Unit) Tryd.prog 3) wS.heap.size n3 _ rfl (HM5.out.alloc _) (by rw [maxLen_eq]; omega) _ _ _ rfl rfl (keyOf_pt HKX.out HKY.out) _ [] (plainElem_int Tryd.underlying3 (WalkArith.wf_i64 (by omega))) ?_; intro w9 hown9 hgrow9))
             · have hc0 : c = 0 := eq_of_beq (by assumption)
               have HP := ptsD_put (v := (s : Int) + (i : Int) + 1) HD3.out HM5.out.isMap (show -2000 ≤ x ∧ x ≤ 2000 by have := HXB.out; omega) (show -2000 ≤ y ∧ y ≤ 2000 by have := HYB.out; omega)
               have HG5 : Hid (((fourC X Y).take (j + 1)).foldl (ptStep ((s : Int) + (i : Int) + 1)) G = G3.put x y ((s : Int) + (i : Int) + 1)) := Lib.hid (by
                 rw [HG4.out]; unfold ptStep; rw [if_pos (by show G3 x y = 0; rw [← HAT.out]; exact hc0)])
               have hsz9 := hgrow9.size
               refine ⟨⟨j + 1, n3 + 1, _, _, by omega, by omega, by go_num, HG5, Lib.hid HP, Lib.hid hown9, Lib.hid ((HR5.out.alloc _).kept hgrow9 (.inr (fun e => by have h : wC.heap.size = wS.heap.size := Option.some.inj e; omega))), Lib.hid (Below.grown (bel_al HB5.out _) hgrow9 (by simp; omega) (fun q e => by have h : wS.heap.size = q := Option.some.inj e; omega)), by simp at hsz9; omega⟩, by simp [intOf]; omega⟩
             · have hc0 : ¬ c = 0 := by have h : (c == 0) = false := by assumption
                                        simpa using h
               have HG5 : Hid (((fourC X Y).take (j + 1)).foldl (ptStep ((s : Int) + (i : Int) + 1)) G = G3) := Lib.hid (by
                 rw [HG4.out]; unfold ptStep; rw [if_neg (by show ¬ G3 x y = 0; rw [← HAT.out]; exact hc0)])
               refine ⟨⟨j + 1, n3, G3, D3, by omega, by omega, by go_num, HG5, HD3, Lib.hid (HM5.out.alloc _), Lib.hid (HR5.out.alloc _), Lib.hid (bel_al HB5.out _), by simp; omega⟩, by simp [intOf]; omega⟩
           · obtain rfl : j = 4 := by omega
             go_wp2
             exact ⟨⟨k + 1, n3, G3, D3, by omega, by omega, by go_num, Lib.hid (by rw [HG2.out]; exact HG3.out), HD3, HM5, HB5, by omega⟩, by simp [intOf]; omega⟩
        · have hxo' : o < X := by omega
          have HG2 : Hid ((List.range (k + 1)).foldl (ptLen b o (s + i)) F = G) := Lib.hid (by
            rw [ptAng_succ, HG.out]; unfold ptLen; rw [HXX.out, if_neg hxo])
          go_wp2
          exact ⟨⟨k + 1, n2, G, D2, by omega, by omega, by go_num, HG2, HD2, HM3, HB3, hz3⟩, by simp [intOf]; omega⟩
      · obtain rfl : k = L + 1 := by omega
        have hkL : (L : Int) + 1 ≤ ((L + 1 : Nat) : Int) := by omega
        have HF2 : Hid ((List.range (i + 1)).foldl (fun F i => ptAng b o L F (s + i)) (fun _ _ => 0) = G) := Lib.hid (by rw [ptAll_succ, HF.out]; exact HG.out)
        have e1 : IntKind.i64.wrap ((s : Int) + (i : Int) + 1) = (s : Int) + ((i + 1 : Nat) : Int) := by rw [IntWalk.i64_in _ (by omega)]; omega
        go_wp2
        exact ⟨⟨i + 1, n2, G, D2, by omega, by omega, rfl, HF2, HD2, HM2, HB2, hz2⟩, by simp [intOf]; omega⟩
   · obtain rfl : i = m + 1 - s := by omega
     have hgt : (m : Int) < (s : Int) + ((m + 1 - s : Nat) : Int) := by omega
     go_wp2
     go_ret
     refine ⟨wS.heap.size, n, D, rfl, by omega, by omega, HM.out, ?_, bel_then HBS.out HB.out⟩
     have := HD.out
     rw [← HF.out] at this
     exact this
end Go.Proofs.YtibkadkodblefaaDoor
