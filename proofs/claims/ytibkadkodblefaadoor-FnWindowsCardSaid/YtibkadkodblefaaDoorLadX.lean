/-
  Ladders and windows: the windows that are reached from a place, on both sides.
-/
import Derived.Test.YtibkadkodblefaaDoorLadW
namespace Go.Proofs.YtibkadkodblefaaDoor
open Go.RowKit Go.Maps

theorem ownsMap_bel {w wr : World} {k : TypeId} {R : Value → Option (DataW Unit × List MemPlace)} {B n : Nat} {D : DataW Unit} (h : w.ownsMap Tryd.prog k R B n D) (hb : Below w.heap.size w wr) : wr.ownsMap Tryd.prog k R B n D := h.kept (row := none) (bel_gb hb) (by simp)
/-- The square of a window's distance, and its root. -/
theorem sq_facts {wall place al : Int} (hw : 0 ≤ wall ∧ wall ≤ 200) (hp : 0 ≤ place ∧ place ≤ 600) (ha : 0 ≤ al ∧ al ≤ 600) : ∃ (a d p q : Int) (r : Nat), IntKind.i64.wrap (wall * wall) = a ∧ IntKind.i64.wrap (al - place) = d ∧ IntKind.i64.wrap (d * d) = p ∧ IntKind.i64.wrap (a + p) = q ∧ q = sqW wall place al ∧ 0 ≤ q ∧ q ≤ 400000 ∧ r = rootN (sqW wall place al).toNat ∧ IsRoot q r ∧ r ≤ 632 := by
  have h1 := sq_bd (a := wall) (A := 200) (by omega) (by omega) (by omega)
  have h2 := sq_bd (a := al - place) (A := 600) (by omega) (by omega) (by omega)
  have hq0 : 0 ≤ sqW wall place al := by unfold sqW; omega
  have hq1 : sqW wall place al ≤ 400000 := by unfold sqW; omega
  have hr := rootN_is (sqW wall place al).toNat
  rw [Int.toNat_of_nonneg hq0] at hr
  refine ⟨wall * wall, al - place, (al - place) * (al - place), sqW wall place al, _, IntWalk.i64_in _ (by omega), IntWalk.i64_in _ (by omega), IntWalk.i64_in _ (by omega), IntWalk.i64_in _ (by unfold sqW at hq0 hq1; omega), rfl, hq0, hq1, rfl, hr, isRoot_le hr (by omega)⟩
set_option maxRecDepth 100000 in
set_option maxHeartbeats 2000000 in
theorem reachedFrom_c (B n : Nat) (D : DataW Unit) (F : Pts) (wall place : Int) (v : Value) (l : List Wn) (w : World) (hM : w.ownsMap Tryd.prog 76 (plainElem (H := Unit) Tryd.prog 3) B n D) (hD : PtsD D F) (hw : 0 ≤ wall ∧ wall ≤ 200) (hp : 0 ≤ place ∧ place ≤ 600) (hl : wnOk l = true) (hr : Rd w v l.length (l.flatMap Wn.cells)) :
    Calls Tryd.prog 69 #[.map (some B), .int .i64 wall, .int .i64 place, v] w (OwnI (selD (winP F wall place l) l.length) w) := by
  obtain ⟨A, c, rfl, hc, hm, hr⟩ := hr
  rw [maxLen_eq] at hm
  obtain ⟨hWN, hl12⟩ := wnOk_true hl
  have HR := Lib.hid hr
  have HWN := Lib.hid hWN
  have HM := Lib.hid hM
  have HD := Lib.hid hD
  obtain ⟨i0, hi, hz0, hz1, hz2⟩ := info_parts Tryd.infoInt
  clear hr hWN hM hD hl
  go_enter Tryd.func69, Tryd.ntmps69
  go_wp2_with fail
  go_loopw [9, 16] (fun v9 v16 wr => ∃ (k : Nat) (S : List Int), k ≤ l.length ∧ S.length ≤ k ∧ v16 = .int .i64 k ∧ Hid (selD (winP F wall place l) k = S) ∧ Hid (wr.ownsRow w.heap.size 3 1 v9 S.length (ints S)) ∧ Hid (Below w.heap.size w wr)) (fun _ v16 _ => l.length - (intOf v16).toNat)
  case atStart => exact ⟨0, [], Nat.zero_le _, Nat.le_refl _, rfl, Lib.hid rfl, Lib.hid (show w.ownsRow w.heap.size 3 1 (.slice none 0 0) 0 [] from World.ownsRow_nil _ _ _ _), Lib.hid (Below.refl _ _)⟩
  case round =>
    obtain ⟨k, S, hk, hSk, rfl, HS, HO, HB⟩ := hrel
    obtain ⟨wA, rfl⟩ : ∃ wA : World, wA = wr := ⟨_, rfl⟩
    have hsA := HB.out.size
    by_cases hlt : k < l.length
    · obtain ⟨b, off, rfl, hbl, hcell⟩ := HR.out (by omega)
      obtain ⟨al, up, hx, c0, c1⟩ := wn_at' hcell HB.out hbl hlt
      obtain ⟨hal, hup⟩ := HWN.out _ (List.mem_of_getElem? hx)
      dsimp only at hal hup
      obtain ⟨a, d, p, q, r, f1, f2, f3, f4, hq, hq0, hq1, hrr, hroot, hr6⟩ := sq_facts hw hp hal
      have HP : Hid (winP F wall place l k = (decide (r ≤ 600) && decide (0 < F (r : Int) up))) := Lib.hid (by rw [winP_at hx, hrr])
      have HRT := Lib.hid hroot
      have y0 : (0 : Int) ≤ (k : Int) := Int.natCast_nonneg _
      have y1 : (k : Int) < (l.length : Int) := by omega
      have hkk : IntKind.i64.wrap ((k : Int) + 1) = (k : Int) + 1 := IntWalk.i64_in _ (by omega)
      have HI : Hid (l.length - (intOf (.int .i64 ((k : Int) + 1))).toNat < l.length - (intOf (.int .i64 (k : Int))).toNat) := Lib.hid (by simp [intOf]; omega)
      have HI1 : Hid (k + 1 ≤ l.length) := Lib.hid (by omega)
      clear hq hrr hroot hcell hx
      go_wp2_with fail
      generalize hW : World.alloc wA _ = wX
      have k1 : wX.cell? ⟨wA.heap.size, 1, none⟩ = some (.int .i64 up) := by subst hW; simp [go_sem]
      have HBX : Hid (Below w.heap.size w wX) := Lib.hid (by subst hW; exact bel_al HB.out _)
      have HOX : Hid (wX.ownsRow w.heap.size 3 1 u9 S.length (ints S)) := Lib.hid (by subst hW; exact HO.out.alloc _)
      have hsX : w.heap.size ≤ wX.heap.size := HBX.out.size
      have hsX2 : wA.heap.size < wX.heap.size := by subst hW; simp
      clear hW c0 c1 f1 f2 f3 f4
      go_loopw [13] (fun v13 wr => ∃ j : Nat, j ≤ r ∧ v13 = .int .i64 j ∧ wX = wr) (fun v13 _ => r - (intOf v13).toNat)
      case atStart => exact ⟨0, Nat.zero_le _, rfl, rfl⟩
      case round =>
       obtain ⟨j, hj, rfl, rfl⟩ := hrel
       have e1 : IntKind.i64.wrap ((j : Int) + 1) = (j : Int) + 1 := IntWalk.i64_in _ (by omega)
       have hb2 := mul_bd (a := (j : Int) + 1) (b := (j : Int) + 1) (A := 700) (B := 700) (by omega) (by omega) (by omega) (by omega)
       have hst := root_step HRT.out (k := j)
       obtain ⟨p2, hp2⟩ : ∃ p2, ((j : Int) + 1) * ((j : Int) + 1) = p2 := ⟨_, rfl⟩
       have e2 : IntKind.i64.wrap (((j : Int) + 1) * ((j : Int) + 1)) = p2 := by rw [IntWalk.i64_in _ (by omega)]; exact hp2
       rw [hp2] at hst
       clear hp2 hb2
       by_cases hjr : j < r
       · have hle : p2 ≤ q := hst.2 hjr
         clear hst
         go_wp2
         exact ⟨⟨j + 1, by omega, by go_num, (by first | rfl | trivial)⟩, by simp [intOf]; omega⟩
       · have hle : q < p2 := by
           rcases Int.lt_or_le q p2 with h | h
           · exact h
           · exact absurd (hst.1 h) hjr
         obtain rfl : j = r := by omega
         clear hst e1
         by_cases h6 : j ≤ 600
         · have hz6 : (j : Int) ≤ 600 := by omega
           obtain ⟨fv, hfv⟩ : ∃ fv, F (j : Int) up = fv := ⟨_, rfl⟩
           rw [hfv, decide_eq_true h6, Bool.true_and] at HP
           have HFV := Lib.hid hfv
           have HKX := Lib.hid (wf_sm (x := (j : Int)) (by omega))
           have HKY := Lib.hid (wf_sm (x := up) (by omega))
           have HMX := Lib.hid (ownsMap_bel HM.out HBX.out)
           obtain ⟨c9, hrun, hat, _⟩ := HMX.out.lookup_int pt_keyed Tryd.underlying74 Tryd.underlying3 (zero_int _) (keyOf_pt HKX.out HKY.out)
           rw [show c9 = fv from (ptsD_at HD.out (by omega) (by omega) hat).trans HFV.out] at hrun
           unfold ptA at hrun
           clear hfv hat
           by_cases hpos : 0 < fv
           · have HS2 : Hid (selD (winP F wall place l) (k + 1) = S ++ [(k : Int)]) := Lib.hid (by rw [selD_yes (by rw [HP.out]; exact decide_eq_true hpos), HS.out])
             go_wp2_with (at_builtin; go_loud (refine wpList_app_rd _ rfl _ _ 22 rfl w.heap.size 3 i0 (.int .i64 0) 1 8 Tryd.underlying22 hi hz0 hz1 hz2 rfl (by decide) _ _ _ rfl (HOX.out.alloc _) _ 1 [.int .i64 k] rfl (rd_new _ rfl (Nat.le_refl _) (by rw [maxLen_eq]; omega)) rfl (ints_one [(k : Int)]) (by rw [maxLen_eq]; omega) (by omega) (by simp; omega) ?_); intro v7 w7 hown7 hgrow7 he7)
             have HO7 : Hid (w7.ownsRow w.heap.size 3 1 v7 (S ++ [(k : Int)]).length (ints (S ++ [(k : Int)]))) := Lib.hid (by rw [ints_append, List.length_append]; exact hown7)
             exact ⟨⟨k + 1, S ++ [(k : Int)], HI1.out, by simp; omega, by first | rfl | go_num, HS2, HO7, Lib.hid (bel_grown (bel_al HBX.out _) hgrow7 (fun q e => (HOX.out.lt q e).1))⟩, HI.out⟩
           · have hpos2 : fv ≤ 0 := by omega
             have HS2 : Hid (selD (winP F wall place l) (k + 1) = S) := Lib.hid (by rw [selD_no (by rw [HP.out]; exact decide_eq_false hpos), HS.out])
             clear hpos
             go_wp2_with fail
             exact ⟨⟨k + 1, S, HI1.out, by omega, by first | rfl | go_num, HS2, HOX, HBX⟩, HI.out⟩
         · have hz6 : ¬ (j : Int) ≤ 600 := by omega
           have hz7 : 600 < (j : Int) := by omega
           have HS2 : Hid (selD (winP F wall place l) (k + 1) = S) := Lib.hid (by rw [selD_no (by rw [HP.out, decide_eq_false h6]; rfl), HS.out])
           go_wp2_with fail
           exact ⟨⟨k + 1, S, HI1.out, by omega, by first | rfl | go_num, HS2, HOX, HBX⟩, HI.out⟩
    · obtain rfl : k = l.length := by omega
      go_wp2
      go_ret
      rw [HS.out]
      exact ⟨_, rfl, HO.out, HB.out⟩
theorem angI_pos (r : Option Nat) : (0 ≤ angI r) ↔ 0 < ptV r := by
  cases r with
  | none => simp [angI, ptV]
  | some a => simp only [angI, ptV]; omega
set_option maxRecDepth 100000 in
set_option maxHeartbeats 2000000 in
theorem laFrom_c (b o : Int) (L s m : Nat) (wall place : Int) (v : Value) (l : List Wn) (w : World) (hb : 0 ≤ b ∧ b ≤ 40) (hL : L ≤ 600) (ho : 20 ≤ o ∧ o ≤ 400) (hs : s ≤ m) (hm85 : m ≤ 85) (hw : 0 ≤ wall ∧ wall ≤ 200) (hp : 0 ≤ place ∧ place ≤ 600) (hl : wnOk l = true) (hr : Rd w v l.length (l.flatMap Wn.cells)) :
    Calls Tryd.prog 66 #[ldV b L o s m, .int .i64 wall, .int .i64 place, v] w (OwnI (selD (winP (ptAll b o L s m) wall place l) l.length) w) := by
  obtain ⟨A, c, rfl, hc, hm, hr⟩ := hr
  rw [maxLen_eq] at hm
  obtain ⟨hWN, hl12⟩ := wnOk_true hl
  have HR := Lib.hid hr
  have HWN := Lib.hid hWN
  obtain ⟨i0, hi, hz0, hz1, hz2⟩ := info_parts Tryd.infoInt
  obtain ⟨F, hF⟩ : ∃ F, ptAll b o L s m = F := ⟨_, rfl⟩
  have HF : Hid (∀ x y, F x y = ptV (angF b o L s m x y)) := Lib.hid (fun x y => by rw [← hF, ptAll_at])
  rw [hF]
  clear hr hWN hl hF
  go_enter Tryd.func66, Tryd.ntmps66
  go_wp2_with fail
  (generalize hw1 : World.alloc w _ = w1; have k0 : w1.cell? ⟨w.heap.size, 0, none⟩ = some (.int .i64 b) := (by subst hw1; simp [go_sem]); have k1 : w1.cell? ⟨w.heap.size, 1, none⟩ = some (.int .i64 L) := (by subst hw1; simp [go_sem]); have k2 : w1.cell? ⟨w.heap.size, 2, none⟩ = some (.int .i64 o) := (by subst hw1; simp [go_sem]); have k3 : w1.cell? ⟨w.heap.size, 3, none⟩ = some (.int .i64 s) := (by subst hw1; simp [go_sem]); have k4 : w1.cell? ⟨w.heap.size, 4, none⟩ = some (.int .i64 m) := (by subst hw1; simp [go_sem]); have hb0 : Below w.heap.size w w1 := (by subst hw1; exact bel_al (Below.refl _ _) _); have hsz1 : w.heap.size < w1.heap.size := (by subst hw1; simp); clear hw1)
  have HB0 := Lib.hid hb0
  clear hb0
  go_wp2_with fail
  go_loopw [9, 15] (fun v9 v15 wr => ∃ (k : Nat) (S : List Int), k ≤ l.length ∧ S.length ≤ k ∧ v15 = .int .i64 k ∧ Hid (selD (winP F wall place l) k = S) ∧ Hid (wr.ownsRow w1.heap.size 3 1 v9 S.length (ints S)) ∧ Hid (Below w1.heap.size w1 wr)) (fun _ v15 _ => l.length - (intOf v15).toNat)
  case atStart => exact ⟨0, [], Nat.zero_le _, Nat.le_refl _, rfl, Lib.hid rfl, Lib.hid (show w1.ownsRow w1.heap.size 3 1 (.slice none 0 0) 0 [] from World.ownsRow_nil _ _ _ _), Lib.hid (Below.refl _ _)⟩
  case round =>
    obtain ⟨k, S, hk, hSk, rfl, HS, HO, HB⟩ := hrel
    obtain ⟨wA, rfl⟩ : ∃ wA : World, wA = wr := ⟨_, rfl⟩
    have hsA := HB.out.size
    by_cases hlt : k < l.length
    · obtain ⟨g, off, rfl, hbl, hcell⟩ := HR.out (by omega)
      obtain ⟨al, up, hx, c0, c1⟩ := wn_at' hcell (bel_then HB0.out HB.out) hbl hlt
      obtain ⟨hal, hup⟩ := HWN.out _ (List.mem_of_getElem? hx)
      dsimp only at hal hup
      obtain ⟨a, d, p, q, r, f1, f2, f3, f4, hq, hq0, hq1, hrr, hroot, hr6⟩ := sq_facts hw hp hal
      have HP : Hid (winP F wall place l k = (decide (r ≤ 600) && decide (0 < F (r : Int) up))) := Lib.hid (by rw [winP_at hx, hrr])
      have HRT := Lib.hid hroot
      have y0 : (0 : Int) ≤ (k : Int) := Int.natCast_nonneg _
      have y1 : (k : Int) < (l.length : Int) := by omega
      have hkk : IntKind.i64.wrap ((k : Int) + 1) = (k : Int) + 1 := IntWalk.i64_in _ (by omega)
      have HI : Hid (l.length - (intOf (.int .i64 ((k : Int) + 1))).toNat < l.length - (intOf (.int .i64 (k : Int))).toNat) := Lib.hid (by simp [intOf]; omega)
      have HI1 : Hid (k + 1 ≤ l.length) := Lib.hid (by omega)
      clear hq hrr hroot hcell hx
      go_wp2_with fail
      generalize hW : World.alloc wA _ = wX
      have u1 : wX.cell? ⟨wA.heap.size, 1, none⟩ = some (.int .i64 up) := by subst hW; simp [go_sem]
      have HBX : Hid (Below w1.heap.size w1 wX) := Lib.hid (by subst hW; exact bel_al HB.out _)
      have HOX : Hid (wX.ownsRow w1.heap.size 3 1 u9 S.length (ints S)) := Lib.hid (by subst hW; exact HO.out.alloc _)
      have hsX : w1.heap.size ≤ wX.heap.size := HBX.out.size
      have x0 := (HBX.out.cell (p := ⟨w.heap.size, 0, none⟩) (by show w.heap.size < _; omega)).trans k0
      have x1 := (HBX.out.cell (p := ⟨w.heap.size, 1, none⟩) (by show w.heap.size < _; omega)).trans k1
      have x2 := (HBX.out.cell (p := ⟨w.heap.size, 2, none⟩) (by show w.heap.size < _; omega)).trans k2
      have x3 := (HBX.out.cell (p := ⟨w.heap.size, 3, none⟩) (by show w.heap.size < _; omega)).trans k3
      have x4 := (HBX.out.cell (p := ⟨w.heap.size, 4, none⟩) (by show w.heap.size < _; omega)).trans k4
      clear hW c0 c1 f1 f2 f3 f4
      refine (laRoot_c q r _ HRT.out (by omega)).mono ?_; rintro e w2 ⟨rfl, rfl⟩
      by_cases h6 : r ≤ 600
      · have hz6 : (r : Int) ≤ 600 := by omega
        obtain ⟨t, ht⟩ : ∃ t, angI (angF b o L s m (r : Int) up) = t := ⟨_, rfl⟩
        have hpos0 : (0 < F (r : Int) up) ↔ 0 ≤ t := by rw [HF.out, ← ht, angI_pos]
        rw [decide_eq_true h6, Bool.true_and] at HP
        have HPOS := Lib.hid hpos0
        have HTT := Lib.hid ht
        clear hpos0 ht
        go_wp2_with fail
        refine (laAngle_c b o L s m (r : Int) up _ hb hL ho hs hm85 (by omega) hup).mono ?_; rw [HTT.out]; rintro e w3 ⟨rfl, hb3⟩
        have HB3 := Lib.hid (bel_then HBX.out hb3)
        have HO3 := Lib.hid (own_below HOX.out hb3)
        have hs3 := hb3.size
        clear hb3 x0 x1 x2 x3 x4 u1
        by_cases hpos : 0 ≤ t
        · have HS2 : Hid (selD (winP F wall place l) (k + 1) = S ++ [(k : Int)]) := Lib.hid (by rw [selD_yes (by rw [HP.out]; exact decide_eq_true (HPOS.out.2 hpos)), HS.out])
          go_wp2_with (at_builtin; refine wpList_app_rd _ rfl _ _ 22 rfl w1.heap.size 3 i0 (.int .i64 0) 1 8 Tryd.underlying22 hi hz0 hz1 hz2 rfl (by decide) _ _ _ rfl (HO3.out.alloc _) _ 1 [.int .i64 k] rfl (rd_new _ rfl (Nat.le_refl _) (by rw [maxLen_eq]; omega)) rfl (ints_one [(k : Int)]) (by rw [maxLen_eq]; omega) (by omega) (by simp; omega) ?_; intro v7 w7 hown7 hgrow7 he7)
          have HO7 : Hid (w7.ownsRow w1.heap.size 3 1 v7 (S ++ [(k : Int)]).length (ints (S ++ [(k : Int)]))) := Lib.hid (by rw [ints_append, List.length_append]; exact hown7)
          exact ⟨⟨k + 1, S ++ [(k : Int)], HI1.out, by simp; omega, by first | rfl | go_num, HS2, HO7, Lib.hid (bel_grown (bel_al HB3.out _) hgrow7 (fun q e => (HO3.out.lt q e).1))⟩, HI.out⟩
        · have hpos2 : t < 0 := by omega
          have HS2 : Hid (selD (winP F wall place l) (k + 1) = S) := Lib.hid (by rw [selD_no (by rw [HP.out]; exact decide_eq_false (fun h => hpos (HPOS.out.1 h))), HS.out])
          go_wp2_with fail
          exact ⟨⟨k + 1, S, HI1.out, by omega, by first | rfl | go_num, HS2, HO3, HB3⟩, HI.out⟩
      · have hz6 : ¬ (r : Int) ≤ 600 := by omega
        have hz7 : 600 < (r : Int) := by omega
        have HS2 : Hid (selD (winP F wall place l) (k + 1) = S) := Lib.hid (by rw [selD_no (by rw [HP.out, decide_eq_false h6]; rfl), HS.out])
        go_wp2_with fail
        exact ⟨⟨k + 1, S, HI1.out, by omega, by first | rfl | go_num, HS2, HOX, HBX⟩, HI.out⟩
    · obtain rfl : k = l.length := by omega
      go_wp2
      go_ret
      rw [HS.out]
      exact ⟨_, rfl, own_base HO.out (by omega), bel_then HB0.out HB.out⟩
end Go.Proofs.YtibkadkodblefaaDoor
