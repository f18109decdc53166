/-
  CoveredAfter on both sides.
-/
import Derived.Test.YtgdigcnpjkkmfaaMvC
namespace Go.Proofs.Ytgdigcnpjkkmfaa
open Go.RowKit

set_option maxRecDepth 100000 in
set_option maxHeartbeats 4000000 in
theorem coveredAfterI_c (n : Int) (s : Value) (l : List St) (v : Value) (p : List Int) (u : Value) (q : List Int) (a : Int) (t : Value) (r : List Int) (w : World) (hr : Rd w s l.length (l.flatMap St.cells)) (hp : RdI w v p) (hq : RdI w u q) (hvr : RdI w t r) :
    Calls Try.prog 35 #[.agg #[.int .i64 n, s], v, u, .int .i64 a, t] w (OwnIB (coveredAfterV n l p q a r) w) := by
  have HR := Lib.hid hr
  have HQ := Lib.hid hq
  have HP := Lib.hid hp
  have HVR := Lib.hid hvr
  obtain ⟨A, c, rfl, hc, hm, hcr⟩ := hvr
  obtain ⟨Aq, cq, rfl, hcq, hmq, hqq⟩ := hq
  rw [maxLen_eq] at hm hmq
  have HCR := Lib.hid hcr
  have HQQ := Lib.hid hqq
  obtain ⟨i0, hi, hz0, hz1, hz2⟩ := info_parts Try.infoInt
  clear hr hp hcr hqq
  go_enter Try.func35, Try.ntmps35
  go_wp2_with fail
  generalize hW : World.alloc w _ = w0
  have t0 : w0.cell? ⟨w.heap.size, 0, none⟩ = some (.int .i64 n) := by subst hW; simp [go_sem]
  have t1 : w0.cell? ⟨w.heap.size, 1, none⟩ = some s := by subst hW; simp [go_sem]
  have hb0 : Below w.heap.size w w0 := by subst hW; exact bel_al (Below.refl _ _) _
  have z0 : w.heap.size < w0.heap.size := by subst hW; simp
  have HB := Lib.hid hb0
  clear hW hb0
  refine (moversFit_c n s l _ _ p q _ _ t0 t1 (rd_below HR.out HB.out) (rdi_below HP.out HB.out) (rdi_below HQ.out HB.out)).mono ?_; rintro e w1 ⟨rfl, hb1⟩
  have k0 := (hb1.cell (p := ⟨w.heap.size, 0, none⟩) z0).trans t0
  have k1 := (hb1.cell (p := ⟨w.heap.size, 1, none⟩) z0).trans t1
  have HB1 := Lib.hid (bel_then HB.out hb1)
  have hs1 := hb1.size
  clear t0 t1 hb1
  by_cases hok : goodMv n l p q = true
  · by_cases hlm : inB a 0 36000 = true
    · have hask : askM n l p q a = true := by unfold askM; rw [hok, hlm]; rfl
      have HASK := Lib.hid hask
      obtain ⟨g1, g2, g3, g4, g5⟩ := goodMv_true hok
      obtain ⟨m, rfl⟩ := nat_of (goodTown_true g1).1
      rw [hok]
      go_wp2_with fail
      refine (isLimit_c a _).mono ?_; rw [hlm]; rintro e w2 ⟨rfl, rfl⟩
      go_wp2_with fail
      refine (isFilling_c m s _ _ _ l p q a r _ _ g1 g5 g2 g4 g3 k0 k1 (rd_below HR.out HB1.out) (rdi_below HP.out HB1.out) (rdi_below HQ.out HB1.out) (rdi_below HVR.out HB1.out)).mono ?_; rintro e w3 ⟨rfl, hb3⟩
      have z0 := (hb3.cell (p := ⟨w.heap.size, 0, none⟩) (by show w.heap.size < _; omega)).trans k0
      have z1 := (hb3.cell (p := ⟨w.heap.size, 1, none⟩) (by show w.heap.size < _; omega)).trans k1
      have Z0 := Lib.hid z0
      have Z1 := Lib.hid z1
      have HB3 := Lib.hid (bel_then HB1.out hb3)
      have hs3 := hb3.size
      have HG1 := Lib.hid g1
      have HG2 := Lib.hid g2
      clear k0 k1 hb3 z0 z1 g1 g2 g5 hok hlm hask
      by_cases hfb : fillB m (arcs l) p q a r = true
      · have HF : Hid (coveredAfterV (m : Int) l p q a r = (covIdx (coverL m (arcs l) (filledK q r r.length)) a true m, true)) := Lib.hid (by unfold coveredAfterV askF; rw [Int.toNat_natCast, HASK.out, hfb, if_pos (by rfl)]; rfl)
        have hrq : r.length = q.length := by
          unfold fillB at hfb
          rw [Bool.and_eq_true] at hfb
          exact (goodOn_true hfb.1).1
        have HRQ := Lib.hid hrq
        rw [hfb]
        clear hrq hfb
        go_wp2_with fail
        go_loopw [12, 34] (fun v12 v34 wr => ∃ (k : Nat), k ≤ r.length ∧ v34 = .int .i64 k ∧ Hid (wr.ownsRow w3.heap.size 3 1 v12 (filledK q r k).length (ints (filledK q r k))) ∧ Hid (Below w3.heap.size w3 wr)) (fun _ v34 _ => r.length - (intOf v34).toNat)
        case atStart => exact ⟨0, Nat.zero_le _, rfl, Lib.hid (show w3.ownsRow w3.heap.size 3 1 (.slice none 0 0) 0 [] from World.ownsRow_nil _ _ _ _), Lib.hid (Below.refl _ _)⟩
        case round =>
          obtain ⟨k, hk, rfl, HOW, HBL⟩ := hrel
          obtain ⟨wA, rfl⟩ : ∃ wA : World, wA = wr := ⟨_, rfl⟩
          by_cases hlt : k < r.length
          · obtain ⟨b, off, rfl, hbl, hcell⟩ := HCR.out (by omega)
            obtain ⟨x, hx⟩ : ∃ x, r[k]? = some x := ⟨_, List.getElem?_eq_getElem hlt⟩
            have c0 := cell_at hcell (bel_then HB3.out HBL.out) hbl (ints_get hx)
            have HX := Lib.hid hx
            have hkq : k < q.length := by have := HRQ.out; omega
            have hsl := filledK_len q r k
            obtain ⟨S, hS⟩ : ∃ S, filledK q r k = S := ⟨_, rfl⟩
            rw [hS] at HOW hsl
            have HS := Lib.hid hS
            clear hcell hx hS
            by_cases hneg : x < 0
            · have HN : Hid (filledK q r (k + 1) = S) := Lib.hid (by rw [filledK_skip HX.out hneg, HS.out])
              go_wp2
              exact ⟨⟨k + 1, by omega, by go_num, by rw [HN.out]; exact HOW, HBL⟩, by simp [intOf]; omega⟩
            · obtain ⟨b3, off3, rfl, hbl3, hcell3⟩ := HQQ.out (by omega)
              obtain ⟨y, hy⟩ : ∃ y, q[k]? = some y := ⟨_, List.getElem?_eq_getElem hkq⟩
              have d0 := cell_at hcell3 (bel_then HB3.out HBL.out) hbl3 (ints_get hy)
              have HY : Hid (filledK q r (k + 1) = S ++ [y]) := Lib.hid (by rw [filledK_put HX.out hneg hy, HS.out])
              have x0 : 0 ≤ x := by omega
              have x1 : (0 : Int) ≤ (k : Int) := by omega
              have x2 : (k : Int) < (q.length : Int) := by omega
              have hq6 : q.length ≤ 6 := g3
              clear hy hcell3 hneg
              go_wp2_with (at_builtin; refine wpList_app_rd _ rfl _ _ 25 rfl w3.heap.size 3 i0 (.int .i64 0) 1 8 Try.underlying25 hi hz0 hz1 hz2 rfl (by decide) _ _ _ rfl (HOW.out.alloc _) _ 1 [.int .i64 y] rfl (rd_new _ rfl (Nat.le_refl _) (by rw [maxLen_eq]; omega)) rfl (ints_one [y]) (by rw [maxLen_eq]; omega) (by omega) (by have := HBL.out.size; simp; omega) ?_; intro v' w7 hown' hgrow _)
              refine ⟨⟨k + 1, by omega, by go_num, Lib.hid ?_, Lib.hid (bel_grown (bel_al HBL.out _) hgrow (fun q e => (HOW.out.lt q e).1))⟩, by simp [intOf]; omega⟩
              rw [HY.out, ints_append, List.length_append]; exact hown'
          · obtain rfl : k = r.length := by omega
            have hsub := filledK_sub q r r.length (by have := HRQ.out; omega)
            have hmem : ∀ x ∈ filledK q r r.length, 0 ≤ x ∧ x ≤ (m : Int) - 1 := fun x hx => HG2.out x (List.mem_of_mem_take (hsub.subset hx))
            have y0 := (HBL.out.cell (p := ⟨w.heap.size, 0, none⟩) (by show w.heap.size < _; omega)).trans Z0.out
            have y1 := (HBL.out.cell (p := ⟨w.heap.size, 1, none⟩) (by show w.heap.size < _; omega)).trans Z1.out
            have hbw := bel_then HB3.out HBL.out
            have hcov := coveredNodes_c m s _ l (filledK q r r.length) a true w.heap.size _ HG1.out hmem y0 y1 (rd_below HR.out hbw) (rdi_own HOW.out)
            have HC := Lib.hid hcov
            have HBW := Lib.hid hbw
            have hsA := hbw.size
            clear hcov hmem hsub y0 y1 hbw
            go_wp2_with fail
            refine HC.out.mono ?_; rintro e w8 ⟨v8, rfl, ho8, hb8⟩
            go_wp2
            go_ret2
            rw [HF.out]
            exact ⟨_, rfl, own_base ho8 hsA, bel_then HBW.out hb8⟩
      · have hfb : fillB m (arcs l) p q a r = false := by simpa using hfb
        have HF : Hid (coveredAfterV (m : Int) l p q a r = ([], false)) := Lib.hid (by unfold coveredAfterV askF; rw [Int.toNat_natCast, hfb, Bool.and_false, if_neg (by simp)])
        rw [hfb]
        go_wp2
        go_ret2
        rw [HF.out]
        exact ⟨_, rfl, World.ownsRow_nil _ _ _ _, HB3.out⟩
    · have hlm : inB a 0 36000 = false := by simpa using hlm
      have HF : Hid (coveredAfterV n l p q a r = ([], false)) := Lib.hid (by unfold coveredAfterV askF askM; rw [hlm, Bool.and_false, Bool.false_and, if_neg (by simp)])
      rw [hok]
      go_wp2_with fail
      refine (isLimit_c a _).mono ?_; rw [hlm]; rintro e w2 ⟨rfl, rfl⟩
      go_wp2
      go_ret2
      rw [HF.out]
      exact ⟨_, rfl, World.ownsRow_nil _ _ _ _, HB1.out⟩
  · have hok : goodMv n l p q = false := by simpa using hok
    have HF : Hid (coveredAfterV n l p q a r = ([], false)) := Lib.hid (by unfold coveredAfterV askF askM; rw [hok, Bool.false_and, Bool.false_and, if_neg (by simp)])
    rw [hok]
    go_wp2
    go_ret2
    rw [HF.out]
    exact ⟨_, rfl, World.ownsRow_nil _ _ _ _, HB1.out⟩
set_option maxRecDepth 100000 in
set_option maxHeartbeats 4000000 in
theorem coveredAfterS_c (n : Int) (s : Value) (l : List St) (v : Value) (p : List Int) (u : Value) (q : List Int) (a : Int) (t : Value) (r : List Int) (w : World) (hr : Rd w s l.length (l.flatMap St.cells)) (hp : RdI w v p) (hq : RdI w u q) (hvr : RdI w t r) :
    Calls Try.prog 34 #[.agg #[.int .i64 n, s], v, u, .int .i64 a, t] w (OwnIB (coveredAfterV n l p q a r) w) := by
  have HR := Lib.hid hr
  have HQ := Lib.hid hq
  have HP := Lib.hid hp
  have HVR := Lib.hid hvr
  obtain ⟨A, c, rfl, hc, hm, hcr⟩ := hvr
  obtain ⟨Aq, cq, rfl, hcq, hmq, hqq⟩ := hq
  rw [maxLen_eq] at hm hmq
  have HCR := Lib.hid hcr
  have HQQ := Lib.hid hqq
  obtain ⟨i0, hi, hz0, hz1, hz2⟩ := info_parts Try.infoInt
  clear hr hp hcr hqq
  go_enter Try.func34, Try.ntmps34
  go_wp2_with fail
  generalize hW : World.alloc w _ = w0
  have t0 : w0.cell? ⟨w.heap.size, 0, none⟩ = some (.int .i64 n) := by subst hW; simp [go_sem]
  have t1 : w0.cell? ⟨w.heap.size, 1, none⟩ = some s := by subst hW; simp [go_sem]
  have hb0 : Below w.heap.size w w0 := by subst hW; exact bel_al (Below.refl _ _) _
  have z0 : w.heap.size < w0.heap.size := by subst hW; simp
  have HB := Lib.hid hb0
  clear hW hb0
  go_wp2_with fail
  refine (isFillingS_c n s l _ p _ q a _ r _ (rd_below HR.out HB.out) (rdi_below HP.out HB.out) (rdi_below HQ.out HB.out) (rdi_below HVR.out HB.out)).mono ?_; rintro e w3 ⟨rfl, hb3⟩
  have z0' := (hb3.cell (p := ⟨w.heap.size, 0, none⟩) z0).trans t0
  have z1' := (hb3.cell (p := ⟨w.heap.size, 1, none⟩) z0).trans t1
  have Z0 := Lib.hid z0'
  have Z1 := Lib.hid z1'
  have HB3 := Lib.hid (bel_then HB.out hb3)
  have hs3 := hb3.size
  clear t0 t1 hb3 z0' z1'
  by_cases hask : askM n l p q a = true
  · have HASK := Lib.hid hask
    obtain ⟨hok, hlm⟩ := askM_true hask
    obtain ⟨g1, g2, g3, g4, g5⟩ := goodMv_true hok
    obtain ⟨m, rfl⟩ := nat_of (goodTown_true g1).1
    have HG1 := Lib.hid g1
    have HSTA : Hid (goodSta (m : Int) l q = true) := Lib.hid (by unfold goodMv at hok; rw [Bool.and_eq_true] at hok; exact hok.1)
    have HLM := Lib.hid hlm
    have hf : isFillingV (m : Int) l p q a r = (fillB m (arcs l) p q a r, true) := by unfold isFillingV; rw [if_pos hask]; rfl
    rw [hf]
    dsimp only
    clear hf hask hok hlm g1 g2 g5
    by_cases hfb : fillB m (arcs l) p q a r = true
    · have HF : Hid (coveredAfterV (m : Int) l p q a r = coveredNodesW m l (filledK q r r.length) a) := Lib.hid (by unfold coveredAfterV askF; rw [Int.toNat_natCast, HASK.out, hfb, if_pos (by rfl)])
      have hrq : r.length = q.length := by
        unfold fillB at hfb
        rw [Bool.and_eq_true] at hfb
        exact (goodOn_true hfb.1).1
      have HRQ := Lib.hid hrq
      rw [hfb]
      clear hrq hfb
      go_wp2_with fail
      go_loopw [14, 34] (fun v14 v34 wr => ∃ (k : Nat), k ≤ r.length ∧ v34 = .int .i64 k ∧ Hid (wr.ownsRow w3.heap.size 3 1 v14 (filledK q r k).length (ints (filledK q r k))) ∧ Hid (Below w3.heap.size w3 wr)) (fun _ v34 _ => r.length - (intOf v34).toNat)
      case atStart => exact ⟨0, Nat.zero_le _, rfl, Lib.hid (show w3.ownsRow w3.heap.size 3 1 (.slice none 0 0) 0 [] from World.ownsRow_nil _ _ _ _), Lib.hid (Below.refl _ _)⟩
      case round =>
        obtain ⟨k, hk, rfl, HOW, HBL⟩ := hrel
        obtain ⟨wA, rfl⟩ : ∃ wA : World, wA = wr := ⟨_, rfl⟩
        by_cases hlt : k < r.length
        · obtain ⟨b, off, rfl, hbl, hcell⟩ := HCR.out (by omega)
          obtain ⟨x, hx⟩ : ∃ x, r[k]? = some x := ⟨_, List.getElem?_eq_getElem hlt⟩
          have c0 := cell_at hcell (bel_then HB3.out HBL.out) hbl (ints_get hx)
          have HX := Lib.hid hx
          have hkq : k < q.length := by have := HRQ.out; omega
          have hsl := filledK_len q r k
          obtain ⟨S, hS⟩ : ∃ S, filledK q r k = S := ⟨_, rfl⟩
          rw [hS] at HOW hsl
          have HS := Lib.hid hS
          clear hcell hx hS
          by_cases hneg : x < 0
          · have HN : Hid (filledK q r (k + 1) = S) := Lib.hid (by rw [filledK_skip HX.out hneg, HS.out])
            go_wp2
            exact ⟨⟨k + 1, by omega, by go_num, by rw [HN.out]; exact HOW, HBL⟩, by simp [intOf]; omega⟩
          · obtain ⟨b3, off3, rfl, hbl3, hcell3⟩ := HQQ.out (by omega)
            obtain ⟨y, hy⟩ : ∃ y, q[k]? = some y := ⟨_, List.getElem?_eq_getElem hkq⟩
            have d0 := cell_at hcell3 (bel_then HB3.out HBL.out) hbl3 (ints_get hy)
            have HY : Hid (filledK q r (k + 1) = S ++ [y]) := Lib.hid (by rw [filledK_put HX.out hneg hy, HS.out])
            have x0 : 0 ≤ x := by omega
            have x1 : (0 : Int) ≤ (k : Int) := by omega
            have x2 : (k : Int) < (q.length : Int) := by omega
            have hq6 : q.length ≤ 6 := g3
            clear hy hcell3 hneg
            go_wp2_with (at_builtin; refine wpList_app_rd _ rfl _ _ 25 rfl w3.heap.size 3 i0 (.int .i64 0) 1 8 Try.underlying25 hi hz0 hz1 hz2 rfl (by decide) _ _ _ rfl (HOW.out.alloc _) _ 1 [.int .i64 y] rfl (rd_new _ rfl (Nat.le_refl _) (by rw [maxLen_eq]; omega)) rfl (ints_one [y]) (by rw [maxLen_eq]; omega) (by omega) (by have := HBL.out.size; simp; omega) ?_; intro v' w7 hown' hgrow _)
            refine ⟨⟨k + 1, by omega, by go_num, Lib.hid ?_, Lib.hid (bel_grown (bel_al HBL.out _) hgrow (fun q e => (HOW.out.lt q e).1))⟩, by simp [intOf]; omega⟩
            rw [HY.out, ints_append, List.length_append]; exact hown'
        · obtain rfl : k = r.length := by omega
          have hsub := (filledK_sub q r r.length (by have := HRQ.out; omega)).trans (List.take_sublist _ _)
          have hgs := goodSta_sub HSTA.out hsub
          have y0 := (HBL.out.cell (p := ⟨w.heap.size, 0, none⟩) (by show w.heap.size < _; omega)).trans Z0.out
          have y1 := (HBL.out.cell (p := ⟨w.heap.size, 1, none⟩) (by show w.heap.size < _; omega)).trans Z1.out
          have hbw := bel_then HB3.out HBL.out
          have hcov := coveredNodesS_c (m : Int) s l _ (filledK q r r.length) a _ (rd_below HR.out hbw) (rdi_own HOW.out)
          rw [show coveredNodesV (m : Int) l (filledK q r r.length) a = coveredNodesW m l (filledK q r r.length) a by unfold coveredNodesV askC; rw [hgs, HLM.out, if_pos (by rfl)]; rfl] at hcov
          have HC := Lib.hid hcov
          have HBW := Lib.hid hbw
          have hsA := hbw.size
          clear hcov hsub hgs hbw
          go_wp2_with fail
          refine HC.out.mono ?_; rintro e w8 ⟨v8, rfl, ho8, hb8⟩
          go_wp2
          go_ret2
          rw [HF.out]
          exact ⟨_, rfl, own_base ho8 hsA, bel_then HBW.out hb8⟩
    · have hfb : fillB m (arcs l) p q a r = false := by simpa using hfb
      have HF : Hid (coveredAfterV (m : Int) l p q a r = ([], false)) := Lib.hid (by unfold coveredAfterV askF; rw [Int.toNat_natCast, hfb, Bool.and_false, if_neg (by simp)])
      rw [hfb]
      go_wp2
      go_ret2
      rw [HF.out]
      exact ⟨_, rfl, World.ownsRow_nil _ _ _ _, HB3.out⟩
  · have hask' : askM n l p q a = false := by simpa using hask
    have hf : isFillingV n l p q a r = (false, false) := by unfold isFillingV; rw [if_neg hask]
    have HF : Hid (coveredAfterV n l p q a r = ([], false)) := Lib.hid (by unfold coveredAfterV askF; rw [hask', Bool.false_and, if_neg (by simp)])
    rw [hf]
    clear hf hask hask'
    go_wp2
    go_ret2
    rw [HF.out]
    exact ⟨_, rfl, World.ownsRow_nil _ _ _ _, HB3.out⟩
end Go.Proofs.Ytgdigcnpjkkmfaa
