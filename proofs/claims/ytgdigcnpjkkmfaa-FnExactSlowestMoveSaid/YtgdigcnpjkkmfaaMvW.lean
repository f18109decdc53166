/-
  SlowestMove on both sides.
-/
import Derived.Test.YtgdigcnpjkkmfaaMvS
import Derived.Test.YtgdigcnpjkkmfaaMvO
import Derived.Test.YtgdigcnpjkkmfaaMost
namespace Go.Proofs.Ytgdigcnpjkkmfaa
open Go.RowKit

/-- The time from the k-th station's mover to it. -/
def moveT (n : Nat) (ar : List Arc) (p q r : List Int) (k : Nat) : Int := (distT n ar (p.getD (r.getD k 0).toNat 0).toNat).getD (q.getD k 0).toNat 0
def slowK (n : Nat) (ar : List Arc) (p q r : List Int) : Nat → Option Int
  | 0 => some 0
  | k + 1 => match slowK n ar p q r k with
    | none => none
    | some m => if r.getD k 0 < 0 then some m else if moveT n ar p q r k < 0 then none else some (maxI m (moveT n ar p q r k))
theorem slowK_skip {n : Nat} {ar : List Arc} {p q r : List Int} {k : Nat} {m : Int} (h : slowK n ar p q r k = some m) (h1 : r.getD k 0 < 0) : slowK n ar p q r (k + 1) = some m := by
  simp only [slowK]; rw [h]; simp only [if_pos h1]
theorem slowK_out {n : Nat} {ar : List Arc} {p q r : List Int} {k : Nat} {m : Int} (h : slowK n ar p q r k = some m) (h1 : ¬ (r.getD k 0 < 0)) (h2 : moveT n ar p q r k < 0) : slowK n ar p q r (k + 1) = none := by
  simp only [slowK]; rw [h]; simp only [if_neg h1, if_pos h2]
theorem slowK_max {n : Nat} {ar : List Arc} {p q r : List Int} {k : Nat} {m : Int} (h : slowK n ar p q r k = some m) (h1 : ¬ (r.getD k 0 < 0)) (h2 : ¬ (moveT n ar p q r k < 0)) : slowK n ar p q r (k + 1) = some (maxI m (moveT n ar p q r k)) := by
  simp only [slowK]; rw [h]; simp only [if_neg h1, if_neg h2]
theorem slowK_none {n : Nat} {ar : List Arc} {p q r : List Int} {k : Nat} (h : slowK n ar p q r k = none) : ∀ j, slowK n ar p q r (k + j) = none := by
  intro j
  induction j with
  | zero => exact h
  | succ j ih => rw [← Nat.add_assoc]; simp only [slowK]; rw [ih]
def optB (o : Option Int) : Int × Bool := match o with | some m => (m, true) | none => (0, false)
def askO (n : Int) (l : List St) (p q r : List Int) : Bool := goodMv n l p q && goodOn p.length q.length r
def slowestMoveV (n : Int) (l : List St) (p q r : List Int) : Int × Bool := if askO n l p q r = true then optB (slowK n.toNat (arcs l) p q r r.length) else (0, false)
theorem getD_of {l : List Int} {k : Nat} {x : Int} (h : l[k]? = some x) : l.getD k 0 = x := by simp [List.getD_eq_getElem?_getD, h]

set_option maxRecDepth 100000 in
set_option maxHeartbeats 4000000 in
theorem slowestMoveI_c (n : Int) (s : Value) (l : List St) (v : Value) (p : List Int) (u : Value) (q : List Int) (t : Value) (r : List Int) (w : World) (hr : Rd w s l.length (l.flatMap St.cells)) (hp : RdI w v p) (hq : RdI w u q) (ht : RdI w t r) :
    Calls Try.prog 15 #[.agg #[.int .i64 n, s], v, u, t] w fun e w' => e = .returned (.tuple #[.int .i64 (slowestMoveV n l p q r).1, .bool (slowestMoveV n l p q r).2]) ∧ Below w.heap.size w w' := by
  have HR := Lib.hid hr
  have HQ := Lib.hid hq
  have HP := Lib.hid hp
  have HT := Lib.hid ht
  obtain ⟨Ap, cp, rfl, hcp, hmp, hp⟩ := hp
  obtain ⟨Aq, cq, rfl, hcq, hmq, hq⟩ := hq
  obtain ⟨At, ct, rfl, hct, hmt, ht⟩ := ht
  rw [maxLen_eq] at hmp hmq hmt
  have HPP := Lib.hid hp
  have HQQ := Lib.hid hq
  have HTT := Lib.hid ht
  clear hr hp hq ht
  go_enter Try.func15, Try.ntmps15
  go_wp2_with fail
  generalize hW : World.alloc w _ = w0
  have t0 : w0.cell? ⟨w.heap.size, 0, none⟩ = some (.int .i64 n) := by subst hW; simp [go_sem]
  have t1 : w0.cell? ⟨w.heap.size, 1, none⟩ = some s := by subst hW; simp [go_sem]
  have hb0 : Below w.heap.size w w0 := by subst hW; exact bel_al (Below.refl _ _) _
  have z0 : w.heap.size < w0.heap.size := by subst hW; simp
  have HB := Lib.hid hb0
  clear hW hb0
  refine (moversFit_c n s l _ _ p q _ _ t0 t1 (rd_below HR.out HB.out) (rdi_below HP.out HB.out) (rdi_below HQ.out HB.out)).mono ?_; rintro e w1 ⟨rfl, hb1⟩
  have k0 := (hb1.cell (p := ⟨w.heap.size, 0, none⟩) z0).trans t0
  have k1 := (hb1.cell (p := ⟨w.heap.size, 1, none⟩) z0).trans t1
  have HB1 := Lib.hid (bel_then HB.out hb1)
  have hs1 := hb1.size
  clear t0 t1 hb1
  by_cases hok : goodMv n l p q = true
  · obtain ⟨g1, g2, g3, g4, g5⟩ := goodMv_true hok
    by_cases hon : goodOn p.length q.length r = true
    · have hask : askO n l p q r = true := by unfold askO; rw [hok, hon]; rfl
      have HASK := Lib.hid hask
      obtain ⟨m, rfl⟩ := nat_of (goodTown_true g1).1
      obtain ⟨hrq, hrb⟩ := goodOn_true hon
      have HRQ := Lib.hid hrq
      clear hrq
      have HG1 := Lib.hid g1
      have HG2 := Lib.hid g2
      have HG5 := Lib.hid g5
      have HRB := Lib.hid hrb
      have K0 := Lib.hid k0
      have K1 := Lib.hid k1
      have HF : Hid (slowestMoveV (m : Int) l p q r = optB (slowK m (arcs l) p q r r.length)) := Lib.hid (by unfold slowestMoveV; rw [if_pos hask, Int.toNat_natCast])
      rw [hok]
      go_wp2_with fail
      refine (isAssignment_c p.length q.length _ r _ g4 g3 (rdi_below HT.out HB1.out)).mono ?_; rw [hon]; rintro e w2 ⟨rfl, rfl⟩
      clear g1 g2 g5 hrb hok hon hask k0 k1
      go_wp2_with fail
      go_loopw [10, 29] (fun v10 v29 wr => ∃ (k : Nat) (M : Int), k ≤ r.length ∧ v29 = .int .i64 k ∧ v10 = .int .i64 M ∧ Hid (slowK m (arcs l) p q r k = some M) ∧ Hid (Below w1.heap.size w1 wr)) (fun _ v29 _ => r.length - (intOf v29).toNat)
      case atStart => exact ⟨0, 0, Nat.zero_le _, rfl, rfl, Lib.hid rfl, Lib.hid (Below.refl _ _)⟩
      case round =>
        obtain ⟨k, M, hk, rfl, rfl, HM, HBL⟩ := hrel
        obtain ⟨wA, rfl⟩ : ∃ wA : World, wA = wr := ⟨_, rfl⟩
        by_cases hlt : k < r.length
        · obtain ⟨b, off, rfl, hbl, hcell⟩ := HTT.out (by omega)
          obtain ⟨x, hx⟩ : ∃ x, r[k]? = some x := ⟨_, List.getElem?_eq_getElem hlt⟩
          have hbw := bel_then HB1.out HBL.out
          have c0 := cell_at hcell hbw hbl (ints_get hx)
          have hxb := HRB.out x (List.mem_of_getElem? hx)
          have hxe := getD_of hx
          have HXE := Lib.hid hxe
          clear hcell hx hxe
          by_cases hneg : x < 0
          · have h1 := slowK_skip HM.out (by rw [HXE.out]; exact hneg)
            have H1 := Lib.hid h1
            clear h1 hbw
            go_wp2
            exact ⟨⟨k + 1, M, by omega, by go_num, rfl, H1, HBL⟩, by simp [intOf]; omega⟩
          · obtain ⟨xn, rfl⟩ := Int.eq_ofNat_of_zero_le (by omega : 0 ≤ x)
            have hxp : xn < p.length := by omega
            have hkq : k < q.length := by have := HRQ.out; omega
            obtain ⟨b2, off2, rfl, hbl2, hcell2⟩ := HPP.out (by omega)
            obtain ⟨b3, off3, rfl, hbl3, hcell3⟩ := HQQ.out (by omega)
            obtain ⟨y, hy⟩ : ∃ y, p[xn]? = some y := ⟨_, List.getElem?_eq_getElem hxp⟩
            obtain ⟨z, hz⟩ : ∃ z, q[k]? = some z := ⟨_, List.getElem?_eq_getElem (by omega)⟩
            have d0 := cell_at hcell2 hbw hbl2 (ints_get hy)
            have d1 := cell_at hcell3 hbw hbl3 (ints_get hz)
            have hyb := HG5.out y (List.mem_of_getElem? hy)
            have hzb := HG2.out z (List.mem_of_getElem? hz)
            obtain ⟨yn, rfl⟩ := Int.eq_ofNat_of_zero_le hyb.1
            obtain ⟨zn, rfl⟩ := Int.eq_ofNat_of_zero_le hzb.1
            have hyn : yn < m := by omega
            have hzn : zn < m := by omega
            have hmt : moveT m (arcs l) p q r k = (distT m (arcs l) yn).getD zn 0 := by
              unfold moveT; rw [HXE.out, Int.toNat_natCast, getD_of hy, getD_of hz, Int.toNat_natCast, Int.toNat_natCast]
            obtain ⟨T, hT⟩ : ∃ T, (distT m (arcs l) yn).getD zn 0 = T := ⟨_, rfl⟩
            rw [hT] at hmt
            have HMT := Lib.hid hmt
            have HTE := Lib.hid hT
            have e0 := (HBL.out.cell (p := ⟨w.heap.size, 0, none⟩) (by show w.heap.size < _; omega)).trans K0.out
            have e1 := (HBL.out.cell (p := ⟨w.heap.size, 1, none⟩) (by show w.heap.size < _; omega)).trans K1.out
            have E0 := Lib.hid e0
            have E1 := Lib.hid e1
            have hsA := hbw.size
            have HBW := Lib.hid hbw
            have hA2 : b2 < wA.heap.size := by omega
            have hA3 : b3 < wA.heap.size := by omega
            have x0 : (0 : Int) ≤ (xn : Int) := by omega
            have x1 : (xn : Int) < (p.length : Int) := by omega
            have x2 : (0 : Int) ≤ (k : Int) := by omega
            have x3 : (k : Int) < (q.length : Int) := by omega
            have x4 : (0 : Int) ≤ (zn : Int) := by omega
            have x5 : (zn : Int) < (m : Int) := by omega
            clear hcell2 hcell3 hy hz hyb hzb hmt hT e0 e1 hbw hxb
            go_wp2_with fail
            go_region_with
              (first | (go_at_call 46; have hcall := timesI_c m s l w.heap.size yn wA.drew HG1.out hyn E0.out E1.out (rd_below HR.out (bel_dr HBW.out)); refine hcall.mono ?_; rintro e w5 ⟨v5, rfl, ho5, hb5⟩; rw [distT_len] at ho5; obtain ⟨h, cap5, rfl, hbh, hhl, hcap5, hcm5⟩ := own_shape ho5 (by omega); have e5 := own_cell ho5 hzn; rw [HTE.out] at e5; have y2 := (hb5.cell (p := ⟨b2, off2 + xn, none⟩) hA2).trans d0; have y3 := (hb5.cell (p := ⟨b3, off3 + k, none⟩) hA3).trans d1; have HB5 : Hid (Below wA.heap.size wA w5) := Lib.hid (bel_then (bel_dr (Below.refl _ _)) hb5); clear hb5 ho5 hcall) | fail)
            all_goals
              have HB6 := Lib.hid (bel_then HBL.out HB5.out)
              clear HB5 y2 y3
              by_cases hTn : T < 0
              · have hs : slowK m (arcs l) p q r r.length = none := by
                  have h1 := slowK_none (slowK_out HM.out (by rw [HXE.out]; omega) (by rw [HMT.out]; exact hTn)) (r.length - (k + 1))
                  rwa [show k + 1 + (r.length - (k + 1)) = r.length by omega] at h1
                have HS := Lib.hid hs
                clear hs
                go_wp2
                go_ret2
                rw [HF.out, HS.out]
                exact ⟨rfl, bel_then HB1.out HB6.out⟩
              · have hTp : 0 ≤ T := by omega
                have hs := slowK_max HM.out (by rw [HXE.out]; omega) (by rw [HMT.out]; exact hTn)
                rw [HMT.out] at hs
                have HS := Lib.hid hs
                clear hs hTn
                go_wp2
                refine ⟨⟨k + 1, maxI M T, by omega, by go_num, ?_, HS, HB6⟩, by simp [intOf]; omega⟩
                unfold maxI
                refine congrArg (Value.int .i64) ?_
                split <;> split <;> omega
        · obtain rfl : k = r.length := by omega
          go_wp2
          go_ret2
          rw [HF.out, HM.out]
          exact ⟨rfl, bel_then HB1.out HBL.out⟩
    · have hon : goodOn p.length q.length r = false := by simpa using hon
      have hask : ¬ (askO n l p q r = true) := by unfold askO; rw [hon]; simp
      have HASK := Lib.hid hask
      rw [hok]
      go_wp2_with fail
      refine (isAssignment_c p.length q.length _ r _ g4 g3 (rdi_below HT.out HB1.out)).mono ?_; rw [hon]; rintro e w2 ⟨rfl, rfl⟩
      go_wp2
      go_ret2
      unfold slowestMoveV; rw [if_neg HASK.out]
      exact ⟨rfl, HB1.out⟩
  · have hok : goodMv n l p q = false := by simpa using hok
    have hask : ¬ (askO n l p q r = true) := by unfold askO; rw [hok]; simp
    have HASK := Lib.hid hask
    rw [hok]
    go_wp2
    go_ret2
    unfold slowestMoveV; rw [if_neg HASK.out]
    exact ⟨rfl, HB1.out⟩
theorem moveT_at {n : Nat} {ar : List Arc} {p q r : List Int} {k xn : Nat} {y z : Int} (hx : r.getD k 0 = (xn : Int)) (hy : p[xn]? = some y) (hz : q[k]? = some z) : moveT n ar p q r k = (distT n ar y.toNat).getD z.toNat 0 := by
  unfold moveT; rw [hx, Int.toNat_natCast, getD_of hy, getD_of hz]
/-- A row of a table of times, in a later world, and one of its cells. -/
theorem timesL_cell {n : Nat} {ar : List Arc} {p q : List Int} {i k : Nat} {x s : Int} (hx : p[i]? = some x) (hs : q[k]? = some s) : ∃ row, (timesL n ar p q)[i]? = some row ∧ row.length = q.length ∧ row[k]? = some ((distT n ar x.toNat).getD s.toNat 0) := by
  refine ⟨q.map fun s => (distT n ar x.toNat).getD s.toNat 0, ?_, by simp, ?_⟩
  · unfold timesL; rw [List.getElem?_map, hx]; rfl
  · rw [List.getElem?_map, hs]; rfl

set_option maxRecDepth 100000 in
set_option maxHeartbeats 4000000 in
theorem slowestMoveS_c (n : Int) (s : Value) (l : List St) (v : Value) (p : List Int) (u : Value) (q : List Int) (t : Value) (r : List Int) (w : World) (hr : Rd w s l.length (l.flatMap St.cells)) (hp : RdI w v p) (hq : RdI w u q) (ht : RdI w t r) :
    Calls Try.prog 12 #[.agg #[.int .i64 n, s], v, u, t] w fun e w' => e = .returned (.tuple #[.int .i64 (slowestMoveV n l p q r).1, .bool (slowestMoveV n l p q r).2]) ∧ Below w.heap.size w w' := by
  have HR := Lib.hid hr
  have HQ := Lib.hid hq
  have HP := Lib.hid hp
  have HT := Lib.hid ht
  obtain ⟨At, ct, rfl, hct, hmt, ht⟩ := ht
  rw [maxLen_eq] at hmt
  have HTT := Lib.hid ht
  clear hr hp hq ht
  go_enter Try.func12, Try.ntmps12
  go_wp2_with fail
  generalize hW : World.alloc w _ = w0
  have t0 : w0.cell? ⟨w.heap.size, 0, none⟩ = some (.int .i64 n) := by subst hW; simp [go_sem]
  have t1 : w0.cell? ⟨w.heap.size, 1, none⟩ = some s := by subst hW; simp [go_sem]
  have hb0 : Below w.heap.size w w0 := by subst hW; exact bel_al (Below.refl _ _) _
  have z0 : w.heap.size < w0.heap.size := by subst hW; simp
  have HB := Lib.hid hb0
  clear hW hb0
  go_wp2_with fail
  refine (mvAsked_c n s l _ _ p q _ (rd_below HR.out HB.out) (rdi_below HP.out HB.out) (rdi_below HQ.out HB.out)).mono ?_; rintro e w1 ⟨rfl, hb1⟩
  have k0 := (hb1.cell (p := ⟨w.heap.size, 0, none⟩) z0).trans t0
  have k1 := (hb1.cell (p := ⟨w.heap.size, 1, none⟩) z0).trans t1
  have HB1 := Lib.hid (bel_then HB.out hb1)
  have hs1 := hb1.size
  clear t0 t1 hb1
  by_cases hok : goodMv n l p q = true
  · obtain ⟨g1, g2, g3, g4, g5⟩ := goodMv_true hok
    by_cases hon : goodOn p.length q.length r = true
    · have hask : askO n l p q r = true := by unfold askO; rw [hok, hon]; rfl
      obtain ⟨m, rfl⟩ := nat_of (goodTown_true g1).1
      obtain ⟨hrq, hrb⟩ := goodOn_true hon
      have HRQ := Lib.hid hrq
      clear hrq
      have HG1 := Lib.hid g1
      have HG2 := Lib.hid g2
      have HG5 := Lib.hid g5
      have HRB := Lib.hid hrb
      have HF : Hid (slowestMoveV (m : Int) l p q r = optB (slowK m (arcs l) p q r r.length)) := Lib.hid (by unfold slowestMoveV; rw [if_pos hask, Int.toNat_natCast])
      rw [hok]
      go_wp2_with fail
      refine (mvOnce_c _ _ _ p q r _ g4 (rdi_below HP.out HB1.out) (rdi_below HQ.out HB1.out) (rdi_below HT.out HB1.out)).mono ?_; rw [hon]; rintro e w2 ⟨rfl, rfl⟩
      clear g1 g2 g5 hrb hok hon hask
      go_wp2_with fail
      refine (mvTimes_c m s _ _ l p q _ HG1.out HG5.out HG2.out g4 g3 (rd_below HR.out HB1.out) (rdi_below HP.out HB1.out) (rdi_below HQ.out HB1.out)).mono ?_; rintro e w3 ⟨v3, rfl, ⟨vs, ho3⟩, hb3⟩
      have hvl := ho3.len
      have HV := Lib.hid ho3.rd
      obtain ⟨A3, c3, hx3, hc3, hm3, hr3⟩ := ho3.rd.outer
      subst hx3
      rw [maxLen_eq] at hm3
      rw [timesL_len] at hc3 hr3 hvl ⊢
      have HR3 := Lib.hid hr3
      have HB3 := Lib.hid (bel_then HB1.out hb3)
      clear ho3 hb3 hr3 k0 k1
      go_wp2_with fail
      go_loopw [11, 32] (fun v11 v32 wr => ∃ (k : Nat) (M : Int), k ≤ r.length ∧ v32 = .int .i64 k ∧ v11 = .int .i64 M ∧ Hid (slowK m (arcs l) p q r k = some M) ∧ wr = w3) (fun _ v32 _ => r.length - (intOf v32).toNat)
      case atStart => exact ⟨0, 0, Nat.zero_le _, rfl, rfl, Lib.hid rfl, rfl⟩
      case round =>
        obtain ⟨k, M, hk, rfl, rfl, HM, rfl⟩ := hrel
        by_cases hlt : k < r.length
        · obtain ⟨b, off, rfl, hbl, hcell⟩ := HTT.out (by omega)
          obtain ⟨x, hx⟩ : ∃ x, r[k]? = some x := ⟨_, List.getElem?_eq_getElem hlt⟩
          have c0 := cell_at hcell HB3.out hbl (ints_get hx)
          have hxb := HRB.out x (List.mem_of_getElem? hx)
          have hxe := getD_of hx
          have HXE := Lib.hid hxe
          clear hcell hx hxe
          by_cases hneg : x < 0
          · have h1 := slowK_skip HM.out (by rw [HXE.out]; exact hneg)
            have H1 := Lib.hid h1
            clear h1
            go_wp2
            exact ⟨⟨k + 1, M, by omega, by go_num, rfl, H1, (by first | rfl | trivial)⟩, by simp [intOf]; omega⟩
          · obtain ⟨xn, rfl⟩ := Int.eq_ofNat_of_zero_le (by omega : 0 ≤ x)
            have hxp : xn < p.length := by omega
            have hkq : k < q.length := by have := HRQ.out; omega
            obtain ⟨y, hy⟩ : ∃ y, p[xn]? = some y := ⟨_, List.getElem?_eq_getElem hxp⟩
            obtain ⟨z, hz⟩ : ∃ z, q[k]? = some z := ⟨_, List.getElem?_eq_getElem hkq⟩
            obtain ⟨row, hrow, hrl, hrk⟩ := timesL_cell (n := m) (ar := arcs l) hy hz
            have hmt := moveT_at (n := m) (ar := arcs l) HXE.out hy hz
            rw [← hmt] at hrk
            obtain ⟨T, hT⟩ : ∃ T, moveT m (arcs l) p q r k = T := ⟨_, rfl⟩
            rw [hT] at hrk
            have HMT := Lib.hid hT
            obtain ⟨b2, off2, rfl, hbl2, hcell2⟩ := HR3.out (by omega)
            obtain ⟨vr, hvr⟩ : ∃ vr, vs[xn]? = some vr := ⟨_, List.getElem?_eq_getElem (by omega)⟩
            have d0 := hcell2 _ _ hvr
            obtain ⟨A5, c5, rfl, hc5, hm5, hr5⟩ := HV.out.inner xn vr row hvr hrow
            obtain ⟨b5, off5, rfl, hbl5, hcell5⟩ := hr5 (by omega)
            have d1 := hcell5 _ _ (ints_get hrk)
            rw [maxLen_eq] at hm5
            have x0 : (0 : Int) ≤ (xn : Int) := by omega
            have x1 : (xn : Int) < (p.length : Int) := by omega
            have x2 : (0 : Int) ≤ (k : Int) := by omega
            have x3 : (k : Int) < (row.length : Int) := by omega
            clear hy hz hrow hmt hT hcell2 hvr hr5 hcell5 hrk hrl hxb
            by_cases hTn : T < 0
            · have hs : slowK m (arcs l) p q r r.length = none := by
                have h1 := slowK_none (slowK_out HM.out (by rw [HXE.out]; omega) (by rw [HMT.out]; exact hTn)) (r.length - (k + 1))
                rwa [show k + 1 + (r.length - (k + 1)) = r.length by omega] at h1
              have HS := Lib.hid hs
              clear hs
              go_wp2
              go_ret2
              rw [HF.out, HS.out]
              exact ⟨rfl, HB3.out⟩
            · have hTp : 0 ≤ T := by omega
              have hs := slowK_max HM.out (by rw [HXE.out]; omega) (by rw [HMT.out]; exact hTn)
              rw [HMT.out] at hs
              have HS := Lib.hid hs
              clear hs hTn
              go_wp2_with (go_at_call 42; refine (l1Most_c _ _ _).mono ?_; rintro e w' ⟨rfl, rfl⟩)
              exact ⟨⟨k + 1, maxI M T, by omega, by go_num, rfl, HS, (by first | rfl | trivial)⟩, by simp [intOf]; omega⟩
        · obtain rfl : k = r.length := by omega
          go_wp2
          go_ret2
          rw [HF.out, HM.out]
          exact ⟨rfl, HB3.out⟩
    · have hon : goodOn p.length q.length r = false := by simpa using hon
      have hask : ¬ (askO n l p q r = true) := by unfold askO; rw [hon]; simp
      have HASK := Lib.hid hask
      rw [hok]
      go_wp2_with fail
      refine (mvOnce_c _ _ _ p q r _ g4 (rdi_below HP.out HB1.out) (rdi_below HQ.out HB1.out) (rdi_below HT.out HB1.out)).mono ?_; rw [hon]; rintro e w2 ⟨rfl, rfl⟩
      go_wp2
      go_ret2
      unfold slowestMoveV; rw [if_neg HASK.out]
      exact ⟨rfl, HB1.out⟩
  · have hok : goodMv n l p q = false := by simpa using hok
    have hask : ¬ (askO n l p q r = true) := by unfold askO; rw [hok]; simp
    have HASK := Lib.hid hask
    rw [hok]
    go_wp2
    go_ret2
    unfold slowestMoveV; rw [if_neg HASK.out]
    exact ⟨rfl, HB1.out⟩
end Go.Proofs.Ytgdigcnpjkkmfaa
