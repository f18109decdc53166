/-
  spec.ApartNodes.
-/
import Derived.Test.YtemcdgchleijbaaApart
import Derived.Test.YtemcdgchleijbaaLaw
namespace Go.Proofs.Ytemcdgchleijbaa
open Go.RowKit

def pairP (m : Nat) (ar : List Arc) (a : Int) (k t r : Nat) : Bool := !(reachP m ar a r k && reachP m ar a r t)
theorem apart_take {m : Nat} {ar : List Arc} {a : Int} {L : List Int} {k i t : Nat} {b : Bool} (h : apartP m ar a (L.take i) k = b) (hx : L[i]? = some (t : Int)) : apartP m ar a (L.take (i + 1)) k = (b && (List.range m).all (pairP m ar a k t)) := by
  unfold apartP at h ⊢
  rw [take_succ_of hx, List.all_append, h, List.all_cons, List.all_nil, Bool.and_true, Int.toNat_natCast]
  rfl
theorem range_all_succ (p : Nat → Bool) (r : Nat) : (List.range (r + 1)).all p = ((List.range r).all p && p r) := by rw [List.range_succ, List.all_append]; simp

set_option maxRecDepth 100000 in
set_option maxHeartbeats 1000000 in
theorem apartNodesS_c (n : Int) (s : Value) (l : List St) (a : Int) (w : World) (hr : Rd w s l.length (l.flatMap St.cells)) :
    Calls Try.prog 24 #[.agg #[.int .i64 n, s], .int .i64 a] w (OwnIB (apartNodesV n l a) w) := by
  have HR := Lib.hid hr
  have hbx : ∀ o, Below w.heap.size w (w.alloc o) := fun o => bel_al (Below.refl _ _) o
  obtain ⟨As, cs, rfl, _⟩ := hr
  by_cases hg : goodTown n l = true
  · by_cases hl : inB a 0 36000 = true
    · obtain ⟨m, rfl⟩ := nat_of (goodTown_true hg).1
      have HF : Hid (apartNodesV m l a = apartNodesW m l a) := Lib.hid (by unfold apartNodesV; rw [hg, hl, Int.toNat_natCast]; rfl)
      obtain ⟨hm1, hm2, _, _⟩ := goodTown_true hg
      obtain ⟨hlim0, hlim1⟩ := inB_true hl
      have HG := Lib.hid hg
      have HL := Lib.hid hl
      clear hg hl
      go_enter Try.func24, Try.ntmps24
      go_wp2_with fail
      generalize hw1 : World.alloc w _ = w1
      have k0 : w1.cell? ⟨w.heap.size, 0, none⟩ = some (.int .i64 m) := by subst hw1; simp [go_sem]
      have k1 : w1.cell? ⟨w.heap.size, 1, none⟩ = some (.slice As l.length cs) := by subst hw1; simp [go_sem]
      have hb1 : Below w.heap.size w w1 := by subst hw1; exact hbx _
      have hz : w.heap.size < w1.heap.size := by subst hw1; simp
      clear hw1 hbx
      refine (toGood_c m _ l _ (rd_below HR.out hb1)).mono ?_; rw [HG.out]; rintro e w2 ⟨rfl, hb2⟩
      have hz2 : w.heap.size < w2.heap.size := Nat.lt_of_lt_of_le hz hb2.size
      have z0 := (hb2.cell (p := ⟨w.heap.size, 0, none⟩) hz).trans k0
      have z1 := (hb2.cell (p := ⟨w.heap.size, 1, none⟩) hz).trans k1
      have HB := Lib.hid (bel_then hb1 hb2)
      have HR2 := Lib.hid (rd_below HR.out (bel_then hb1 hb2))
      clear k0 k1 hb1 hb2 hz
      go_wp2_with fail
      refine (dsLimit_c a _).mono ?_; rw [HL.out]; rintro e w2 ⟨rfl, rfl⟩
      obtain ⟨i0, hi0, hz0, hz1, hz2'⟩ := info_parts Try.infoInt
      go_wp2_with fail
      refine (cvReach_c m _ l a _ HG.out HR2.out).mono ?_; rintro e w4 ⟨xr, rfl, hor, hb4⟩
      rw [reachL_len] at hor
      obtain ⟨gr, capr, rfl, hbr, hrl, hcapr, _⟩ := own_shape hor (by omega)
      have HBB := Lib.hid (bel_then HB.out hb4)
      have HOR := Lib.hid hor
      clear hor hb4 z0 z1
      go_wp2_with fail
      go_loopw [7, 27] (fun v7 v27 wr => ∃ (k : Nat) (L : List Int), k ≤ m ∧ v27 = .int .i64 k ∧ L.length ≤ k ∧ Hid (apartL m (arcs l) a k = L) ∧ Hid (wr.ownsRow w4.heap.size 3 1 v7 L.length (ints L)) ∧ Hid (Below w4.heap.size w4 wr)) (fun _ v27 _ => m - (intOf v27).toNat)
      case atStart => exact ⟨0, [], Nat.zero_le _, rfl, by simp, Lib.hid rfl, Lib.hid (World.ownsRow_nil _ _ _ _), Lib.hid (Below.refl _ _)⟩
      case round =>
        obtain ⟨k, L, hk, rfl, hLk, HL', HOL, HBL⟩ := hrel
        obtain ⟨wA, rfl⟩ : ∃ wA : World, wA = wr := ⟨_, rfl⟩
        by_cases hlt : k < m
        · obtain ⟨AL, cL, hxL, hcL, hmL, hrL⟩ := own_rd HOL.out
          subst hxL
          rw [maxLen_eq] at hmL
          have HRL := Lib.hid hrL
          have HMEM : Hid (∀ x ∈ L, ∃ i : Nat, x = (i : Int) ∧ i < m) := Lib.hid (fun x hx => by rw [← HL'.out] at hx; obtain ⟨i, h1, h2⟩ := apartL_mem hx; exact ⟨i, h1, by omega⟩)
          have uk : IntKind.u64.wrap (k : Int) = (k : Int) := by rw [IntKind.wrap_u64]; omega
          have k0 : (0 : Int) ≤ (k : Int) := by omega
          have k64 : (k : Int) ≤ 64 := by omega
          clear hrL
          go_wp2_with fail
          go_loopw [9, 32] (fun v9 v32 wr2 => ∃ (i : Nat) (b : Bool), i ≤ L.length ∧ v32 = .int .i64 i ∧ v9 = .bool b ∧ Hid (apartP m (arcs l) a (L.take i) k = b) ∧ wr2 = wA) (fun _ v32 _ => L.length - (intOf v32).toNat)
          case atStart => exact ⟨0, true, Nat.zero_le _, rfl, rfl, Lib.hid rfl, rfl⟩
          case round =>
            obtain ⟨i, b, hi, rfl, rfl, HBP, rfl⟩ := hrel
            by_cases hil : i < L.length
            · obtain ⟨bb, off, rfl, hbl, hcell⟩ := HRL.out (by omega)
              obtain ⟨x, hx⟩ : ∃ x, L[i]? = some x := ⟨_, List.getElem?_eq_getElem hil⟩
              have cx := hcell _ _ (ints_get hx)
              obtain ⟨t, rfl, htm⟩ := HMEM.out x (List.mem_of_getElem? hx)
              have HX := Lib.hid hx
              have ut : IntKind.u64.wrap (t : Int) = (t : Int) := by rw [IntKind.wrap_u64]; omega
              have t0 : (0 : Int) ≤ (t : Int) := by omega
              have t64 : (t : Int) ≤ 64 := by omega
              clear hx hcell
              go_wp2_with fail
              go_loopw [9, 38] (fun v9 v38 wr3 => ∃ (r : Nat) (c : Bool), r ≤ m ∧ v38 = .int .i64 r ∧ v9 = .bool c ∧ Hid ((b && (List.range r).all (pairP m (arcs l) a k t)) = c) ∧ wr3 = wr) (fun _ v38 _ => m - (intOf v38).toNat)
              case atStart => exact ⟨0, b, Nat.zero_le _, rfl, rfl, Lib.hid (by simp), rfl⟩
              case round =>
                rename_i wQ _ _ _ _ _ _ _ _ _ _ _ _ _ _ _ _ _ _ _ _ _ _ _
                obtain ⟨r, c, hr, rfl, rfl, HCP, hwr⟩ := hrel
                subst hwr
                by_cases hrm : r < m
                · have cR := (HBL.out.cell (p := ⟨gr, r, none⟩) hrl).trans (own_cell HOR.out hrm)
                  rw [reachL_get hrm] at cR
                  have hRlt := reachM_lt m (arcs l) a r
                  have hpb := pow_bd (show m ≤ 14 by omega)
                  obtain ⟨R, hR⟩ : ∃ R, reachM m (arcs l) a r = R := ⟨_, rfl⟩
                  rw [hR] at cR hRlt
                  have hb1 := bit_of R k (by omega)
                  have hb2 := bit_of R t (by omega)
                  have hp1 : R.testBit k = reachP m (arcs l) a r k := by rw [← hR]; exact reachM_bit hlt
                  have hp2 : R.testBit t = reachP m (arcs l) a r t := by rw [← hR]; exact reachM_bit htm
                  have hstep : (b && (List.range (r + 1)).all (pairP m (arcs l) a k t)) = (c && !(R.testBit k && R.testBit t)) := by
                    rw [range_all_succ, ← Bool.and_assoc, HCP.out, hp1, hp2]; rfl
                  clear hp1 hp2 hRlt hpb hR
                  cases c with
                  | false =>
                    have HST := Lib.hid hstep
                    clear hstep hb1 hb2
                    go_wp2
                    exact ⟨⟨r + 1, false, by omega, by go_num, rfl, Lib.hid (by rw [HST.out]; rfl), (by first | rfl | trivial)⟩, by simp [intOf]; omega⟩
                  | true =>
                    by_cases g1 : R.testBit k = true
                    · rw [if_pos g1] at hb1
                      by_cases g2 : R.testBit t = true
                      · rw [if_pos g2] at hb2
                        have HST : Hid ((b && (List.range (r + 1)).all (pairP m (arcs l) a k t)) = false) := Lib.hid (by rw [hstep, g1, g2]; rfl)
                        clear hstep g1 g2
                        go_wp2
                        exact ⟨⟨r + 1, false, by omega, by go_num, rfl, HST, (by first | rfl | trivial)⟩, by simp [intOf]; omega⟩
                      · rw [if_neg g2] at hb2
                        have g2' : R.testBit t = false := by simpa using g2
                        have HST : Hid ((b && (List.range (r + 1)).all (pairP m (arcs l) a k t)) = true) := Lib.hid (by rw [hstep, g1, g2']; rfl)
                        clear hstep g1 g2 g2'
                        go_wp2
                        exact ⟨⟨r + 1, true, by omega, by go_num, rfl, HST, (by first | rfl | trivial)⟩, by simp [intOf]; omega⟩
                    · rw [if_neg g1] at hb1
                      have g1' : R.testBit k = false := by simpa using g1
                      have HST : Hid ((b && (List.range (r + 1)).all (pairP m (arcs l) a k t)) = true) := Lib.hid (by rw [hstep, g1']; rfl)
                      clear hstep g1 g1' hb2
                      go_wp2
                      exact ⟨⟨r + 1, true, by omega, by go_num, rfl, HST, (by first | rfl | trivial)⟩, by simp [intOf]; omega⟩
                · obtain rfl : r = m := by omega
                  have HBP' : Hid (apartP r (arcs l) a (L.take (i + 1)) k = c) := Lib.hid (by rw [apart_take HBP.out HX.out, HCP.out])
                  go_wp2
                  exact ⟨⟨i + 1, c, by omega, by go_num, rfl, HBP', (by first | rfl | trivial)⟩, by simp [intOf]; omega⟩
            · obtain rfl : i = L.length := by omega
              have e := HBP.out
              rw [List.take_length] at e
              have HE := Lib.hid e
              clear e
              cases b with
              | true =>
                have HL2 : Hid (apartL m (arcs l) a (k + 1) = L ++ [(k : Int)]) := Lib.hid (by
                  show (if apartP m (arcs l) a (apartL m (arcs l) a k) k = true then apartL m (arcs l) a k ++ [(k : Int)] else apartL m (arcs l) a k) = _
                  rw [HL'.out, if_pos HE.out])
                go_wp2_with (at_builtin; refine wpList_app_rd _ rfl _ _ 25 rfl w4.heap.size 3 i0 (.int .i64 0) 1 8 Try.underlying25 hi0 hz0 hz1 hz2' rfl (by decide) _ _ _ rfl (HOL.out.alloc _) _ 1 [.int .i64 k] rfl (rd_new _ rfl (Nat.le_refl _) (by rw [maxLen_eq]; omega)) rfl (ints_one [(k : Int)]) (by rw [maxLen_eq]; omega) (by omega) (by have := HBL.out.size; simp; omega) ?_; intro v' w7 hown' hgrow hat)
                refine ⟨⟨k + 1, L ++ [(k : Int)], by omega, by go_num, by rw [List.length_append]; simp; omega, HL2, Lib.hid ?_, Lib.hid (bel_grown (bel_al HBL.out _) hgrow (fun q e => (HOL.out.lt q e).1))⟩, by simp [intOf]; omega⟩
                rw [ints_append, List.length_append]; exact hown'
              | false =>
                have HL2 : Hid (apartL m (arcs l) a (k + 1) = L) := Lib.hid (by
                  show (if apartP m (arcs l) a (apartL m (arcs l) a k) k = true then apartL m (arcs l) a k ++ [(k : Int)] else apartL m (arcs l) a k) = _
                  rw [HL'.out, if_neg (by rw [HE.out]; simp)])
                go_wp2
                exact ⟨⟨k + 1, L, by omega, by go_num, by omega, HL2, HOL, HBL⟩, by simp [intOf]; omega⟩
        · obtain rfl : k = m := by omega
          have HW : Hid (apartNodesW k l a = (L, true)) := Lib.hid (by unfold apartNodesW; rw [HL'.out])
          go_wp2
          go_ret2
          rw [HF.out, HW.out]
          refine ⟨_, rfl, ?_, bel_then HBB.out HBL.out⟩
          exact own_base HOL.out HBB.out.size
    · have hl : inB a 0 36000 = false := by simpa using hl
      have HF : Hid (apartNodesV n l a = ([], false)) := Lib.hid (by unfold apartNodesV; rw [hl, Bool.and_false]; rfl)
      have HG := Lib.hid hg
      have HL := Lib.hid hl
      clear hg hl
      go_enter Try.func24, Try.ntmps24
      go_wp2_with fail
      refine (toGood_c n _ l _ (rd_below HR.out (hbx _))).mono ?_; rw [HG.out]; rintro e w2 ⟨rfl, hb2⟩
      go_wp2_with fail
      refine (dsLimit_c a _).mono ?_; rw [HL.out]; rintro e w2 ⟨rfl, rfl⟩
      go_wp2
      go_ret2
      rw [HF.out]
      exact ⟨_, rfl, World.ownsRow_nil _ _ _ _, bel_then (hbx _) hb2⟩
  · have hg : goodTown n l = false := by simpa using hg
    have HF : Hid (apartNodesV n l a = ([], false)) := Lib.hid (by unfold apartNodesV; rw [hg]; rfl)
    have HG := Lib.hid hg
    clear hg
    go_enter Try.func24, Try.ntmps24
    go_wp2_with fail
    refine (toGood_c n _ l _ (rd_below HR.out (hbx _))).mono ?_; rw [HG.out]; rintro e w2 ⟨rfl, hb2⟩
    go_wp2
    go_ret2
    rw [HF.out]
    exact ⟨_, rfl, World.ownsRow_nil _ _ _ _, bel_then (hbx _) hb2⟩
end Go.Proofs.Ytemcdgchleijbaa
