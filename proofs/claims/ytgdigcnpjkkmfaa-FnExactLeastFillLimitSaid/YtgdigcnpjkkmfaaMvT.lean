/-
  The tables: who reaches whom, on both sides.
-/
import Derived.Test.YtgdigcnpjkkmfaaMvA
import Derived.Test.YtgdigcnpjkkmfaaSS
import Derived.Test.YtgdigcnpjkkmfaaTimesS
namespace Go.Proofs.Ytgdigcnpjkkmfaa
open Go.RowKit

/-- The movers (places in p) that reach node x within a. -/
def reachP (n : Nat) (ar : List Arc) (p : List Int) (a x : Int) (i : Nat) : Bool := inB ((distT n ar x.toNat).getD (p.getD i 0).toNat 0) 0 a
def reachL (n : Nat) (ar : List Arc) (p q : List Int) (a : Int) : List (List Int) := q.map fun x => selI (reachP n ar p a x) p.length
theorem reachL_len (n : Nat) (ar : List Arc) (p q : List Int) (a : Int) : (reachL n ar p q a).length = q.length := by simp [reachL]
theorem reachL_snoc {n : Nat} {ar : List Arc} {p q : List Int} {a x : Int} {i : Nat} (h : q[i]? = some x) : reachL n ar p (q.take (i + 1)) a = reachL n ar p (q.take i) a ++ [selI (reachP n ar p a x) p.length] := by
  unfold reachL; rw [take_succ_of h, List.map_append]; rfl

set_option maxRecDepth 100000 in
set_option maxHeartbeats 4000000 in
theorem reachTable_c (n : Nat) (s v u : Value) (l : List St) (p q : List Int) (a : Int) (B : Nat) (w : World) (hg : goodTown n l = true) (hp : ∀ x ∈ p, 0 ≤ x ∧ x ≤ (n : Int) - 1) (hq : ∀ x ∈ q, 0 ≤ x ∧ x ≤ (n : Int) - 1) (hp7 : p.length ≤ 7) (hq6 : q.length ≤ 6)
    (t0 : w.cell? ⟨B, 0, none⟩ = some (.int .i64 n)) (t1 : w.cell? ⟨B, 1, none⟩ = some s) (hr : Rd w s l.length (l.flatMap St.cells)) (hvp : RdI w v p) (hvq : RdI w u q) :
    Calls Try.prog 51 #[.pointer (some ⟨B, 0, none⟩), v, u, .int .i64 a] w (OwnSS (reachL n (arcs l) p q a) w) := by
  obtain ⟨hn1, hn2, _, _⟩ := goodTown_true hg
  obtain ⟨A, c, rfl, hc, hm, hvp⟩ := hvp
  obtain ⟨A', c', rfl, hc', hm', hvq⟩ := hvq
  rw [maxLen_eq] at hm hm'
  have hB : B < w.heap.size := World.block_lt_of_cell? w _ t0
  have HVP := Lib.hid hvp
  have HVQ := Lib.hid hvq
  have HP := Lib.hid hp
  have HQ := Lib.hid hq
  have HG := Lib.hid hg
  have HR := Lib.hid hr
  have T0 := Lib.hid t0
  have T1 := Lib.hid t1
  obtain ⟨i0, hi, hz0, hz1, hz2⟩ := info_parts Try.infoInt
  obtain ⟨iS, hiS, hzS0, hzS1, hzS2⟩ := info_parts Try.infoSS
  clear hvp hvq hp hq hg hr t0 t1
  go_enter Try.func51, Try.ntmps51
  go_wp2_with fail
  go_loopw [9, 18] (fun v9 v18 wr => ∃ (k : Nat) (vs : List Value) (L : List (List Int)), k ≤ q.length ∧ L.length = k ∧ v18 = .int .i64 k ∧ Hid (reachL n (arcs l) p (q.take k) a = L) ∧ Hid (SSv wr w.heap.size v9 vs L) ∧ Hid (Below w.heap.size w wr)) (fun _ v18 _ => q.length - (intOf v18).toNat)
  case atStart => exact ⟨0, [], [], Nat.zero_le _, rfl, rfl, Lib.hid rfl, Lib.hid (SSv.nil _ _), Lib.hid (Below.refl _ _)⟩
  case round =>
    obtain ⟨k, vs, L, hk, hLk, rfl, HL, HO, HB⟩ := hrel
    obtain ⟨wA, rfl⟩ : ∃ wA : World, wA = wr := ⟨_, rfl⟩
    by_cases hlt : k < q.length
    · obtain ⟨b, off, rfl, hbl, hcell⟩ := HVQ.out (by omega)
      obtain ⟨x, hx⟩ : ∃ x, q[k]? = some x := ⟨_, List.getElem?_eq_getElem hlt⟩
      have c0 := cell_at hcell HB.out hbl (ints_get hx)
      have hxb := HQ.out x (List.mem_of_getElem? hx)
      obtain ⟨xn, rfl⟩ := Int.eq_ofNat_of_zero_le hxb.1
      have hxn : xn < n := by omega
      have HX := Lib.hid hx
      have z0 := (HB.out.cell (p := ⟨B, 0, none⟩) hB).trans T0.out
      have z1 := (HB.out.cell (p := ⟨B, 1, none⟩) hB).trans T1.out
      have hsA := HB.out.size
      clear hcell hx hxb
      go_wp2_with fail
      refine (timesI_c n _ l B xn _ HG.out hxn z0 z1 (rd_below HR.out HB.out)).mono ?_
      rintro e w5 ⟨v5, rfl, ho5, hb5⟩
      rw [distT_len] at ho5
      obtain ⟨h, cap5, rfl, hbh, hhl, hcap5, hcm5⟩ := own_shape ho5 (by omega)
      obtain ⟨ev, hev⟩ : ∃ ev, distT n (arcs l) xn = ev := ⟨_, rfl⟩
      have hel : ev.length = n := by rw [← hev, distT_len]
      rw [hev] at ho5
      have HEV := Lib.hid hev
      have HEL := Lib.hid hel
      have HO5 := Lib.hid ho5
      have HB5 := Lib.hid hb5
      have HBW := Lib.hid (bel_then HB.out hb5)
      have HOS := Lib.hid (HO.out.below hb5)
      have hs5 := hb5.size
      have hpe : ∀ i, reachP n (arcs l) p a (xn : Int) i = inB (ev.getD (p.getD i 0).toNat 0) 0 a := fun i => by unfold reachP; rw [Int.toNat_natCast, hev]
      have HPE := Lib.hid hpe
      clear ho5 hb5 c0 hev hel z0 z1 hpe
      go_wp2_with fail
      go_loopw [13, 27] (fun v13 v27 wr => ∃ (j : Nat), j ≤ p.length ∧ v27 = .int .i64 j ∧ Hid (wr.ownsRow w5.heap.size 3 1 v13 (selI (reachP n (arcs l) p a xn) j).length (ints (selI (reachP n (arcs l) p a xn) j))) ∧ Hid (Below w5.heap.size w5 wr)) (fun _ v27 _ => p.length - (intOf v27).toNat)
      case atStart => exact ⟨0, Nat.zero_le _, rfl, Lib.hid (show w5.ownsRow w5.heap.size 3 1 (.slice none 0 0) 0 [] from World.ownsRow_nil _ _ _ _), Lib.hid (Below.refl _ _)⟩
      case round =>
        obtain ⟨j, hj, rfl, HOW, HBL⟩ := hrel
        obtain ⟨wB, rfl⟩ : ∃ wB : World, wB = wr := ⟨_, rfl⟩
        by_cases hjn : j < p.length
        · obtain ⟨b2, off2, rfl, hbl2, hcell⟩ := HVP.out (by omega)
          obtain ⟨y, hy⟩ : ∃ y, p[j]? = some y := ⟨_, List.getElem?_eq_getElem hjn⟩
          have d0 := cell_at hcell (bel_then HBW.out HBL.out) hbl2 (ints_get hy)
          have hyb := HP.out y (List.mem_of_getElem? hy)
          obtain ⟨yn, rfl⟩ := Int.eq_ofNat_of_zero_le hyb.1
          have hyn : yn < n := by omega
          have ce := (HBL.out.cell (p := ⟨h, yn, none⟩) hhl).trans (own_cell HO5.out hyn)
          have hsl := selI_len (reachP n (arcs l) p a xn) j
          have hpj : reachP n (arcs l) p a (xn : Int) j = inB (ev.getD yn 0) 0 a := by rw [HPE.out, show p.getD j 0 = (yn : Int) by simp [List.getD_eq_getElem?_getD, hy], Int.toNat_natCast]
          have HPJ := Lib.hid hpj
          obtain ⟨t, ht⟩ : ∃ t, ev.getD yn 0 = t := ⟨_, rfl⟩
          have hpj : reachP n (arcs l) p a (xn : Int) j = inB t 0 a := by rw [HPJ.out, ht]
          have HPJ := Lib.hid hpj
          rw [ht] at ce
          obtain ⟨S, hS⟩ : ∃ S, selI (reachP n (arcs l) p a (xn : Int)) j = S := ⟨_, rfl⟩
          rw [hS] at HOW hsl
          have HS := Lib.hid hS
          have y0 : (0 : Int) ≤ (yn : Int) := by omega
          have y1 : (yn : Int) < (n : Int) := by omega
          clear hcell hy hyb hpj ht hS
          by_cases hyes : inB t 0 a = true
          · have HY : Hid (selI (reachP n (arcs l) p a (xn : Int)) (j + 1) = S ++ [(j : Int)]) := Lib.hid (by rw [selI_yes (by rw [HPJ.out]; exact hyes), HS.out])
            go_wp2_with (first | (go_at_call 74; refine (inside_c _ _ _ _).mono ?_; rintro e w' ⟨rfl, rfl⟩) | (at_builtin; refine wpList_app_rd _ rfl _ _ 25 rfl w5.heap.size 3 i0 (.int .i64 0) 1 8 Try.underlying25 hi hz0 hz1 hz2 rfl (by decide) _ _ _ rfl (HOW.out.alloc _) _ 1 [.int .i64 j] rfl (rd_new _ rfl (Nat.le_refl _) (by rw [maxLen_eq]; omega)) rfl (ints_one [(j : Int)]) (by rw [maxLen_eq]; omega) (by omega) (by have := HBL.out.size; simp; omega) ?_; intro v' w7 hown' hgrow _))
            refine ⟨⟨j + 1, by omega, by go_num, Lib.hid ?_, Lib.hid (bel_grown (bel_al HBL.out _) hgrow (fun q e => (HOW.out.lt q e).1))⟩, by simp [intOf]; omega⟩
            rw [HY.out, ints_append, List.length_append]; exact hown'
          · have hno : inB t 0 a = false := by simpa using hyes
            have HN : Hid (selI (reachP n (arcs l) p a (xn : Int)) (j + 1) = S) := Lib.hid (by rw [selI_no (by rw [HPJ.out]; exact hno), HS.out])
            clear hyes
            go_wp2_with (go_at_call 74; refine (inside_c _ _ _ _).mono ?_; rintro e w' ⟨rfl, rfl⟩)
            exact ⟨⟨j + 1, by omega, by go_num, by rw [HN.out]; exact HOW, HBL⟩, by simp [intOf]; omega⟩
        · obtain rfl : j = p.length := by omega
          obtain ⟨S, hS⟩ : ∃ S, selI (reachP n (arcs l) p a (xn : Int)) p.length = S := ⟨_, rfl⟩
          rw [hS] at HOW
          have HS := Lib.hid hS
          obtain ⟨A3, c3, hx3, hc3, hm3, _⟩ := own_rd HOW.out
          subst hx3
          rw [maxLen_eq] at hm3
          have HO6 := Lib.hid (HOS.out.below HBL.out)
          have hsB := HBL.out.size
          subst hLk
          clear hS
          go_wp2_with (at_builtin; refine wpList_app_rd _ rfl _ _ 39 rfl w.heap.size 25 iS (.slice none 0 0) 1 24 Try.underlying39 hiS hzS0 hzS1 hzS2 rfl (by decide) _ _ _ rfl (HO6.out.outer.alloc _) _ 1 [.slice A3 S.length c3] rfl (rd_new _ rfl (Nat.le_refl _) (by rw [maxLen_eq]; omega)) rfl (by simp [Value.oneCell']) (by rw [maxLen_eq]; omega) (by omega) (by simp; omega) ?_; intro v' w7 hown' hgrow he)
          refine ⟨⟨L.length + 1, vs ++ [.slice A3 S.length c3], L ++ [S], by omega, by simp, by go_num, Lib.hid ?_, Lib.hid ?_, Lib.hid (bel_grown (bel_al (bel_then HBW.out HBL.out) _) hgrow (fun q e => (HO6.out.outer.lt q e).1))⟩, by simp [intOf]; omega⟩
          · rw [reachL_snoc HX.out, HL.out, HS.out]
          · have hal := bel_al (Below.refl wB.heap.size wB) (.cells #[.slice A3 S.length c3] 25)
            refine (HO6.out.below hal).push (own_base (own_below HOW.out hal) (by omega)) (fun q q' e1 e2 => ?_) (fun i z hz q q' e1 e2 => ?_) hown' hgrow he
            · have h1 := (HOS.out.lt.1 q e1).2
              have h2 := (HOW.out.lt q' e2).1
              omega
            · have h1 := (HOS.out.lt.2 i z hz q e1).2
              have h2 := (HOW.out.lt q' e2).1
              omega
    · obtain rfl : k = q.length := by omega
      go_wp2
      go_ret
      have e := HL.out
      rw [List.take_length] at e
      exact ⟨_, rfl, ⟨vs, by rw [e]; exact HO.out⟩, HB.out⟩
end Go.Proofs.Ytgdigcnpjkkmfaa
