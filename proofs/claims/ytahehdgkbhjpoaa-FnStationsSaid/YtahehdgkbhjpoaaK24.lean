/-
  The walk of FnStations (printed by gen_stw.py). (joined by pack.py: StatW)
-/
import Derived.Test.YtahehdgkbhjpoaaK15
import Derived.Test.YtahehdgkbhjpoaaK23
import Derived.Test.YtahehdgkbhjpoaaK5
import Derived.Test.YtahehdgkbhjpoaaK17
import Derived.Test.YtahehdgkbhjpoaaK9
import Derived.Test.YtahehdgkbhjpoaaK14
import Derived.Test.YtahehdgkbhjpoaaK11
import Derived.Test.YtahehdgkbhjpoaaK7
import Derived.BigRegion
import Derived.Deep.CutRange
namespace Go.Proofs.Ytahehdgkbhjpoaa
set_option linter.unusedVariables false
set_option linter.unusedSimpArgs false
open Go.RowKit

theorem unc_snd (n : Int) (l : List St) (q : List Int) (a : Int) : (uncoveredNodesV n l q a).2 = askC n l q a := by
  unfold uncoveredNodesV; split <;> rename_i h
  · rw [h]; rfl
  · simp at h; rw [h]
theorem wk_snd (n : Int) (l : List St) (q : List Int) : (weakestNodeV n l q).2.2 = goodSta n l q := by
  unfold weakestNodeV; split <;> rename_i h
  · rw [h]; unfold weakestNodeW weakW; split <;> rfl
  · simp at h; rw [h]
theorem ct_snd (n : Int) (l : List St) (q : List Int) : (coverTimesV n l q).2 = goodSta n l q := by
  unfold coverTimesV; split <;> rename_i h
  · rw [h]
  · simp at h; rw [h]
theorem ll_good {n : Int} {l : List St} {q : List Int} (h : (leastLimitV n l q).2 = true) : goodSta n l q = true := by
  unfold leastLimitV at h; split at h
  · assumption
  · cases h
theorem cells_below {w w' : World} {A : Option Addr} {n : Nat} {l : List Int} (h : 0 < n → ∃ b off, A = some ⟨b, off, none⟩ ∧ b < w.heap.size ∧ ∀ j u, (ints l)[j]? = some u → w.cell? ⟨b, off + j, none⟩ = some u) (hb : Below w.heap.size w w') : 0 < n → ∃ b off, A = some ⟨b, off, none⟩ ∧ b < w'.heap.size ∧ ∀ j u, (ints l)[j]? = some u → w'.cell? ⟨b, off + j, none⟩ = some u := fun h0 => by
  obtain ⟨b, off, e, hl, hc⟩ := h h0
  exact ⟨b, off, e, Nat.lt_of_lt_of_le hl hb.size, fun j u hu => (hb.cell (p := ⟨b, off + j, none⟩) hl).trans (hc j u hu)⟩
set_option maxRecDepth 100000 in
set_option maxHeartbeats 4000000 in
theorem walk_FnStations (w : World) (v0 : Value) (l0 : List Int) (hr0 : Rd w v0 l0.length (bys l0)) (hw0 : BytesOk l0 ∧ l0.length ≤ 9223372036854775807) (v1 : Value) (l1 : List Int) (hr1 : Rd w v1 l1.length (bys l1)) (hw1 : BytesOk l1 ∧ l1.length ≤ 9223372036854775807) :
    Calls Try.prog 4 #[v0, v1] w fun en w' => en = .returned (.bool true) ∧ Below w.heap.size w w' := by
  obtain ⟨ho0, hn0⟩ := hw0
  obtain ⟨ho1, hn1⟩ := hw1
  have HR0 := Lib.hid hr0
  have HR1 := Lib.hid hr1
  have HO0 := Lib.hid ho0
  have HO1 := Lib.hid ho1
  have HB := Lib.hid (Below.refl w.heap.size w)
  obtain ⟨A0, c0, rfl, -⟩ := hr0
  obtain ⟨A1, c1, rfl, -⟩ := hr1
  clear ho0 ho1
  go_enter Try.func4, Try.ntmps4
  go_wp2_with fail
  refine (big_c _ _ _ _ _ _ _).mono ?_; rintro e w' ⟨rfl, hw⟩; subst hw
  cases bigB l0.length l1.length with
  | true =>
    go_wp2
    go_ret
    exact ⟨rfl, Below.refl _ _⟩
  | false =>
    go_wp2_with fail
    refine (drawWeakestNode_c _ l0 hn0 HO0.out _ (rd_below HR0.out HB.out)).mono ?_; rintro e w1 ⟨⟨n1, s1, T1, vQ1, Q1, rfl, hT1, hQ1⟩, hb⟩
    replace HB := Lib.hid (bel_then HB.out hb)
    clear hb
    have HT1 := Lib.hid hT1
    clear hT1
    have HQ1 := Lib.hid hQ1
    clear hQ1
    obtain ⟨As1, cs1, rfl, -⟩ := HT1.out
    go_upto_region 4 with fail
    generalize hW : World.alloc w1 _ = w2
    have hr0 : w2.ownsRow w1.heap.size 26 2 (.slice (some ⟨w1.heap.size, 0, none⟩) 1 1) 1 [.int .i64 n1, .slice As1 T1.length cs1] := by subst hW; exact row_new w1 [.int .i64 n1, .slice As1 T1.length cs1] _ 1 2 rfl (by omega) (by omega)
    have hb : Below w1.heap.size w1 w2 := by subst hW; exact bel_al (Below.refl _ _) _
    clear hW
    replace HB := Lib.hid (bel_then HB.out hb)
    replace HT1 := Lib.hid (rd_below HT1.out hb)
    replace HQ1 := Lib.hid (rdi_below HQ1.out hb)
    clear hb
    obtain ⟨RK1, hRK1⟩ : ∃ R, w1.heap.size = R := ⟨_, rfl⟩
    rw [hRK1] at hr0 ⊢
    clear hRK1
    have K1 := Lib.hid hr0
    clear hr0
    obtain ⟨ok, hok⟩ : ∃ b, goodSta n1 T1 Q1 = b := ⟨_, rfl⟩
    obtain ⟨z1, hz1⟩ : ∃ z, (weakestNodeV n1 T1 Q1).1 = z := ⟨_, rfl⟩
    obtain ⟨z2, hz2⟩ : ∃ z, (weakestNodeV n1 T1 Q1).2.1 = z := ⟨_, rfl⟩
    have hz3 : (weakestNodeV n1 T1 Q1).2.2 = ok := by rw [wk_snd, hok]
    obtain ⟨L, hL⟩ : ∃ z, (leastLimitV n1 T1 Q1).1 = z := ⟨_, rfl⟩
    obtain ⟨one, hone⟩ : ∃ z, (leastLimitV n1 T1 Q1).2 = z := ⟨_, rfl⟩
    obtain ⟨D, hD⟩ : ∃ z, (coverTimesV n1 T1 Q1).1 = z := ⟨_, rfl⟩
    have hD2 : (coverTimesV n1 T1 Q1).2 = ok := by rw [ct_snd, hok]
    have t0 := K1.out.cellAt 0 (by omega)
    have t1 := K1.out.cellAt 1 (by omega)
    dsimp only [List.getElem?_cons_zero, List.getElem?_cons_succ] at t0 t1
    go_wp2_with fail
    refine (weakestNodeI_c n1 _ T1 vQ1 Q1 _ HT1.out HQ1.out).mono ?_; rw [hz1, hz2, hz3]; rintro e w3 ⟨rfl, hb⟩
    clear t0 t1
    replace HB := Lib.hid (bel_then HB.out hb)
    replace HT1 := Lib.hid (rd_below HT1.out hb)
    replace HQ1 := Lib.hid (rdi_below HQ1.out hb)
    replace K1 := Lib.hid (own_below K1.out hb)
    clear hb
    have t0 := K1.out.cellAt 0 (by omega)
    have t1 := K1.out.cellAt 1 (by omega)
    dsimp only [List.getElem?_cons_zero, List.getElem?_cons_succ] at t0 t1
    go_wp2_with fail
    refine (weakestNodeS_c n1 _ T1 vQ1 Q1 _ HT1.out HQ1.out).mono ?_; rw [hz1, hz2, hz3]; rintro e w4 ⟨rfl, hb⟩
    clear t0 t1
    replace HB := Lib.hid (bel_then HB.out hb)
    replace HT1 := Lib.hid (rd_below HT1.out hb)
    replace HQ1 := Lib.hid (rdi_below HQ1.out hb)
    replace K1 := Lib.hid (own_below K1.out hb)
    clear hb
    have t0 := K1.out.cellAt 0 (by omega)
    have t1 := K1.out.cellAt 1 (by omega)
    dsimp only [List.getElem?_cons_zero, List.getElem?_cons_succ] at t0 t1
    go_wp2_with fail
    refine (leastLimitI_c n1 _ T1 vQ1 Q1 _ HT1.out HQ1.out).mono ?_; rw [hL, hone]; rintro e w5 ⟨rfl, hb⟩
    clear t0 t1
    replace HB := Lib.hid (bel_then HB.out hb)
    replace HT1 := Lib.hid (rd_below HT1.out hb)
    replace HQ1 := Lib.hid (rdi_below HQ1.out hb)
    replace K1 := Lib.hid (own_below K1.out hb)
    clear hb
    have t0 := K1.out.cellAt 0 (by omega)
    have t1 := K1.out.cellAt 1 (by omega)
    dsimp only [List.getElem?_cons_zero, List.getElem?_cons_succ] at t0 t1
    go_wp2_with fail
    refine (leastLimitS_c n1 _ T1 vQ1 Q1 _ HT1.out HQ1.out).mono ?_; rw [hL, hone]; rintro e w6 ⟨rfl, hb⟩
    clear t0 t1
    replace HB := Lib.hid (bel_then HB.out hb)
    replace HT1 := Lib.hid (rd_below HT1.out hb)
    replace HQ1 := Lib.hid (rdi_below HQ1.out hb)
    replace K1 := Lib.hid (own_below K1.out hb)
    clear hb
    have t0 := K1.out.cellAt 0 (by omega)
    have t1 := K1.out.cellAt 1 (by omega)
    dsimp only [List.getElem?_cons_zero, List.getElem?_cons_succ] at t0 t1
    go_wp2_with fail
    refine (coverTimesI_c n1 _ T1 vQ1 Q1 _ HT1.out HQ1.out).mono ?_; unfold OwnIB; rw [hD, hD2]; rintro e w7 ⟨vHDI, rfl, ho, hb⟩
    clear t0 t1
    replace HB := Lib.hid (bel_then HB.out hb)
    replace HT1 := Lib.hid (rd_below HT1.out hb)
    replace HQ1 := Lib.hid (rdi_below HQ1.out hb)
    replace K1 := Lib.hid (own_below K1.out hb)
    clear hb
    have HDI := Lib.hid (rdi_own ho)
    clear ho
    have t0 := K1.out.cellAt 0 (by omega)
    have t1 := K1.out.cellAt 1 (by omega)
    dsimp only [List.getElem?_cons_zero, List.getElem?_cons_succ] at t0 t1
    go_wp2_with fail
    refine (coverTimesS_c n1 _ T1 vQ1 Q1 _ HT1.out HQ1.out).mono ?_; unfold OwnIB; rw [hD, hD2]; rintro e w8 ⟨vHDS, rfl, ho, hb⟩
    clear t0 t1
    replace HB := Lib.hid (bel_then HB.out hb)
    replace HT1 := Lib.hid (rd_below HT1.out hb)
    replace HQ1 := Lib.hid (rdi_below HQ1.out hb)
    replace K1 := Lib.hid (own_below K1.out hb)
    replace HDI := Lib.hid (rdi_below HDI.out hb)
    clear hb
    have HDS := Lib.hid (rdi_own ho)
    clear ho
    have HOKH := Lib.hid hok
    clear hok
    have HZ1H := Lib.hid hz1
    clear hz1
    have HZ2H := Lib.hid hz2
    clear hz2
    have HZ3H := Lib.hid hz3
    clear hz3
    have HLH := Lib.hid hL
    clear hL
    have HONEH := Lib.hid hone
    clear hone
    have HDH := Lib.hid hD
    clear hD
    have HD2H := Lib.hid hD2
    clear hD2
    have nx : ∀ b : Bool, (b != b) = false := by simp
    have n1x := nx ok
    have n2x := nx one
    have n3x : (z1 != z1) = false := by simp
    have n4x : (z2 != z2) = false := by simp
    have n5x : (L != L) = false := by simp
    clear nx
    obtain ⟨wN, rfl⟩ : ∃ x : World, x = w8 := ⟨_, rfl⟩
    go_upto_region 10 with fail
    go_cut [151] from 106 to 151 (fun v wx => v = .bool false ∧ Below wN.heap.size wN wx)
    case first =>
      have HZ := Lib.hid (Below.refl wN.heap.size wN)
      go_wp2_with fail
      refine (sameInts_c _ _ D D _ HDI.out HDS.out).mono ?_; rw [decide_eq_true rfl]; rintro e w9 ⟨rfl, hb⟩
      replace HZ := Lib.hid (bel_then HZ.out hb)
      replace HB := Lib.hid (bel_then HB.out hb)
      replace HT1 := Lib.hid (rd_below HT1.out hb)
      replace HQ1 := Lib.hid (rdi_below HQ1.out hb)
      replace K1 := Lib.hid (own_below K1.out hb)
      replace HDI := Lib.hid (rdi_below HDI.out hb)
      replace HDS := Lib.hid (rdi_below HDS.out hb)
      clear hb
      cases one with
      | false => go_wp2_with fail; go_meet; exact ⟨rfl, HZ.out⟩
      | true =>
        obtain rfl : ok = true := by rw [← HOKH.out]; exact ll_good HONEH.out
        go_wp2_with fail
        go_meet
        exact ⟨rfl, HZ.out⟩
    case rest => as_aux_lemma =>
      obtain ⟨rfl, hb⟩ := hcut
      clear HDI n1x n2x n3x n4x n5x
      replace HB := Lib.hid (bel_then HB.out hb)
      replace HT1 := Lib.hid (rd_below HT1.out hb)
      replace HQ1 := Lib.hid (rdi_below HQ1.out hb)
      replace K1 := Lib.hid (own_below K1.out hb)
      replace HDS := Lib.hid (rdi_below HDS.out hb)
      clear hb
      obtain ⟨wY, rfl⟩ : ∃ x : World, x = wc := ⟨_, rfl⟩
      go_upto_if 152 with fail
      go_cut [184] from 22 to 184 (fun v wx => Below wY.heap.size wY wx)
      case first =>
        cases ok with
        | false => go_wp2_with fail; go_meet; exact Below.refl _ _
        | true =>
          obtain ⟨hn1, -, -, -⟩ := goodTown_true (goodSta_true HOKH.out).1
          obtain ⟨m, rfl⟩ := nat_of hn1
          have hw : weakestNodeV m T1 Q1 = (z1, z2, true) := Prod.ext HZ1H.out (Prod.ext HZ2H.out HZ3H.out)
          obtain ⟨-, ⟨k, rfl, hk, hget⟩, hpos, -⟩ := weak_is hw
          have hDc : D = coverL m (arcs T1) Q1 := by rw [← HDH.out]; unfold coverTimesV; rw [if_pos HOKH.out]; rfl
          rw [← hDc] at hget hpos
          have hDl : D.length = m := by rw [hDc, coverL_len]
          obtain ⟨Ad, cd, rfl, hcd, hmd, hcl⟩ := HDS.out
          rw [maxLen_eq] at hmd
          have HCD := Lib.hid hcl
          obtain ⟨bD, offD, rfl, hbD, hclD⟩ := hcl (by omega)
          have c0 := hclD k _ (ints_get hget)
          have i0 : (0 : Int) ≤ (k : Int) := by omega
          have i1 : (k : Int) < (D.length : Int) := by omega
          have HPOS := Lib.hid hpos
          have HCLD := Lib.hid hclD
          have n4x : (z2 != z2) = false := by simp
          have hm14 : D.length ≤ 9223372036854775807 := by omega
          clear hcl hclD hDc hget hpos hDl
          cases one with
          | false =>
            go_upto_region 15 with fail
            clear c0 i0 i1 n4x hw
            go_wp2_with fail
            go_loopw [169] (fun vi wr => ∃ j : Nat, j ≤ D.length ∧ vi = .int .i64 j ∧ Hid (Below wY.heap.size wY wr)) (fun vi _ => D.length - (intOf vi).toNat)
            case atStart => exact ⟨0, Nat.zero_le _, rfl, Lib.hid (Below.refl _ _)⟩
            case round =>
              obtain ⟨j, hj, rfl, HBL⟩ := hrel
              obtain ⟨wA, rfl⟩ : ∃ wA : World, wA = wr := ⟨_, rfl⟩
              have i0 : (0 : Int) ≤ (j : Int) := by omega
              by_cases hlt : j < D.length
              · obtain ⟨x, hx⟩ : ∃ x, D[j]? = some x := ⟨_, List.getElem?_eq_getElem hlt⟩
                have cx := cell_at HCLD.out HBL.out hbD (ints_get hx)
                have i1 : (j : Int) < (D.length : Int) := by omega
                by_cases hz : 0 ≤ z2
                · obtain ⟨x0, x1⟩ := HPOS.out hz x (List.mem_of_getElem? hx)
                  clear hx
                  go_wp2
                  exact ⟨⟨j + 1, by omega, by go_num, HBL⟩, by simp [intOf]; omega⟩
                · have hz' : z2 < 0 := by omega
                  clear hx
                  go_wp2
                  exact ⟨⟨j + 1, by omega, by go_num, HBL⟩, by simp [intOf]; omega⟩
              · obtain rfl : j = D.length := by omega
                go_wp2_with fail
                go_meet
                exact HBL.out
          | true =>
            obtain ⟨hzl, -⟩ := least_is hw (Prod.ext HLH.out HONEH.out : leastLimitV m T1 Q1 = (L, true))
            have n5x : (z2 != L) = false := by rw [hzl]; simp
            clear hzl
            go_upto_region 15 with fail
            clear c0 i0 i1 n4x hw
            go_wp2_with fail
            go_loopw [169] (fun vi wr => ∃ j : Nat, j ≤ D.length ∧ vi = .int .i64 j ∧ Hid (Below wY.heap.size wY wr)) (fun vi _ => D.length - (intOf vi).toNat)
            case atStart => exact ⟨0, Nat.zero_le _, rfl, Lib.hid (Below.refl _ _)⟩
            case round =>
              obtain ⟨j, hj, rfl, HBL⟩ := hrel
              obtain ⟨wA, rfl⟩ : ∃ wA : World, wA = wr := ⟨_, rfl⟩
              have i0 : (0 : Int) ≤ (j : Int) := by omega
              by_cases hlt : j < D.length
              · obtain ⟨x, hx⟩ : ∃ x, D[j]? = some x := ⟨_, List.getElem?_eq_getElem hlt⟩
                have cx := cell_at HCLD.out HBL.out hbD (ints_get hx)
                have i1 : (j : Int) < (D.length : Int) := by omega
                by_cases hz : 0 ≤ z2
                · obtain ⟨x0, x1⟩ := HPOS.out hz x (List.mem_of_getElem? hx)
                  clear hx
                  go_wp2
                  exact ⟨⟨j + 1, by omega, by go_num, HBL⟩, by simp [intOf]; omega⟩
                · have hz' : z2 < 0 := by omega
                  clear hx
                  go_wp2
                  exact ⟨⟨j + 1, by omega, by go_num, HBL⟩, by simp [intOf]; omega⟩
              · obtain rfl : j = D.length := by omega
                go_wp2_with fail
                go_meet
                exact HBL.out
      case rest => as_aux_lemma =>
        have hb := hcut
        clear hcut HDS HDH HD2H
        replace HB := Lib.hid (bel_then HB.out hb)
        replace HT1 := Lib.hid (rd_below HT1.out hb)
        replace HQ1 := Lib.hid (rdi_below HQ1.out hb)
        replace K1 := Lib.hid (own_below K1.out hb)
        clear hb
        obtain ⟨wX, rfl⟩ : ∃ x : World, x = wc := ⟨_, rfl⟩
        go_upto_if 185 with fail
        go_cut [234] from 22 to 234 (fun v wx => Below wX.heap.size wX wx)
        case first =>
          cases one with
          | false => go_wp2_with fail; go_meet; exact Below.refl _ _
          | true =>
            obtain rfl : ok = true := by rw [← HOKH.out]; exact ll_good HONEH.out
            obtain ⟨hn1, -, -, -⟩ := goodTown_true (goodSta_true HOKH.out).1
            obtain ⟨m, rfl⟩ := nat_of hn1
            have hw : weakestNodeV m T1 Q1 = (z1, z2, true) := Prod.ext HZ1H.out (Prod.ext HZ2H.out HZ3H.out)
            obtain ⟨-, hask, hcov, hL0, hL1, hless⟩ := least_is hw (Prod.ext HLH.out HONEH.out : leastLimitV m T1 Q1 = (L, true))
            have HU1 := Lib.hid (show (uncoveredNodesV m T1 Q1 L).1 = [] by unfold uncoveredNodesV; rw [if_pos hask]; exact hcov)
            have HU2 := Lib.hid (show (uncoveredNodesV m T1 Q1 L).2 = true by rw [unc_snd, hask])
            have HLESS := Lib.hid hless
            have HZ := Lib.hid (Below.refl wX.heap.size wX)
            clear hask hcov hless hw
            have t0 := K1.out.cellAt 0 (by omega)
            have t1 := K1.out.cellAt 1 (by omega)
            dsimp only [List.getElem?_cons_zero, List.getElem?_cons_succ] at t0 t1
            go_wp2_with fail
            refine (uncoveredNodesI_c m _ T1 _ Q1 L _ HT1.out HQ1.out).mono ?_; unfold OwnIB; rw [HU1.out, HU2.out]; rintro e w9 ⟨vHA, rfl, ho, hb⟩
            clear t0 t1
            replace HZ := Lib.hid (bel_then HZ.out hb)
            replace HB := Lib.hid (bel_then HB.out hb)
            replace HT1 := Lib.hid (rd_below HT1.out hb)
            replace HQ1 := Lib.hid (rdi_below HQ1.out hb)
            replace K1 := Lib.hid (own_below K1.out hb)
            clear hb
            have HA := Lib.hid (rdi_own ho)
            clear ho
            obtain ⟨Aa, ca, rfl, -, -, -⟩ := HA.out
            by_cases hpos : 0 < L
            · obtain ⟨hk1, hk2⟩ := HLESS.out hpos
              have s1 : IntKind.i64.wrap (L - 1) = L - 1 := IntWalk.i64_in _ (by omega)
              obtain ⟨Z, hZ⟩ : ∃ z, (uncoveredNodesV m T1 Q1 (L - 1)).1 = z := ⟨_, rfl⟩
              have hZ2 : (uncoveredNodesV m T1 Q1 (L - 1)).2 = true := by rw [unc_snd, hk1]
              have hZn : 0 < Z.length := by
                rw [← hZ]; unfold uncoveredNodesV; rw [if_pos hk1]
                exact List.length_pos_iff.2 hk2
              have e1 : ((Z.length : Int) == 0) = false := beq_false_of_ne (by omega)
              have HZZ := Lib.hid hZ
              have HZZ2 := Lib.hid hZ2
              clear hk1 hk2 hZ hZ2 hZn HA
              have t0 := K1.out.cellAt 0 (by omega)
              have t1 := K1.out.cellAt 1 (by omega)
              dsimp only [List.getElem?_cons_zero, List.getElem?_cons_succ] at t0 t1
              go_wp2_with fail
              refine (uncoveredNodesI_c m _ T1 _ Q1 (L - 1) _ HT1.out HQ1.out).mono ?_; unfold OwnIB; rw [HZZ.out, HZZ2.out]; rintro e w10 ⟨vHB1, rfl, ho, hb⟩
              clear t0 t1
              replace HZ := Lib.hid (bel_then HZ.out hb)
              replace HB := Lib.hid (bel_then HB.out hb)
              replace HT1 := Lib.hid (rd_below HT1.out hb)
              replace HQ1 := Lib.hid (rdi_below HQ1.out hb)
              replace K1 := Lib.hid (own_below K1.out hb)
              clear hb
              have HB1 := Lib.hid (rdi_own ho)
              clear ho
              have t0 := K1.out.cellAt 0 (by omega)
              have t1 := K1.out.cellAt 1 (by omega)
              dsimp only [List.getElem?_cons_zero, List.getElem?_cons_succ] at t0 t1
              go_wp2_with fail
              refine (uncoveredNodesS_c m _ T1 _ Q1 (L - 1) _ HT1.out HQ1.out).mono ?_; unfold OwnIB; rw [HZZ.out, HZZ2.out]; rintro e w11 ⟨vHB2, rfl, ho, hb⟩
              clear t0 t1
              replace HZ := Lib.hid (bel_then HZ.out hb)
              replace HB := Lib.hid (bel_then HB.out hb)
              replace HT1 := Lib.hid (rd_below HT1.out hb)
              replace HQ1 := Lib.hid (rdi_below HQ1.out hb)
              replace K1 := Lib.hid (own_below K1.out hb)
              replace HB1 := Lib.hid (rdi_below HB1.out hb)
              clear hb
              have HB2 := Lib.hid (rdi_own ho)
              clear ho
              obtain ⟨Ab, cb, rfl, -, -, -⟩ := HB2.out
              go_wp2_with fail
              refine (sameInts_c _ _ Z Z _ HB1.out HB2.out).mono ?_; rw [decide_eq_true rfl]; rintro e w12 ⟨rfl, hb⟩
              replace HZ := Lib.hid (bel_then HZ.out hb)
              replace HB := Lib.hid (bel_then HB.out hb)
              replace HT1 := Lib.hid (rd_below HT1.out hb)
              replace HQ1 := Lib.hid (rdi_below HQ1.out hb)
              replace K1 := Lib.hid (own_below K1.out hb)
              replace HB1 := Lib.hid (rdi_below HB1.out hb)
              replace HB2 := Lib.hid (rdi_below HB2.out hb)
              clear hb
              go_wp2_with fail
              go_meet
              exact HZ.out
            · have hle : L ≤ 0 := by omega
              go_wp2_with fail
              go_meet
              exact HZ.out
        case rest => as_aux_lemma =>
          have hb := hcut
          clear hcut HT1 HQ1 K1 HOKH HZ1H HZ2H HZ3H HLH HONEH
          replace HB := Lib.hid (bel_then HB.out hb)
          clear hb
          go_wp2_with fail
          refine (drawLostWithout_c _ l1 hn1 HO1.out _ (rd_below HR1.out HB.out)).mono ?_; rintro e w9 ⟨⟨n2, s2, T2, vQ2, Q2, i2, a2, rfl, hT2, hQ2⟩, hb⟩
          replace HB := Lib.hid (bel_then HB.out hb)
          clear hb
          have HT2 := Lib.hid hT2
          clear hT2
          have HQ2 := Lib.hid hQ2
          clear hQ2
          obtain ⟨As2, cs2, rfl, -⟩ := HT2.out
          go_upto_region 31 with fail
          generalize hW : World.alloc w9 _ = w10
          have hr0 : w10.ownsRow w9.heap.size 26 2 (.slice (some ⟨w9.heap.size, 0, none⟩) 1 1) 1 [.int .i64 n2, .slice As2 T2.length cs2] := by subst hW; exact row_new w9 [.int .i64 n2, .slice As2 T2.length cs2] _ 1 2 rfl (by omega) (by omega)
          have hb : Below w9.heap.size w9 w10 := by subst hW; exact bel_al (Below.refl _ _) _
          clear hW
          replace HB := Lib.hid (bel_then HB.out hb)
          replace HT2 := Lib.hid (rd_below HT2.out hb)
          replace HQ2 := Lib.hid (rdi_below HQ2.out hb)
          clear hb
          obtain ⟨RK2, hRK2⟩ : ∃ R, w9.heap.size = R := ⟨_, rfl⟩
          rw [hRK2] at hr0 ⊢
          clear hRK2
          have K2 := Lib.hid hr0
          clear hr0
          obtain ⟨O, hO⟩ : ∃ z, (lostWithoutV n2 T2 Q2 i2 a2).1 = z := ⟨_, rfl⟩
          obtain ⟨five, hfive⟩ : ∃ z, (lostWithoutV n2 T2 Q2 i2 a2).2 = z := ⟨_, rfl⟩
          obtain ⟨N, hN⟩ : ∃ z, (neededStationsV n2 T2 Q2 a2).1 = z := ⟨_, rfl⟩
          obtain ⟨seven, hseven⟩ : ∃ z, (neededStationsV n2 T2 Q2 a2).2 = z := ⟨_, rfl⟩
          have t0 := K2.out.cellAt 0 (by omega)
          have t1 := K2.out.cellAt 1 (by omega)
          dsimp only [List.getElem?_cons_zero, List.getElem?_cons_succ] at t0 t1
          go_wp2_with fail
          refine (lostWithoutI_c n2 _ T2 vQ2 Q2 i2 a2 _ HT2.out HQ2.out).mono ?_; unfold OwnIB; rw [hO, hfive]; rintro e w11 ⟨vHLI, rfl, ho, hb⟩
          clear t0 t1
          replace HB := Lib.hid (bel_then HB.out hb)
          replace HT2 := Lib.hid (rd_below HT2.out hb)
          replace HQ2 := Lib.hid (rdi_below HQ2.out hb)
          replace K2 := Lib.hid (own_below K2.out hb)
          clear hb
          have HLI := Lib.hid (rdi_own ho)
          clear ho
          have t0 := K2.out.cellAt 0 (by omega)
          have t1 := K2.out.cellAt 1 (by omega)
          dsimp only [List.getElem?_cons_zero, List.getElem?_cons_succ] at t0 t1
          go_wp2_with fail
          refine (lostWithoutS_c n2 _ T2 vQ2 Q2 i2 a2 _ HT2.out HQ2.out).mono ?_; unfold OwnIB; rw [hO, hfive]; rintro e w12 ⟨vHLS, rfl, ho, hb⟩
          clear t0 t1
          replace HB := Lib.hid (bel_then HB.out hb)
          replace HT2 := Lib.hid (rd_below HT2.out hb)
          replace HQ2 := Lib.hid (rdi_below HQ2.out hb)
          replace K2 := Lib.hid (own_below K2.out hb)
          replace HLI := Lib.hid (rdi_below HLI.out hb)
          clear hb
          have HLS := Lib.hid (rdi_own ho)
          clear ho
          have t0 := K2.out.cellAt 0 (by omega)
          have t1 := K2.out.cellAt 1 (by omega)
          dsimp only [List.getElem?_cons_zero, List.getElem?_cons_succ] at t0 t1
          go_wp2_with fail
          refine (neededStationsI_c n2 _ T2 vQ2 Q2 a2 _ HT2.out HQ2.out).mono ?_; unfold OwnIB; rw [hN, hseven]; rintro e w13 ⟨vHNI, rfl, ho, hb⟩
          clear t0 t1
          replace HB := Lib.hid (bel_then HB.out hb)
          replace HT2 := Lib.hid (rd_below HT2.out hb)
          replace HQ2 := Lib.hid (rdi_below HQ2.out hb)
          replace K2 := Lib.hid (own_below K2.out hb)
          replace HLI := Lib.hid (rdi_below HLI.out hb)
          replace HLS := Lib.hid (rdi_below HLS.out hb)
          clear hb
          have HNI := Lib.hid (rdi_own ho)
          clear ho
          have t0 := K2.out.cellAt 0 (by omega)
          have t1 := K2.out.cellAt 1 (by omega)
          dsimp only [List.getElem?_cons_zero, List.getElem?_cons_succ] at t0 t1
          go_wp2_with fail
          refine (neededStationsS_c n2 _ T2 vQ2 Q2 a2 _ HT2.out HQ2.out).mono ?_; unfold OwnIB; rw [hN, hseven]; rintro e w14 ⟨vHNS, rfl, ho, hb⟩
          clear t0 t1
          replace HB := Lib.hid (bel_then HB.out hb)
          replace HT2 := Lib.hid (rd_below HT2.out hb)
          replace HQ2 := Lib.hid (rdi_below HQ2.out hb)
          replace K2 := Lib.hid (own_below K2.out hb)
          replace HLI := Lib.hid (rdi_below HLI.out hb)
          replace HLS := Lib.hid (rdi_below HLS.out hb)
          replace HNI := Lib.hid (rdi_below HNI.out hb)
          clear hb
          have HNS := Lib.hid (rdi_own ho)
          clear ho
          have HOH := Lib.hid hO
          clear hO
          have HFIVEH := Lib.hid hfive
          clear hfive
          have HNH := Lib.hid hN
          clear hN
          have HSEVENH := Lib.hid hseven
          clear hseven
          have nx : ∀ b : Bool, (b != b) = false := by simp
          have n1x := nx five
          have n2x := nx seven
          clear nx
          obtain ⟨wN, rfl⟩ : ∃ x : World, x = w14 := ⟨_, rfl⟩
          go_upto_region 35 with fail
          go_cut [298] from 272 to 298 (fun v wx => v = .bool false ∧ Below wN.heap.size wN wx)
          case first =>
            have HZ := Lib.hid (Below.refl wN.heap.size wN)
            go_wp2_with fail
            refine (sameInts_c _ _ O O _ HLI.out HLS.out).mono ?_; rw [decide_eq_true rfl]; rintro e w15 ⟨rfl, hb⟩
            replace HZ := Lib.hid (bel_then HZ.out hb)
            replace HB := Lib.hid (bel_then HB.out hb)
            replace HT2 := Lib.hid (rd_below HT2.out hb)
            replace HQ2 := Lib.hid (rdi_below HQ2.out hb)
            replace K2 := Lib.hid (own_below K2.out hb)
            replace HLI := Lib.hid (rdi_below HLI.out hb)
            replace HLS := Lib.hid (rdi_below HLS.out hb)
            replace HNI := Lib.hid (rdi_below HNI.out hb)
            replace HNS := Lib.hid (rdi_below HNS.out hb)
            clear hb
            go_wp2_with fail
            refine (sameInts_c _ _ N N _ HNI.out HNS.out).mono ?_; rw [decide_eq_true rfl]; rintro e w16 ⟨rfl, hb⟩
            replace HZ := Lib.hid (bel_then HZ.out hb)
            replace HB := Lib.hid (bel_then HB.out hb)
            replace HT2 := Lib.hid (rd_below HT2.out hb)
            replace HQ2 := Lib.hid (rdi_below HQ2.out hb)
            replace K2 := Lib.hid (own_below K2.out hb)
            replace HLI := Lib.hid (rdi_below HLI.out hb)
            replace HLS := Lib.hid (rdi_below HLS.out hb)
            replace HNI := Lib.hid (rdi_below HNI.out hb)
            replace HNS := Lib.hid (rdi_below HNS.out hb)
            clear hb
            cases five with
            | false => go_wp2_with fail; go_meet; exact ⟨rfl, HZ.out⟩
            | true =>
              obtain rfl : seven = true := by rw [← HSEVENH.out]; exact (lost_is (Prod.ext HOH.out HFIVEH.out : lostWithoutV n2 T2 Q2 i2 a2 = (O, true))).2.2.1
              go_wp2_with fail
              go_meet
              exact ⟨rfl, HZ.out⟩
          case rest => as_aux_lemma =>
            obtain ⟨rfl, hb⟩ := hcut
            clear HLI HNI n1x n2x
            replace HB := Lib.hid (bel_then HB.out hb)
            replace HT2 := Lib.hid (rd_below HT2.out hb)
            replace HQ2 := Lib.hid (rdi_below HQ2.out hb)
            replace K2 := Lib.hid (own_below K2.out hb)
            replace HLS := Lib.hid (rdi_below HLS.out hb)
            replace HNS := Lib.hid (rdi_below HNS.out hb)
            clear hb
            obtain ⟨wY, rfl⟩ : ∃ x : World, x = wc := ⟨_, rfl⟩
            go_upto_if 299 with fail
            go_cut [328] from 41 to 328 (fun v wx => Below wY.heap.size wY wx)
            case first =>
              cases five with
              | false => go_wp2_with fail; go_meet; exact Below.refl _ _
              | true =>
                obtain ⟨hask, hdec, -, hcv2, hsub⟩ := lost_is (Prod.ext HOH.out HFIVEH.out : lostWithoutV n2 T2 Q2 i2 a2 = (O, true))
                rw [HNH.out] at hdec
                obtain ⟨V, hV⟩ : ∃ z, (coveredNodesV n2 T2 Q2 a2).1 = z := ⟨_, rfl⟩
                rw [hV] at hsub
                have HSUB := Lib.hid hsub
                have HV1 := Lib.hid hV
                have HV2 := Lib.hid hcv2
                have HDEC := Lib.hid hdec
                have HZ := Lib.hid (Below.refl wY.heap.size wY)
                clear hask hdec hcv2 hsub hV
                have t0 := K2.out.cellAt 0 (by omega)
                have t1 := K2.out.cellAt 1 (by omega)
                dsimp only [List.getElem?_cons_zero, List.getElem?_cons_succ] at t0 t1
                go_wp2_with fail
                refine (coveredNodesS_c n2 _ T2 _ Q2 a2 _ HT2.out HQ2.out).mono ?_; unfold OwnIB; rw [HV1.out, HV2.out]; rintro e w15 ⟨vHVS, rfl, ho, hb⟩
                clear t0 t1
                replace HZ := Lib.hid (bel_then HZ.out hb)
                replace HB := Lib.hid (bel_then HB.out hb)
                replace HT2 := Lib.hid (rd_below HT2.out hb)
                replace HQ2 := Lib.hid (rdi_below HQ2.out hb)
                replace K2 := Lib.hid (own_below K2.out hb)
                replace HLS := Lib.hid (rdi_below HLS.out hb)
                replace HNS := Lib.hid (rdi_below HNS.out hb)
                clear hb
                have HVS := Lib.hid (rdi_own ho)
                clear ho
                obtain ⟨Ao, co, rfl, hco, hmo, hclo⟩ := HLS.out
                rw [maxLen_eq] at hmo
                have HCO := Lib.hid hclo
                clear hclo
                by_cases hol : 0 < O.length
                · have e1 : decide (0 < O.length) = true := decide_eq_true hol
                  have e2 : (0 : Int) < (O.length : Int) := by omega
                  rw [e1] at HDEC
                  clear e1
                  go_wp2_with fail
                  refine (pIn_c _ N i2 _ HNS.out).mono ?_; rw [HDEC.out]; rintro e wp ⟨rfl, hb⟩
                  have hb0 := Lib.hid hb
                  replace HZ := Lib.hid (bel_then HZ.out hb)
                  replace HVS := Lib.hid (rdi_below HVS.out hb)
                  clear hb
                  replace HCO := Lib.hid (cells_below HCO.out hb0.out)
                  skip
                  go_upto_region 41 with fail
                  go_wp2_with fail
                  go_loopw [320] (fun vi wr => ∃ j : Nat, j ≤ O.length ∧ vi = .int .i64 j ∧ Hid (Below wp.heap.size wp wr)) (fun vi _ => O.length - (intOf vi).toNat)
                  case atStart => exact ⟨0, Nat.zero_le _, rfl, Lib.hid (Below.refl _ _)⟩
                  case round =>
                    obtain ⟨j, hj, rfl, HBL⟩ := hrel
                    obtain ⟨wA, rfl⟩ : ∃ wA : World, wA = wr := ⟨_, rfl⟩
                    have i0 : (0 : Int) ≤ (j : Int) := by omega
                    by_cases hlt : j < O.length
                    · obtain ⟨bO, offO, rfl, hbO, hclO⟩ := HCO.out (by omega)
                      obtain ⟨x, hx⟩ : ∃ x, O[j]? = some x := ⟨_, List.getElem?_eq_getElem hlt⟩
                      have cx := cell_at hclO HBL.out hbO (ints_get hx)
                      have i1 : (j : Int) < (O.length : Int) := by omega
                      have HQ := Lib.hid (decide_eq_true (HSUB.out x (List.mem_of_getElem? hx)))
                      clear hx hclO
                      go_wp2_with fail
                      refine (pIn_c _ V x _ (rdi_below HVS.out HBL.out)).mono ?_; rw [HQ.out]; rintro e wK ⟨rfl, hb⟩
                      replace HBL := Lib.hid (bel_then HBL.out hb)
                      clear hb
                      go_wp2
                      exact ⟨⟨j + 1, by omega, by go_num, HBL⟩, by simp [intOf]; omega⟩
                    · obtain rfl : j = O.length := by omega
                      go_wp2_with fail
                      go_meet
                      exact bel_then HZ.out HBL.out
                · have e1 : decide (0 < O.length) = false := decide_eq_false hol
                  have e2 : (O.length : Int) ≤ 0 := by omega
                  rw [e1] at HDEC
                  clear e1
                  go_wp2_with fail
                  refine (pIn_c _ N i2 _ HNS.out).mono ?_; rw [HDEC.out]; rintro e wp ⟨rfl, hb⟩
                  have hb0 := Lib.hid hb
                  replace HZ := Lib.hid (bel_then HZ.out hb)
                  replace HVS := Lib.hid (rdi_below HVS.out hb)
                  clear hb
                  replace HCO := Lib.hid (cells_below HCO.out hb0.out)
                  skip
                  go_upto_region 41 with fail
                  go_wp2_with fail
                  go_loopw [320] (fun vi wr => ∃ j : Nat, j ≤ O.length ∧ vi = .int .i64 j ∧ Hid (Below wp.heap.size wp wr)) (fun vi _ => O.length - (intOf vi).toNat)
                  case atStart => exact ⟨0, Nat.zero_le _, rfl, Lib.hid (Below.refl _ _)⟩
                  case round =>
                    obtain ⟨j, hj, rfl, HBL⟩ := hrel
                    obtain ⟨wA, rfl⟩ : ∃ wA : World, wA = wr := ⟨_, rfl⟩
                    have i0 : (0 : Int) ≤ (j : Int) := by omega
                    by_cases hlt : j < O.length
                    · obtain ⟨bO, offO, rfl, hbO, hclO⟩ := HCO.out (by omega)
                      obtain ⟨x, hx⟩ : ∃ x, O[j]? = some x := ⟨_, List.getElem?_eq_getElem hlt⟩
                      have cx := cell_at hclO HBL.out hbO (ints_get hx)
                      have i1 : (j : Int) < (O.length : Int) := by omega
                      have HQ := Lib.hid (decide_eq_true (HSUB.out x (List.mem_of_getElem? hx)))
                      clear hx hclO
                      go_wp2_with fail
                      refine (pIn_c _ V x _ (rdi_below HVS.out HBL.out)).mono ?_; rw [HQ.out]; rintro e wK ⟨rfl, hb⟩
                      replace HBL := Lib.hid (bel_then HBL.out hb)
                      clear hb
                      go_wp2
                      exact ⟨⟨j + 1, by omega, by go_num, HBL⟩, by simp [intOf]; omega⟩
                    · obtain rfl : j = O.length := by omega
                      go_wp2_with fail
                      go_meet
                      exact bel_then HZ.out HBL.out
            case rest => as_aux_lemma =>
              have hb := hcut
              clear hcut HT2 HQ2 K2 HOH HFIVEH HNH HSEVENH HLS HNS
              replace HB := Lib.hid (bel_then HB.out hb)
              clear hb
              go_wp2_with fail
              refine (drawBestFurther_c _ l1 hn1 HO1.out _ (rd_below HR1.out HB.out)).mono ?_; rintro e w15 ⟨⟨n3, s3, T3, vQ3, Q3, a3, rfl, hT3, hQ3⟩, hb⟩
              replace HB := Lib.hid (bel_then HB.out hb)
              clear hb
              have HT3 := Lib.hid hT3
              clear hT3
              have HQ3 := Lib.hid hQ3
              clear hQ3
              obtain ⟨As3, cs3, rfl, -⟩ := HT3.out
              go_upto_region 48 with fail
              generalize hW : World.alloc w15 _ = w16
              have hr0 : w16.ownsRow w15.heap.size 26 2 (.slice (some ⟨w15.heap.size, 0, none⟩) 1 1) 1 [.int .i64 n3, .slice As3 T3.length cs3] := by subst hW; exact row_new w15 [.int .i64 n3, .slice As3 T3.length cs3] _ 1 2 rfl (by omega) (by omega)
              have hb : Below w15.heap.size w15 w16 := by subst hW; exact bel_al (Below.refl _ _) _
              clear hW
              replace HB := Lib.hid (bel_then HB.out hb)
              replace HT3 := Lib.hid (rd_below HT3.out hb)
              replace HQ3 := Lib.hid (rdi_below HQ3.out hb)
              clear hb
              obtain ⟨RK3, hRK3⟩ : ∃ R, w15.heap.size = R := ⟨_, rfl⟩
              rw [hRK3] at hr0 ⊢
              clear hRK3
              have K3 := Lib.hid hr0
              clear hr0
              obtain ⟨b1, hb1⟩ : ∃ z, (bestFurtherV n3 T3 Q3 a3).1 = z := ⟨_, rfl⟩
              obtain ⟨b2, hb2⟩ : ∃ z, (bestFurtherV n3 T3 Q3 a3).2.1 = z := ⟨_, rfl⟩
              obtain ⟨b3, hb3⟩ : ∃ z, (bestFurtherV n3 T3 Q3 a3).2.2 = z := ⟨_, rfl⟩
              have t0 := K3.out.cellAt 0 (by omega)
              have t1 := K3.out.cellAt 1 (by omega)
              dsimp only [List.getElem?_cons_zero, List.getElem?_cons_succ] at t0 t1
              go_wp2_with fail
              refine (bestFurtherI_c n3 _ T3 vQ3 Q3 a3 _ HT3.out HQ3.out).mono ?_; rw [hb1, hb2, hb3]; rintro e w17 ⟨rfl, hb⟩
              clear t0 t1
              replace HB := Lib.hid (bel_then HB.out hb)
              replace HT3 := Lib.hid (rd_below HT3.out hb)
              replace HQ3 := Lib.hid (rdi_below HQ3.out hb)
              replace K3 := Lib.hid (own_below K3.out hb)
              clear hb
              have t0 := K3.out.cellAt 0 (by omega)
              have t1 := K3.out.cellAt 1 (by omega)
              dsimp only [List.getElem?_cons_zero, List.getElem?_cons_succ] at t0 t1
              go_wp2_with fail
              refine (bestFurtherS_c n3 _ T3 vQ3 Q3 a3 _ HT3.out HQ3.out).mono ?_; rw [hb1, hb2, hb3]; rintro e w18 ⟨rfl, hb⟩
              clear t0 t1
              replace HB := Lib.hid (bel_then HB.out hb)
              replace HT3 := Lib.hid (rd_below HT3.out hb)
              replace HQ3 := Lib.hid (rdi_below HQ3.out hb)
              replace K3 := Lib.hid (own_below K3.out hb)
              clear hb
              have HB1H := Lib.hid hb1
              clear hb1
              have HB2H := Lib.hid hb2
              clear hb2
              have HB3H := Lib.hid hb3
              clear hb3
              have n1x : (b3 != b3) = false := by simp
              have n2x : (b1 != b1) = false := by simp
              have n3x : (b2 != b2) = false := by simp
              go_upto_region 52 with fail
              clear n1x n2x n3x
              cases b3 with
              | false =>
                go_wp2
                go_ret
                exact ⟨rfl, HB.out⟩
              | true =>
                obtain ⟨m, rfl⟩ : ∃ m : Nat, n3 = (m : Int) := by
                  have h := HB3H.out
                  unfold bestFurtherV at h
                  split at h
                  · rename_i hk
                    exact nat_of (goodTown_true (askC_true hk).2.2.1).1
                  · cases h
                obtain ⟨hask, ⟨k, rfl, hk⟩, hnq, hask2, hlen⟩ := further_is (Prod.ext HB1H.out (Prod.ext HB2H.out HB3H.out) : bestFurtherV m T3 Q3 a3 = (b1, b2, true))
                obtain ⟨hm1, hm2, -, -⟩ := goodTown_true (askC_true hask).2.2.1
                obtain ⟨U, hU⟩ : ∃ z, (uncoveredNodesV m T3 Q3 a3).1 = z := ⟨_, rfl⟩
                obtain ⟨R, hR⟩ : ∃ z, (uncoveredNodesV m T3 (selI (allP Q3 (k : Int)) m) a3).1 = z := ⟨_, rfl⟩
                have hUe : U = covIdx (coverL m (arcs T3) Q3) a3 false m := by rw [← hU]; unfold uncoveredNodesV; rw [if_pos hask]; rfl
                have hRe : R = covIdx (coverL m (arcs T3) (selI (allP Q3 (k : Int)) m)) a3 false m := by rw [← hR]; unfold uncoveredNodesV; rw [if_pos hask2]; rfl
                rw [← hUe, ← hRe] at hlen
                have hRl : R.length ≤ 14 := by rw [hRe]; exact Nat.le_trans (covIdx_len _ _ _ _) (by omega)
                have s1 : IntKind.i64.wrap ((U.length : Int) - b2) = (U.length : Int) - b2 := IntWalk.i64_in _ (by omega)
                have e1 : ((R.length : Int) != (U.length : Int) - b2) = false := by rw [hlen]; simp
                have HU1 := Lib.hid hU
                have HU2 := Lib.hid (show (uncoveredNodesV m T3 Q3 a3).2 = true by rw [unc_snd, hask])
                have HR1x := Lib.hid hR
                have HR2x := Lib.hid (show (uncoveredNodesV m T3 (selI (allP Q3 (k : Int)) m) a3).2 = true by rw [unc_snd, hask2])
                have HNQ := Lib.hid (decide_eq_false hnq)
                have S1 := Lib.hid s1
                have E1 := Lib.hid e1
                clear hask hask2 hlen hU hR hUe hRe hRl hnq s1 e1
                have t0 := K3.out.cellAt 0 (by omega)
                have t1 := K3.out.cellAt 1 (by omega)
                dsimp only [List.getElem?_cons_zero, List.getElem?_cons_succ] at t0 t1
                go_wp2_with fail
                refine (uncoveredNodesS_c m _ T3 _ Q3 a3 _ HT3.out HQ3.out).mono ?_; unfold OwnIB; rw [HU1.out, HU2.out]; rintro e w19 ⟨vHUS, rfl, ho, hb⟩
                clear t0 t1
                replace HB := Lib.hid (bel_then HB.out hb)
                replace HT3 := Lib.hid (rd_below HT3.out hb)
                replace HQ3 := Lib.hid (rdi_below HQ3.out hb)
                replace K3 := Lib.hid (own_below K3.out hb)
                clear hb
                have HUS := Lib.hid (rdi_own ho)
                clear ho
                obtain ⟨Au, cu, rfl, -, -, -⟩ := HUS.out
                obtain ⟨i0, hi, hz0, hz1, hz2⟩ := info_parts Try.infoInt
                obtain ⟨wQ, hwQ⟩ : ∃ x : World, w19 = x := ⟨_, rfl⟩
                rw [hwQ] at HB HT3 HQ3 K3 HUS ⊢
                clear hwQ
                go_wp2_with fail
                go_loopw [56, 57] (fun va vi wr => ∃ (j : Nat) (L : List Int) (A : Option Addr) (c : Nat), j ≤ m ∧ vi = .int .i64 j ∧ va = .slice A L.length c ∧ Hid (selI (allP Q3 (k : Int)) j = L) ∧ L.length ≤ j ∧ Hid (wr.ownsRow wQ.heap.size 3 1 (.slice A L.length c) L.length (ints L)) ∧ Hid (Below wQ.heap.size wQ wr)) (fun _ vi _ => m - (intOf vi).toNat)
                case atStart => exact ⟨0, [], none, 0, Nat.zero_le _, rfl, rfl, Lib.hid rfl, Nat.le_refl _, Lib.hid (World.ownsRow_nil _ _ _ _), Lib.hid (Below.refl _ _)⟩
                case round =>
                  obtain ⟨j, L, A, c, hj, rfl, rfl, HL, hLj, HOW, HBL⟩ := hrel
                  obtain ⟨wA, rfl⟩ : ∃ wA : World, wA = wr := ⟨_, rfl⟩
                  have KA := Lib.hid (own_below K3.out HBL.out)
                  have t0 := KA.out.cellAt 0 (by omega)
                  dsimp only [List.getElem?_cons_zero, List.getElem?_cons_succ] at t0
                  have j0 : (0 : Int) ≤ (j : Int) := by omega
                  by_cases hlt : j < m
                  · have j1 : (j : Int) < (m : Int) := by omega
                    by_cases hjk : j = k
                    · have ej : ((j : Int) == (k : Int)) = true := by rw [hjk]; simp
                      have HSN := Lib.hid (selI_yes (p := allP Q3 (k : Int)) (k := j) (by unfold allP; rw [hjk]; simp))
                      have hlow := HOW.out.lt
                      have hsz := HBL.out.size
                      clear hjk
                      go_wp2_with (at_builtin; refine wpList_app_rd _ rfl _ _ 27 rfl wQ.heap.size 3 i0 (.int .i64 0) 1 8 Try.underlying27 hi hz0 hz1 hz2 rfl (by decide) _ _ _ rfl (HOW.out.alloc _) _ 1 [.int .i64 j] rfl (rd_new _ rfl (Nat.le_refl _) (by rw [maxLen_eq]; omega)) rfl (ints_one [(j : Int)]) (by rw [maxLen_eq]; omega) (by omega) (by simp; omega) ?_; intro v7 w7 hown7 hgrow7 _)
                      obtain ⟨A7, c7, rfl, _⟩ := own_rd hown7
                      have hg7 : Below wQ.heap.size wQ w7 := bel_grown (bel_al HBL.out _) hgrow7 (fun q e => (hlow q e).1)
                      refine ⟨⟨j + 1, L ++ [(j : Int)], A7, c7, by omega, by go_num, by simp, Lib.hid (by rw [HSN.out, HL.out]), by simp; omega, Lib.hid ?_, Lib.hid hg7⟩, by simp [intOf]; omega⟩
                      rw [ints_append, List.length_append]; exact hown7
                    · have ej : ((j : Int) == (k : Int)) = false := beq_false_of_ne (by omega)
                      by_cases hjq : (j : Int) ∈ Q3
                      · have HQD := Lib.hid (decide_eq_true hjq)
                        have HSN := Lib.hid (selI_yes (p := allP Q3 (k : Int)) (k := j) (by unfold allP; simp [hjq]))
                        clear hjk hjq
                        go_wp2_with fail
                        refine (pIn_c _ Q3 (j : Int) _ (rdi_below HQ3.out HBL.out)).mono ?_; rw [HQD.out]; rintro e wP ⟨rfl, hb⟩
                        replace HOW := Lib.hid (own_below HOW.out hb)
                        replace HBL := Lib.hid (bel_then HBL.out hb)
                        have hlow := HOW.out.lt
                        have hsz := HBL.out.size
                        clear hb
                        go_wp2_with (at_builtin; refine wpList_app_rd _ rfl _ _ 27 rfl wQ.heap.size 3 i0 (.int .i64 0) 1 8 Try.underlying27 hi hz0 hz1 hz2 rfl (by decide) _ _ _ rfl (HOW.out.alloc _) _ 1 [.int .i64 j] rfl (rd_new _ rfl (Nat.le_refl _) (by rw [maxLen_eq]; omega)) rfl (ints_one [(j : Int)]) (by rw [maxLen_eq]; omega) (by omega) (by simp; omega) ?_; intro v7 w7 hown7 hgrow7 _)
                        obtain ⟨A7, c7, rfl, _⟩ := own_rd hown7
                        have hg7 : Below wQ.heap.size wQ w7 := bel_grown (bel_al HBL.out _) hgrow7 (fun q e => (hlow q e).1)
                        refine ⟨⟨j + 1, L ++ [(j : Int)], A7, c7, by omega, by go_num, by simp, Lib.hid (by rw [HSN.out, HL.out]), by simp; omega, Lib.hid ?_, Lib.hid hg7⟩, by simp [intOf]; omega⟩
                        rw [ints_append, List.length_append]; exact hown7
                      · have HQD := Lib.hid (decide_eq_false hjq)
                        have HSN := Lib.hid (selI_no (p := allP Q3 (k : Int)) (k := j) (by unfold allP; simp [hjq]; omega))
                        clear hjk hjq
                        go_wp2_with fail
                        refine (pIn_c _ Q3 (j : Int) _ (rdi_below HQ3.out HBL.out)).mono ?_; rw [HQD.out]; rintro e wP ⟨rfl, hb⟩
                        replace HOW := Lib.hid (own_below HOW.out hb)
                        replace HBL := Lib.hid (bel_then HBL.out hb)
                        clear hb
                        go_wp2
                        exact ⟨⟨j + 1, L, A, c, by omega, by go_num, rfl, Lib.hid (by rw [HSN.out, HL.out]), by omega, HOW, HBL⟩, by simp [intOf]; omega⟩
                  · obtain rfl : j = m := by omega
                    have HR3 := Lib.hid (by have h := HR1x.out; rw [HL.out] at h; exact h : (uncoveredNodesV j T3 L a3).1 = R)
                    have HR4 := Lib.hid (by have h := HR2x.out; rw [HL.out] at h; exact h : (uncoveredNodesV j T3 L a3).2 = true)
                    have HOB := Lib.hid (bel_then HB.out HBL.out)
                    have t1 := KA.out.cellAt 1 (by omega)
                    dsimp only [List.getElem?_cons_zero, List.getElem?_cons_succ] at t1
                    go_wp2_with fail
                    refine (uncoveredNodesI_c j _ T3 _ L a3 _ (rd_below HT3.out HBL.out) (rdi_own HOW.out)).mono ?_; unfold OwnIB; rw [HR3.out, HR4.out]; rintro e wE ⟨vE, rfl, hoE, hb⟩
                    obtain ⟨Ae, ce, rfl, -, -, -⟩ := rdi_own hoE
                    replace HOB := Lib.hid (bel_then HOB.out hb)
                    have HQE := Lib.hid (rdi_below (rdi_below HQ3.out HBL.out) hb)
                    have s1 := S1.out
                    have e1 := E1.out
                    clear hb hoE t0 t1
                    go_wp2_with fail
                    refine (pIn_c _ Q3 (k : Int) _ HQE.out).mono ?_; rw [HNQ.out]; rintro e wF ⟨rfl, hb⟩
                    replace HOB := Lib.hid (bel_then HOB.out hb)
                    clear hb
                    go_wp2
                    go_ret
                    exact ⟨rfl, HOB.out⟩
end Go.Proofs.Ytahehdgkbhjpoaa
