/-
  impl.ApartNodes.
-/
import Derived.Test.YtemcdgchleijbaaApart
import Derived.Test.YtemcdgchleijbaaLaw
import Derived.Test.YtemcdgchleijbaaFewI
namespace Go.Proofs.Ytemcdgchleijbaa
open Go.RowKit

theorem gro_mark {a b c : World} {g : Nat} {r : Option Nat} (h : a.grownBy b (some g)) (k : b.grownBy c r) (hr : ∀ q, r = some q → a.heap.size ≤ q) : a.grownBy c (some g) :=
  ⟨k.os.trans h.os, k.tape.trans h.tape, k.output.trans h.output, Nat.le_trans h.size k.size, fun i hi hne => (k.block i (Nat.lt_of_lt_of_le hi h.size) (fun e => by have := hr i e.symm; omega)).trans (h.block i hi hne)⟩
theorem kept4 {a b : World} {base : Nat} {e : TypeId} {sz : Nat} {v : Value} {r : Option Nat} {n : Nat} {xs : List Value} (h : a.ownsRow base e sz v n xs) (g : a.grownBy b r) (sep : ∀ q q', v.ownBlock = some q → r = some q' → q ≠ q') : b.ownsRow base e sz v n xs :=
  h.kept g (by
    cases hv : v.ownBlock with
    | none => exact .inl rfl
    | some q => exact .inr (fun hq => sep q q hv hq.symm rfl))

set_option maxRecDepth 100000 in
set_option maxHeartbeats 1000000 in
theorem apartNodesI_c (n : Int) (s : Value) (l : List St) (a : Int) (w : World) (hr : Rd w s l.length (l.flatMap St.cells)) :
    Calls Try.prog 25 #[.agg #[.int .i64 n, s], .int .i64 a] w (OwnIB (apartNodesV n l a) w) := by
  have HR := Lib.hid hr
  have hbx : ∀ o, Below w.heap.size w (w.alloc o) := fun o => bel_al (Below.refl _ _) o
  obtain ⟨As, cs, rfl, _⟩ := hr
  by_cases hg : goodTown n l = true
  · by_cases hl : inB a 0 36000 = true
    · obtain ⟨m, rfl⟩ := nat_of (goodTown_true hg).1
      have HF : Hid (apartNodesV m l a = apartNodesW m l a) := Lib.hid (by unfold apartNodesV; rw [hg, hl, Int.toNat_natCast]; rfl)
      obtain ⟨hm1, hm2, _, _⟩ := goodTown_true hg
      obtain ⟨hlim0, hlim1⟩ := inB_true hl
      have HG := Lib.hid hg
      have HL := Lib.hid hl
      clear hg hl
      go_enter Try.func25, Try.ntmps25
      go_wp2_with fail
      generalize hw1 : World.alloc w _ = w1
      have k0 : w1.cell? ⟨w.heap.size, 0, none⟩ = some (.int .i64 m) := by subst hw1; simp [go_sem]
      have k1 : w1.cell? ⟨w.heap.size, 1, none⟩ = some (.slice As l.length cs) := by subst hw1; simp [go_sem]
      have hb1 : Below w.heap.size w w1 := by subst hw1; exact hbx _
      have hz : w.heap.size < w1.heap.size := by subst hw1; simp
      clear hw1 hbx
      refine (isTown_c m _ l _ _ k0 k1 (rd_below HR.out hb1)).mono ?_; rw [HG.out]; rintro e w2 ⟨rfl, hb2⟩
      have hz2 : w.heap.size < w2.heap.size := Nat.lt_of_lt_of_le hz hb2.size
      have z0 := (hb2.cell (p := ⟨w.heap.size, 0, none⟩) hz).trans k0
      have z1 := (hb2.cell (p := ⟨w.heap.size, 1, none⟩) hz).trans k1
      have HB := Lib.hid (bel_then hb1 hb2)
      have HR2 := Lib.hid (rd_below HR.out (bel_then hb1 hb2))
      clear k0 k1 hb1 hb2 hz
      go_wp2_with fail
      refine (isLimit_c a _).mono ?_; rw [HL.out]; rintro e w2 ⟨rfl, rfl⟩
      obtain ⟨i0, hi0, hz0, hz1, hz2'⟩ := info_parts Try.infoInt
      obtain ⟨ib, hib, hbz0, hbz1, hbz2⟩ := info_parts Try.infoBool
      have hA := arcs_good HG.out
      rw [Int.toNat_natCast] at hA
      have HA := Lib.hid hA
      have eg : ∀ args w, (callFunc 64 args).run Try.prog w = .ok (.enter 64 args) w := enters_of Try.func64 (by kernel_rfl) rfl
      have EG := Lib.hid eg
      clear hA eg
      go_wp2_with (at_make; refine wpList_make_full _ rfl _ _ 66 rfl w2.heap.size 4 ib _ 1 Try.underlying66 hib hbz0 hbz1 _ _ _ _ m rfl rfl rfl rfl (by rw [hbz2]; omega) (by rw [maxLen_eq]; omega) (Nat.le_refl _) ?_; intro w3 hown3 hg3; rw [made_bools] at hown3; have b0 := ((bel_grown (Below.refl _ _) hg3 (fun k h => by cases h) : Below w2.heap.size w2 w3).cell (p := ⟨w.heap.size, 0, none⟩) hz2).trans z0; have b1 := ((bel_grown (Below.refl _ _) hg3 (fun k h => by cases h) : Below w2.heap.size w2 w3).cell (p := ⟨w.heap.size, 1, none⟩) hz2).trans z1; have HB3 : Hid (Below w2.heap.size w2 w3) := Lib.hid (bel_grown (Below.refl _ _) hg3 (fun k h => by cases h)); have hz3 : w.heap.size < w3.heap.size := Nat.lt_of_lt_of_le hz2 HB3.out.size; have HO3 := Lib.hid hown3; clear hown3 hg3)
      clear z0 z1
      generalize hW4 : World.alloc w3 _ = w4
      obtain ⟨gt, hgt⟩ : ∃ gt, gt = w2.heap.size := ⟨_, rfl⟩
      have hgt3 : gt < w3.heap.size := by have := (HO3.out.lt w2.heap.size rfl).2; omega
      have hs3 := HB3.out.size
      have cb : w4.cell? ⟨w3.heap.size, 0, none⟩ = some (.slice (some ⟨w2.heap.size, 0, none⟩) m m) := by subst hW4; simp [go_sem]
      have hz4 : w3.heap.size < w4.heap.size := by subst hW4; simp
      have HB4 : Hid (Below w2.heap.size w2 w4) := Lib.hid (by subst hW4; exact bel_al HB3.out _)
      have HT4 : Hid (w4.ownsRow w2.heap.size 4 1 (.slice (some ⟨w2.heap.size, 0, none⟩) m m) m (boolsV (List.replicate m false))) := Lib.hid (by subst hW4; exact HO3.out.alloc _)
      have b0' : w4.cell? ⟨w.heap.size, 0, none⟩ = some (.int .i64 m) := by subst hW4; exact (World.cell?_alloc_lt _ _ _ (by show w.heap.size < _; omega)).trans b0
      have b1' : w4.cell? ⟨w.heap.size, 1, none⟩ = some (.slice As l.length cs) := by subst hW4; exact (World.cell?_alloc_lt _ _ _ (by show w.heap.size < _; omega)).trans b1
      rw [← hgt] at cb HT4 ⊢
      have HRT := Lib.hid (rd_below HR2.out HB4.out)
      have HBW4 : Hid (Below w.heap.size w w4) := Lib.hid (bel_then HB.out HB4.out)
      clear hW4 b0 b1 HO3 HB3
      have hwgt : w.heap.size < gt := by omega
      clear hgt
      go_loopw [6, 26] (fun v6 v26 wr => ∃ (k : Nat) (L : List Int) (tk : List Bool), k ≤ m ∧ v26 = .int .i64 k ∧ L.length ≤ k ∧ Hid (apartL m (arcs l) a k = L) ∧ Hid (Taken m (arcs l) a L tk) ∧ Hid (wr.ownsRow w4.heap.size 3 1 v6 L.length (ints L)) ∧ Hid (wr.ownsRow gt 4 1 (.slice (some ⟨gt, 0, none⟩) m m) m (boolsV tk)) ∧ Hid (w4.grownBy wr (some gt))) (fun _ v26 _ => m - (intOf v26).toNat)
      case atStart => exact ⟨0, [], _, Nat.zero_le _, rfl, by simp, Lib.hid rfl, Lib.hid (taken_start _ _ _), Lib.hid (World.ownsRow_nil _ _ _ _), HT4, Lib.hid (World.grownBy.refl _ _)⟩
      case round =>
        obtain ⟨k, L, tk, hk, rfl, hLk, HL', HTK, HOL, HOT, HGR⟩ := hrel
        obtain ⟨wA, rfl⟩ : ∃ wA : World, wA = wr := ⟨_, rfl⟩
        have hsA := HGR.out.size
        by_cases hlt : k < m
        · have d0 := (gro_cell HGR.out (o := 0) (x := w.heap.size) (by omega) (by omega)).trans b0'
          have d1 := (gro_cell HGR.out (o := 1) (x := w.heap.size) (by omega) (by omega)).trans b1'
          have hBA : Below gt w4 wA := ⟨HGR.out.os, HGR.out.tape, HGR.out.output, HGR.out.size, fun i hi => HGR.out.block i (by omega) (by intro e; have := Option.some.inj e; omega)⟩
          have HRA : Hid (Rd wA (.slice As l.length cs) l.length (l.flatMap St.cells)) := Lib.hid (by
            have h := HR.out
            exact rd_below h (bel_mark HBW4.out HBW4.out.size HGR.out (fun q e => by have := Option.some.inj e; omega)))
          clear hBA
          go_wp2_with fail
          refine (timesI_c m _ l _ k _ HG.out hlt d0 d1 HRA.out).mono ?_
          rintro e w5 ⟨v5, rfl, ho5, hb5⟩
          rw [distT_len] at ho5
          obtain ⟨h, cap5, rfl, hbh, hhl, hcap5, hcm5⟩ := own_shape ho5 (by omega)
          have hs5 := hb5.size
          have HO5 := Lib.hid ho5
          have HGR5 : Hid (w4.grownBy w5 (some gt)) := Lib.hid (gro_bel HGR.out hb5)
          have HOL5 := Lib.hid (own_below HOL.out hb5)
          have HOT5 := Lib.hid (own_below HOT.out hb5)
          have IL := Lib.hid (own_below HOL.out hb5).lt
          have ILA := Lib.hid HOL.out.lt
          clear ho5 hb5 d0 d1 HRA
          go_wp2_with fail
          go_loopw [9, 32] (fun v9 v32 wr2 => ∃ (j : Nat) (M : List Int), j ≤ m ∧ v32 = .int .i64 j ∧ M.length ≤ j ∧ Hid (selI (reachP m (arcs l) a k) j = M) ∧ Hid (wr2.ownsRow w5.heap.size 3 1 v9 M.length (ints M)) ∧ Hid (Below w5.heap.size w5 wr2)) (fun _ v32 _ => m - (intOf v32).toNat)
          case atStart => exact ⟨0, [], Nat.zero_le _, rfl, by simp, Lib.hid rfl, Lib.hid (World.ownsRow_nil _ _ _ _), Lib.hid (Below.refl _ _)⟩
          case round =>
            obtain ⟨j, M, hj, rfl, hMj, HM, HOM, HBM⟩ := hrel
            obtain ⟨wB, rfl⟩ : ∃ wB : World, wB = wr := ⟨_, rfl⟩
            have hsB := HBM.out.size
            by_cases hjm : j < m
            · have ce := (HBM.out.cell (p := ⟨h, j, none⟩) hhl).trans (own_cell HO5.out hjm)
              obtain ⟨x, hx⟩ : ∃ x, (distT m (arcs l) k).getD j 0 = x := ⟨_, rfl⟩
              rw [hx] at ce
              have HX := Lib.hid hx
              clear hx
              go_wp2_with fail
              refine (inside_c _ _ _ _).mono ?_; rintro e w' ⟨rfl, rfl⟩
              by_cases hin : inB x 0 a = true
              · rw [hin]
                have HM' : Hid (selI (reachP m (arcs l) a k) (j + 1) = M ++ [(j : Int)]) := Lib.hid (by rw [selI_yes (by unfold reachP; rw [HX.out]; exact hin), HM.out])
                clear hin
                go_wp2_with (at_builtin; refine wpList_app_rd _ rfl _ _ 25 rfl w5.heap.size 3 i0 (.int .i64 0) 1 8 Try.underlying25 hi0 hz0 hz1 hz2' rfl (by decide) _ _ _ rfl (HOM.out.alloc _) _ 1 [.int .i64 j] rfl (rd_new _ rfl (Nat.le_refl _) (by rw [maxLen_eq]; omega)) rfl (ints_one [(j : Int)]) (by rw [maxLen_eq]; omega) (by omega) (by have := HBM.out.size; simp; omega) ?_; intro v' w7 hown' hgrow hat)
                refine ⟨⟨j + 1, M ++ [(j : Int)], by omega, by go_num, by rw [List.length_append]; simp; omega, HM', Lib.hid ?_, Lib.hid (bel_grown (bel_al HBM.out _) hgrow (fun q e => (HOM.out.lt q e).1))⟩, by simp [intOf]; omega⟩
                rw [ints_append, List.length_append]; exact hown'
              · have hin' : inB x 0 a = false := by simpa using hin
                rw [hin']
                have HM' : Hid (selI (reachP m (arcs l) a k) (j + 1) = M) := Lib.hid (by rw [selI_no (by unfold reachP; rw [HX.out]; exact hin'), HM.out])
                clear hin hin'
                go_wp2
                exact ⟨⟨j + 1, M, by omega, by go_num, by omega, HM', HOM, HBM⟩, by simp [intOf]; omega⟩
            · obtain rfl : j = m := by omega
              rename_i v9 _
              have HOTB := Lib.hid (own_below HOT5.out HBM.out)
              have HOLB := Lib.hid (own_below HOL5.out HBM.out)
              have HGRB : Hid (w4.grownBy wB (some gt)) := Lib.hid (gro_bel HGR5.out HBM.out)
              have cbB := (gro_cell HGRB.out (o := 0) (x := w3.heap.size) hz4 (by omega)).trans cb
              have hMM : M = nearL j (arcs l) a k := HM.out.symm
              have HMM := Lib.hid hMM
              have hmem : ∀ x ∈ M, ∃ i : Nat, x = (i : Int) ∧ i < j := fun x hx => by
                rw [hMM] at hx
                obtain ⟨i, h1, h2, _⟩ := selI_mem.1 hx
                exact ⟨i, h1, h2⟩
              have HMEM := Lib.hid hmem
              have hsays : Says 64 #[.pointer (some ⟨w3.heap.size, 0, none⟩)] (tkP tk) M wB := fun x hx => by
                obtain ⟨i, rfl, hi⟩ := hmem x hx
                have h := apartF_c i gt j j w3.heap.size _ tk wB cbB HOTB.out hi (by omega)
                unfold tkP
                rw [Int.toNat_natCast]; exact h
              have HSAY := Lib.hid hsays
              have hany := apart_iff HA.out (a := a) (out := L) (tk := tk) hlt (fun x hx => by rw [← HL'.out] at hx; obtain ⟨i, h1, h2⟩ := apartL_mem hx; exact ⟨i, h1, by omega⟩) HTK.out
              rw [← hMM] at hany
              have HANY := Lib.hid hany
              have IM := Lib.hid HOM.out.lt
              obtain ⟨AM, cM, hxM, hcM, hmM, _⟩ := own_rd HOM.out
              subst hxM
              rw [maxLen_eq] at hmM
              clear hMM hmem hsays hany
              go_wp2_with fail
              refine (containsFunc_c 64 _ EG.out (tkP tk) _ M _ HSAY.out (rdi_own HOM.out)).mono ?_; rintro e w' ⟨rfl, rfl⟩
              rw [HANY.out]
              by_cases hap : apartP j (arcs l) a L k = true
              · rw [hap]
                have HL2 : Hid (apartL j (arcs l) a (k + 1) = L ++ [(k : Int)]) := Lib.hid (by
                  show (if apartP j (arcs l) a (apartL j (arcs l) a k) k = true then apartL j (arcs l) a k ++ [(k : Int)] else apartL j (arcs l) a k) = _
                  rw [HL'.out, if_pos hap])
                clear hap
                go_wp2_with (at_builtin; refine wpList_app_rd _ rfl _ _ 25 rfl w4.heap.size 3 i0 (.int .i64 0) 1 8 Try.underlying25 hi0 hz0 hz1 hz2' rfl (by decide) _ _ _ rfl (HOLB.out.alloc _) _ 1 [.int .i64 k] rfl (rd_new _ rfl (Nat.le_refl _) (by rw [maxLen_eq]; omega)) rfl (ints_one [(k : Int)]) (by rw [maxLen_eq]; omega) (by omega) (by simp; omega) ?_; intro v' w7 hown' hgrow hat)
                have hs7 := hgrow.size
                have HB7 := Lib.hid hgrow
                have IL7 := Lib.hid hown'.lt
                have HOL7 : Hid (w7.ownsRow w4.heap.size 3 1 v' (L ++ [(k : Int)]).length (ints (L ++ [(k : Int)]))) := Lib.hid (by rw [ints_append, List.length_append]; exact hown')
                have HOT7 : Hid (w7.ownsRow gt 4 1 (.slice (some ⟨gt, 0, none⟩) j j) j (boolsV tk)) := Lib.hid (kept4 (HOTB.out.alloc _) hgrow (fun q q' e e' => by have h1 : gt = q := Option.some.inj e; have := (IL.out q' e').1; omega))
                have HON7 : Hid (w7.ownsRow w5.heap.size 3 1 (.slice AM M.length cM) M.length (ints M)) := Lib.hid (kept4 (HOM.out.alloc _) hgrow (fun q q' e e' => by have := (IM.out q e).1; have := (IL.out q' e').2; omega))
                have HGR7 : Hid (w4.grownBy w7 (some gt)) := Lib.hid (gro_mark (gro_al HGRB.out _) hgrow (fun q e => (IL.out q e).1))
                have hsz7 : w5.heap.size ≤ w7.heap.size := by simp at hs7; omega
                obtain ⟨AM', cM', hxM', hcM', hmM', hrM⟩ := own_rd HON7.out
                have HRM := Lib.hid hrM
                injection hxM' with hx1 hx2 hx3
                clear hx2
                subst hx1; subst hx3
                have cb7 := (gro_cell HGR7.out (o := 0) (x := w3.heap.size) hz4 (by omega)).trans cb
                have IN := Lib.hid HON7.out.lt
                have hlm : M.length ≤ 14 := by omega
                clear hown' hgrow hat hrM hs7 hmM' hcM'
                go_wp2_with fail
                go_loopw [54] (fun v54 wr2 => ∃ (i : Nat) (d : List Bool), i ≤ M.length ∧ v54 = .int .i64 i ∧ Hid (TakeInv j tk d M i) ∧ Hid (wr2.ownsRow gt 4 1 (.slice (some ⟨gt, 0, none⟩) j j) j (boolsV d)) ∧ Hid (w7.grownBy wr2 (some gt))) (fun v54 _ => M.length - (intOf v54).toNat)
                case atStart => exact ⟨0, tk, Nat.zero_le _, rfl, Lib.hid ⟨HTK.out.1, fun r hr => by simp⟩, HOT7, Lib.hid (World.grownBy.refl _ _)⟩
                case round =>
                  obtain ⟨i, d, hi, rfl, HTI, HOD, HGD⟩ := hrel
                  obtain ⟨wD, rfl⟩ : ∃ wD : World, wD = wr := ⟨_, rfl⟩
                  have hsD := HGD.out.size
                  by_cases hil : i < M.length
                  · obtain ⟨bb, off, rfl, hbl, hcell⟩ := HRM.out (by omega)
                    obtain ⟨x, hx⟩ : ∃ x, M[i]? = some x := ⟨_, List.getElem?_eq_getElem hil⟩
                    obtain ⟨t, rfl, htm⟩ := HMEM.out x (List.mem_of_getElem? hx)
                    have hbb : bb ≠ gt := by have := (IN.out bb rfl).1; omega
                    have cx := (gro_cell HGD.out hbl hbb).trans (hcell _ _ (ints_get hx))
                    have cbD := (gro_cell HGD.out (o := 0) (x := w3.heap.size) (by omega) (by omega)).trans cb7
                    have ct := ownB_cell HOD.out htm
                    have ft := HOD.out.frozenAt t
                    have HX := Lib.hid hx
                    have t0 : (0 : Int) ≤ (t : Int) := by omega
                    have t1 : (t : Int) < (j : Int) := by omega
                    clear hx hcell
                    go_wp2
                    exact ⟨⟨i + 1, _, by omega, by go_num, Lib.hid (take_step HTI.out HX.out htm), Lib.hid (ownB_set HOD.out t true), Lib.hid (only_setCell HGD.out t _)⟩, by simp [intOf]; omega⟩
                  · obtain rfl : i = M.length := by omega
                    have HTK' : Hid (Taken j (arcs l) a (L ++ [(k : Int)]) d) := Lib.hid (take_end HTK.out (by rw [← HMM.out]; exact HTI.out))
                    have HOL8 := Lib.hid (kept4 HOL7.out HGD.out (fun q q' e e' => by have h1 : gt = q' := Option.some.inj e'; have := (IL7.out q e).1; omega))
                    go_wp2
                    exact ⟨⟨k + 1, L ++ [(k : Int)], d, by omega, by go_num, by rw [List.length_append]; simp; omega, HL2, HTK', HOL8, HOD, Lib.hid (gro_trans HGR7.out HGD.out)⟩, by simp [intOf]; omega⟩
              · have hap' : apartP j (arcs l) a L k = false := by simpa using hap
                rw [hap']
                have HL2 : Hid (apartL j (arcs l) a (k + 1) = L) := Lib.hid (by
                  show (if apartP j (arcs l) a (apartL j (arcs l) a k) k = true then apartL j (arcs l) a k ++ [(k : Int)] else apartL j (arcs l) a k) = _
                  rw [HL'.out, if_neg hap])
                clear hap hap'
                go_wp2
                exact ⟨⟨k + 1, L, tk, by omega, by go_num, by omega, HL2, HTK, HOLB, HOTB, HGRB⟩, by simp [intOf]; omega⟩
        · obtain rfl : k = m := by omega
          have HW : Hid (apartNodesW k l a = (L, true)) := Lib.hid (by unfold apartNodesW; rw [HL'.out])
          go_wp2
          go_ret2
          rw [HF.out, HW.out]
          refine ⟨_, rfl, ?_, bel_mark HBW4.out HBW4.out.size HGR.out (fun q e => by have := Option.some.inj e; omega)⟩
          exact own_base HOL.out HBW4.out.size
    · have hl : inB a 0 36000 = false := by simpa using hl
      have HF : Hid (apartNodesV n l a = ([], false)) := Lib.hid (by unfold apartNodesV; rw [hl, Bool.and_false]; rfl)
      have HG := Lib.hid hg
      have HL := Lib.hid hl
      clear hg hl
      go_enter Try.func25, Try.ntmps25
      go_wp2_with fail
      refine (isTown_c n _ l _ _ (by simp [go_sem]) (by simp [go_sem]) (rd_below HR.out (hbx _))).mono ?_; rw [HG.out]; rintro e w2 ⟨rfl, hb2⟩
      go_wp2_with fail
      refine (isLimit_c a _).mono ?_; rw [HL.out]; rintro e w2 ⟨rfl, rfl⟩
      go_wp2
      go_ret2
      rw [HF.out]
      exact ⟨_, rfl, World.ownsRow_nil _ _ _ _, bel_then (hbx _) hb2⟩
  · have hg : goodTown n l = false := by simpa using hg
    have HF : Hid (apartNodesV n l a = ([], false)) := Lib.hid (by unfold apartNodesV; rw [hg]; rfl)
    have HG := Lib.hid hg
    clear hg
    go_enter Try.func25, Try.ntmps25
    go_wp2_with fail
    refine (isTown_c n _ l _ _ (by simp [go_sem]) (by simp [go_sem]) (rd_below HR.out (hbx _))).mono ?_; rw [HG.out]; rintro e w2 ⟨rfl, hb2⟩
    go_wp2
    go_ret2
    rw [HF.out]
    exact ⟨_, rfl, World.ownsRow_nil _ _ _ _, bel_then (hbx _) hb2⟩
end Go.Proofs.Ytemcdgchleijbaa
