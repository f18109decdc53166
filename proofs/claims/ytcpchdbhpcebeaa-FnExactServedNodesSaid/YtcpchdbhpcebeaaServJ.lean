/-
  ServedNodes: the walk of the program's side.
-/
import Derived.Test.YtcpchdbhpcebeaaServI
namespace Go.Proofs.Ytcpchdbhpcebeaa
open Go.RowKit

theorem missL_len2 (f : List Ap) : ∀ (L d : List Int), (missL f L d).length = d.length := by
  intro L
  induction L with
  | nil => intro d; rfl
  | cons i L ih => intro d; unfold missL; rw [List.foldl_cons]; have := ih (missStep f d i); unfold missL at this; rw [this]; unfold missStep; simp
theorem own_far {w : World} {base : Nat} {e : TypeId} {sz : Nat} {v : Value} {n : Nat} {xs : List Value} (h : w.ownsRow base e sz v n xs) {g : Nat} (hne : ∀ q, v.ownBlock = some q → q ≠ g) (j : Nat) (u : Value) : (w.setCell ⟨g, j, none⟩ u).ownsRow base e sz v n xs :=
  h.kept (only_setCell (World.grownBy.refl w (some g)) j u) (by
    cases hv : v.ownBlock with
    | none => exact .inl rfl
    | some q => exact .inr (fun hq => hne q hv (Option.some.inj hq)))
set_option maxRecDepth 100000 in
set_option maxHeartbeats 8000000 in
theorem servedNodesI_c (n : Int) (s : Value) (l : List St) (v : Value) (f : List Ap) (vn : Value) (need : List Int) (limit : Int) (w : World) (hr : Rd w s l.length (l.flatMap St.cells)) (hz : ∀ x ∈ f, x.nm.size ≤ 9223372036854775807) (hf : Rd w v f.length (f.flatMap Ap.cells)) (hvn : RdI w vn need) :
    Calls Try.prog 42 #[.agg #[.int .i64 n, s], v, vn, .int .i64 limit] w (OwnIB (servedNodesV n l f need limit) w) := by
  have HR := Lib.hid hr
  have HF := Lib.hid hf
  have HZ := Lib.hid hz
  have HN := Lib.hid hvn
  have hEG : ∀ args w, (callFunc 79 args).run Try.prog w = .ok (.enter 79 args) w := enters_of Try.func79 (by kernel_rfl) rfl
  have EG := Lib.hid hEG
  obtain ⟨A, c, rfl, hc, hm, hcell0⟩ := hf
  rw [maxLen_eq] at hm
  have HCELL := Lib.hid hcell0
  obtain ⟨i0', hi, hz0, hz1, hz2⟩ := info_parts Try.infoInt
  clear hr hz hcell0 hvn hEG
  go_enter Try.func42, Try.ntmps42
  go_wp2_with fail
  generalize hW : World.alloc (World.alloc (World.alloc w _) _) _ = w1
  have k0 : w1.cell? ⟨w.heap.size, 0, none⟩ = some (.int .i64 n) := by subst hW; simp [go_sem]
  have k1 : w1.cell? ⟨w.heap.size, 1, none⟩ = some s := by subst hW; simp [go_sem]
  have k2 : w1.cell? ⟨w.heap.size + 1, 0, none⟩ = some (.slice A f.length c) := by subst hW; simp [go_sem]
  have k3 : w1.cell? ⟨w.heap.size + 1 + 1, 0, none⟩ = some (.int .i64 limit) := by subst hW; simp [go_sem]
  have hsz1 : w.heap.size + 1 + 1 < w1.heap.size := by subst hW; simp
  have hb0 : Below w.heap.size w w1 := by subst hW; exact bel_al (bel_al (bel_al (Below.refl _ _) _) _) _
  have HB := Lib.hid hb0
  clear hW
  refine (dispatchFits_c n s l _ f w.heap.size _ k0 k1 (rd_below HR.out HB.out) HZ.out (rd_below HF.out HB.out)).mono ?_; rintro e w2 ⟨rfl, hb1⟩
  have e0 := (hb1.cell (p := ⟨w.heap.size, 0, none⟩) (by show w.heap.size < _; omega)).trans k0
  have e1 := (hb1.cell (p := ⟨w.heap.size, 1, none⟩) (by show w.heap.size < _; omega)).trans k1
  have e2 := (hb1.cell (p := ⟨w.heap.size + 1, 0, none⟩) (by show w.heap.size + 1 < _; omega)).trans k2
  have e3 := (hb1.cell (p := ⟨w.heap.size + 1 + 1, 0, none⟩) (by show w.heap.size + 1 + 1 < _; omega)).trans k3
  have hs1 := hb1.size
  have HB1 := Lib.hid (bel_then HB.out hb1)
  clear k0 k1 k2 k3 hb0 hb1
  by_cases hg : goodDs n l f = true
  · have HDS := Lib.hid hg
    rw [hg]
    obtain ⟨hgt, hgf, hnd⟩ := goodDs_true hg
    obtain ⟨hn1, hn2, _⟩ := goodTown_true hgt
    obtain ⟨N, rfl⟩ := Int.eq_ofNat_of_zero_le (show 0 ≤ n by omega)
    have HGT := Lib.hid hgt
    have HGF := Lib.hid hgf
    have HND := Lib.hid hnd
    clear hg hgt hgf hnd
    go_wp2_with fail
    refine (isNeed_c _ need _ (rd_below HN.out HB1.out)).mono ?_; rintro e w3 ⟨rfl, rfl⟩
    by_cases hne : needB need = true
    · have HNE := Lib.hid hne
      rw [hne]
      clear hne
      go_wp2_with fail
      refine (inside_c limit 0 36000 _).mono ?_; rintro e w3 ⟨rfl, rfl⟩
      by_cases hli : inB limit 0 36000 = true
      · have HV := Lib.hid (serv_yes HDS.out HNE.out hli)
        have E0 := Lib.hid e0
        have E1 := Lib.hid e1
        have E2 := Lib.hid e2
        have E3 := Lib.hid e3
        rw [hli]
        clear hli
        go_wp2_with fail
        clear e0 e1 e2 e3
        go_loopw [10, 30] (fun vo vi wr => ∃ (k : Nat) (S : List Int), k ≤ N ∧ S.length ≤ k ∧ vi = .int .i64 k ∧ Hid (selD (servP l f need limit N) k = S) ∧ Hid (wr.ownsRow w2.heap.size 3 1 vo S.length (ints S)) ∧ Hid (Below w2.heap.size w2 wr)) (fun _ vi _ => N - (intOf vi).toNat)
        case atStart => exact ⟨0, [], Nat.zero_le _, Nat.le_refl _, rfl, Lib.hid rfl, Lib.hid (World.ownsRow_nil _ _ _ _), Lib.hid (Below.refl _ _)⟩
        case round =>
          obtain ⟨k, S, hk, hSk, rfl, HS, HOW, HBL⟩ := hrel
          obtain ⟨wA, rfl⟩ : ∃ wA : World, wA = wr := ⟨_, rfl⟩
          have hsA := HBL.out.size
          by_cases hlt : k < N
          · have t0 := (HBL.out.cell (p := ⟨w.heap.size, 0, none⟩) (by show w.heap.size < _; omega)).trans E0.out
            have t1 := (HBL.out.cell (p := ⟨w.heap.size, 1, none⟩) (by show w.heap.size < _; omega)).trans E1.out
            have t2 := (HBL.out.cell (p := ⟨w.heap.size + 1, 0, none⟩) (by show w.heap.size + 1 < _; omega)).trans E2.out
            have t3 := (HBL.out.cell (p := ⟨w.heap.size + 1 + 1, 0, none⟩) (by show w.heap.size + 1 + 1 < _; omega)).trans E3.out
            have HBA := Lib.hid (bel_then HB1.out HBL.out)
            have T0 := Lib.hid t0
            have T1 := Lib.hid t1
            have T3 := Lib.hid t3
            have hz0A : w.heap.size < wA.heap.size := by omega
            have hz1A : w.heap.size + 1 < wA.heap.size := by omega
            have hz2A : w.heap.size + 1 + 1 < wA.heap.size := by omega
            obtain ⟨ev, hev⟩ : ∃ ev, distT N (arcs l) k = ev := ⟨_, rfl⟩
            have hpm := pick_mem f (fun y => ∃ (i : Nat) (a : Ap), y = (i : Int) ∧ f[i]? = some a) (readyL ev f) need (fun y hy => by
              obtain ⟨i, a, h1, h2, _⟩ := readyL_mem hy
              exact ⟨i, a, h1, h2⟩)
            obtain ⟨M, hM⟩ : ∃ M, (pickL f (readyL ev f) need).1 = M := ⟨_, rfl⟩
            rw [hM] at hpm
            have HPM := Lib.hid hpm.1
            have hM12 := Nat.le_trans hpm.2 (Nat.le_trans (readyL_len _ _) (goodFl_true HGF.out).1)
            have HM12 := Lib.hid hM12
            have HEV := Lib.hid hev
            have HMM : Hid ((pickL f (readyL (distT N (arcs l) k) f) need).1 = M) := Lib.hid (by rw [hev]; exact hM)
            have HSERV := Lib.hid (serv_at (limit := limit) HNE.out hev hM)
            clear t0 t1 t3 hev hpm hM
            go_wp2_with fail
            go_region_held3 (fun W' => W'.cell? ⟨w.heap.size + 1, 0, none⟩ = some (.slice A f.length c) ∧ Below wA.heap.size wA W')
              (first | exact ⟨t2, bel_dr (Below.refl _ _)⟩ | exact ⟨(gC.cell (p := ⟨w.heap.size + 1, 0, none⟩) hz1A).trans t2, gC⟩ | exact ⟨(gT.cell (p := ⟨w.heap.size + 1, 0, none⟩) hz1A).trans t2, gT⟩ | exact ⟨((bel_al gC _).cell (p := ⟨w.heap.size + 1, 0, none⟩) hz1A).trans t2, bel_al gC _⟩ | exact ⟨((bel_al gT _).cell (p := ⟨w.heap.size + 1, 0, none⟩) hz1A).trans t2, bel_al gT _⟩ | exact ⟨(Below.cell (Below.setCell gC (by first | omega | (simp; done) | (simp; omega)) _) (p := ⟨w.heap.size + 1, 0, none⟩) hz1A).trans t2, (Below.setCell gC (by first | omega | (simp; done) | (simp; omega)) _)⟩ | exact ⟨(Below.cell (Below.setCell (bel_al gC _) (by first | omega | (simp; done) | (simp; omega)) _) (p := ⟨w.heap.size + 1, 0, none⟩) hz1A).trans t2, (Below.setCell (bel_al gC _) (by first | omega | (simp; done) | (simp; omega)) _)⟩ | exact ⟨(Below.cell (Below.setCell gT (by first | omega | (simp; done) | (simp; omega)) _) (p := ⟨w.heap.size + 1, 0, none⟩) hz1A).trans t2, (Below.setCell gT (by first | omega | (simp; done) | (simp; omega)) _)⟩ | exact ⟨(Below.cell (Below.setCell (bel_al gT _) (by first | omega | (simp; done) | (simp; omega)) _) (p := ⟨w.heap.size + 1, 0, none⟩) hz1A).trans t2, (Below.setCell (bel_al gT _) (by first | omega | (simp; done) | (simp; omega)) _)⟩ | exact ⟨(Below.cell (bel_dr (bel_al (Below.refl wA.heap.size wA) _)) (p := ⟨w.heap.size + 1, 0, none⟩) hz1A).trans t2, (bel_dr (bel_al (Below.refl wA.heap.size wA) _))⟩ | exact ⟨(Below.cell (bel_al (bel_dr (Below.refl wA.heap.size wA)) _) (p := ⟨w.heap.size + 1, 0, none⟩) hz1A).trans t2, (bel_al (bel_dr (Below.refl wA.heap.size wA)) _)⟩ | go_keep)
              (first | (go_at_call 58; refine (timesI_c N s l w.heap.size k _ HGT.out hlt ((Below.cell (And.right ‹_›) (p := ⟨w.heap.size, 0, none⟩) hz0A).trans T0.out) ((Below.cell (And.right ‹_›) (p := ⟨w.heap.size, 1, none⟩) hz0A).trans T1.out) (rd_below HR.out (bel_then HBA.out (And.right ‹_›)))).mono ?_; rintro e wT ⟨vT, rfl, hoT, hbT⟩; rw [show (distT N (arcs l) k).length = N by unfold distT; rw [iterT_len, startT_len]] at hoT; rw [HEV.out] at hoT; obtain ⟨hT, capT, rfl, hbhT, hhlT, hcapT, hcmT⟩ := own_shape hoT (by omega); have gT : Below wA.heap.size wA wT := bel_then (And.right ‹_›) hbT; have fT := bel_facts hbT; obtain ⟨fT1, fT2⟩ := fT; have sT := hbT.size; have sT2 := gT.size; try (have qT0 : wA.heap.size < wT.heap.size := (by have hh := hbT.size; simp at hh; omega)); try (have qT1 : wT.cell? ⟨wA.heap.size, 0, none⟩ = some (.slice none 0 0) := (hbT.cell (p := ⟨wA.heap.size, 0, none⟩) (by first | assumption | (simp; done) | (simp; omega))).trans (by first | assumption | (simp [go_sem]; done))); try (have qT2 : wT.frozen? ⟨wA.heap.size, 0, none⟩ = false := (hbT.frozen (p := ⟨wA.heap.size, 0, none⟩) (by first | assumption | (simp; done) | (simp; omega))).trans (by first | assumption | (simp [go_sem]; done)))) | (go_at_call 75; refine (choose_c N s l _ f k w.heap.size _ need _ HGT.out HGF.out HND.out hlt HNE.out ((Below.cell (And.right ‹_›) (p := ⟨w.heap.size, 0, none⟩) hz0A).trans T0.out) ((Below.cell (And.right ‹_›) (p := ⟨w.heap.size, 1, none⟩) hz0A).trans T1.out) (rd_below HR.out (bel_then HBA.out (And.right ‹_›))) (rd_below HF.out (bel_then HBA.out (And.right ‹_›))) (rd_below HN.out (bel_then HBA.out (And.right ‹_›)))).mono ?_; rintro e wC ⟨vC, rfl, hoC, hbC⟩; rw [HMM.out] at hoC; obtain ⟨AM, cM, rfl, hcM, hmM, hcellM⟩ := rdi_own hoC; have gC : Below wA.heap.size wA wC := bel_then (And.right ‹_›) hbC; have fC := bel_facts hbC; obtain ⟨fC1, fC2⟩ := fC; have sC := hbC.size; have sC2 := gC.size; try (have qC0 : wA.heap.size < wC.heap.size := (by have hh := hbC.size; simp at hh; omega)); try (have qC1 : wC.cell? ⟨wA.heap.size, 0, none⟩ = some (.slice none 0 0) := (hbC.cell (p := ⟨wA.heap.size, 0, none⟩) (by first | assumption | (simp; done) | (simp; omega))).trans (by first | assumption | (simp [go_sem]; done))); try (have qC2 : wC.frozen? ⟨wA.heap.size, 0, none⟩ = false := (hbC.frozen (p := ⟨wA.heap.size, 0, none⟩) (by first | assumption | (simp; done) | (simp; omega))).trans (by first | assumption | (simp [go_sem]; done)))) | fail)
            · have x12 : (wC.alloc (Obj.cells #[(.slice (some ⟨hT, 0, none⟩) N capT)] 56)).cell? ⟨wC.heap.size, 0, none⟩ = some (.slice (some ⟨hT, 0, none⟩) N capT) := by simp [go_sem]
              have hTF : (wC.alloc (Obj.cells #[(.slice (some ⟨hT, 0, none⟩) N capT)] 56)).ownsRow wA.heap.size 3 1 (.slice (some ⟨hT, 0, none⟩) N capT) N (ints ev) := ((own_below (own_base hoT (by simp)) hbC).alloc _)
              have hCF : (wC.alloc (Obj.cells #[(.slice (some ⟨hT, 0, none⟩) N capT)] 56)).ownsRow wA.heap.size 3 1 (.slice AM M.length cM) M.length (ints M) := ((own_base hoC (by have := gT.size; omega)).alloc _)
              have gF : Below wA.heap.size wA (wC.alloc (Obj.cells #[(.slice (some ⟨hT, 0, none⟩) N capT)] 56)) := bel_al gC _
              obtain ⟨wF, hwF⟩ : ∃ wF, (wC.alloc (Obj.cells #[(.slice (some ⟨hT, 0, none⟩) N capT)] 56)) = wF := ⟨_, rfl⟩
              obtain ⟨B, hB⟩ : ∃ B, wC.heap.size = B := ⟨_, rfl⟩
              rw [hwF] at x12 hTF hCF gF ⊢
              rw [hB] at x12 ⊢
              clear hwF hB hoT hoC gT gC hbT hbC fT1 fT2 fC1 fC2
              have HTF := Lib.hid hTF
              have HCF := Lib.hid hCF
              have hsF := gF.size
              have HBF := Lib.hid (bel_then HBL.out gF)
              have HGF2 := Lib.hid gF
              have HOWF := Lib.hid (own_below HOW.out gF)
              have y5 := (gF.cell (p := ⟨w.heap.size + 1, 0, none⟩) hz1A).trans t2
              have y7 := (gF.cell (p := ⟨w.heap.size + 1 + 1, 0, none⟩) hz2A).trans T3.out
              have hX12 : B < wF.heap.size := World.block_lt_of_cell? _ _ x12
              have hsay : SaysI 79 #[.pointer (some ⟨B, 0, none⟩), .pointer (some ⟨w.heap.size + 1, 0, none⟩), .pointer (some ⟨w.heap.size + 1 + 1, 0, none⟩)] (fun x => decide (limit < rdyKey ev f x)) M wF := fun x hx W hW => by
                obtain ⟨i, a, rfl, ha⟩ := HPM.out x hx
                have hif : i < f.length := (List.getElem?_eq_some_iff.1 ha).1
                obtain ⟨b, off, rfl, hbl, hcell⟩ := HCELL.out (by omega)
                exact late_c ev f B (w.heap.size + 1) (w.heap.size + 1 + 1) hT capT b off c N i limit W ((hW.cell (p := ⟨B, 0, none⟩) hX12).trans x12) ((hW.cell (p := ⟨w.heap.size + 1, 0, none⟩) (by show w.heap.size + 1 < _; omega)).trans y5) ((hW.cell (p := ⟨w.heap.size + 1 + 1, 0, none⟩) (by show w.heap.size + 1 + 1 < _; omega)).trans y7)
                  (fun j hj => (hW.cell (p := ⟨hT, j, none⟩) (HTF.out.lt hT rfl).2).trans (own_cell HTF.out hj)) (fun j u hu => ((bel_then (bel_then (bel_then HB1.out HBL.out) HGF2.out) hW).cell (p := ⟨b, off + j, none⟩) hbl).trans (hcell j u hu)) (Nat.lt_of_lt_of_le hbl (bel_then (bel_then (bel_then HB1.out HBL.out) HGF2.out) hW).size) HND.out ⟨i, a, rfl, ha⟩
              have HSAY := Lib.hid hsay
              have Y5 := Lib.hid y5
              clear hTF hCF gF y5 y7 x12 hsay t2
              go_wp2_with fail
              refine (containsI_c 79 _ EG.out (fun x => decide (limit < rdyKey ev f x)) _ M _ HSAY.out (rdi_own HCF.out)).mono ?_
              rintro e wG ⟨rfl, hbG⟩
              have HBG := Lib.hid (bel_then HBF.out hbG)
              have HOWG := Lib.hid (own_below HOWF.out hbG)
              have HCG := Lib.hid (own_below HCF.out hbG)
              have HAG := Lib.hid (bel_then (bel_then (bel_then HB1.out HBL.out) HGF2.out) hbG)
              have z5 := (hbG.cell (p := ⟨w.heap.size + 1, 0, none⟩) (by show w.heap.size + 1 < _; omega)).trans Y5.out
              clear hbG
              by_cases hlate : (M.any fun x => decide (limit < rdyKey ev f x)) = true
              · have HNO : Hid (selD (servP l f need limit N) (k + 1) = S) := Lib.hid (by rw [selD_no (by rw [HSERV.out, hlate]; rfl), HS.out])
                rw [hlate]
                go_wp2
                exact ⟨⟨k + 1, S, by omega, by omega, by go_num, HNO, HOWG, HBG⟩, by simp [intOf]; omega⟩
              · have hlate : (M.any fun x => decide (limit < rdyKey ev f x)) = false := by simpa using hlate
                have HSV2 : Hid (servP l f need limit N k = (maxL (missL f M need) == 0)) := Lib.hid (by rw [HSERV.out, hlate]; rfl)
                rw [hlate]
                clear hlate
                go_wp2_with fail
                refine (missing_c _ f _ M _ need _ HGF.out HNE.out HPM.out HM12.out (rd_below HF.out HAG.out) (rdi_own HCG.out) (rd_below HN.out HAG.out)).mono ?_
                rintro e wH ⟨v6, rfl, ho6, hbH⟩
                have hl6 : 0 < (missL f M need).length := by rw [missL_len2, (needB_true HNE.out).1]; omega
                have HO6 := Lib.hid ho6
                have HL6 := Lib.hid hl6
                have HBH := Lib.hid (bel_then HBG.out hbH)
                have HOWH := Lib.hid (own_below HOWG.out hbH)
                clear ho6 hbH z5 hl6
                go_wp2_with fail
                refine (max_c _ (missL f M need) _ (rdi_own HO6.out) HL6.out).mono ?_; rintro e wI ⟨rfl, rfl⟩
                obtain ⟨mx, hmx⟩ : ∃ mx, maxL (missL f M need) = mx := ⟨_, rfl⟩
                have hsv := HSV2.out
                rw [hmx] at hsv ⊢
                have HSV3 := Lib.hid hsv
                clear hsv hmx
                by_cases hm0 : (mx == 0) = true
                · have HYES : Hid (selD (servP l f need limit N) (k + 1) = S ++ [(k : Int)]) := Lib.hid (by rw [selD_yes (by rw [HSV3.out]; exact hm0), HS.out])
                  go_wp2_with (at_builtin; refine wpList_app_rd _ rfl _ _ 56 rfl w2.heap.size 3 i0' (.int .i64 0) 1 8 Try.underlying56 hi hz0 hz1 hz2 rfl (by decide) _ _ _ rfl (HOWH.out.alloc _) _ 1 [.int .i64 k] rfl (rd_new _ rfl (Nat.le_refl _) (by rw [maxLen_eq]; omega)) rfl (ints_one [(k : Int)]) (by rw [maxLen_eq]; omega) (by omega) (by have := HBH.out.size; simp; omega) ?_; intro v7 w7 hown7 hgrow7 _)
                  refine ⟨⟨k + 1, S ++ [(k : Int)], by omega, by simp; omega, by go_num, HYES, Lib.hid ?_, Lib.hid (bel_grown (bel_al HBH.out _) hgrow7 (fun q e => (HOW.out.lt q e).1))⟩, by simp [intOf]; omega⟩
                  rw [ints_append, List.length_append]; exact hown7
                · have hm0 : (mx == 0) = false := by simpa using hm0
                  have HNO : Hid (selD (servP l f need limit N) (k + 1) = S) := Lib.hid (by rw [selD_no (by rw [HSV3.out]; exact hm0), HS.out])
                  go_wp2
                  exact ⟨⟨k + 1, S, by omega, by omega, by go_num, HNO, HOWH, HBH⟩, by simp [intOf]; omega⟩
            · have x12 : (wC.setCell ⟨wT.heap.size, 0, none⟩ (.slice (some ⟨hT, 0, none⟩) N capT)).cell? ⟨wT.heap.size, 0, none⟩ = some (.slice (some ⟨hT, 0, none⟩) N capT) := by (have hh : wC.cell? ⟨wT.heap.size, 0, none⟩ = some (.slice none 0 0) := (fC1 _ 0 (by simp)).trans (by simp [go_sem])); (first | exact World.cell?_setCell_same _ _ _ hh | exact World.cell?_setCell_same hh | exact World.cell?_setCell_same _ hh | exact World.cell?_setCell_same _ _ hh)
              have hTF : (wC.setCell ⟨wT.heap.size, 0, none⟩ (.slice (some ⟨hT, 0, none⟩) N capT)).ownsRow wA.heap.size 3 1 (.slice (some ⟨hT, 0, none⟩) N capT) N (ints ev) := own_far (own_below ((own_base hoT (by simp)).alloc _) hbC) (fun q e => by have h9 : hT = q := Option.some.inj e; omega) _ _
              have hCF : (wC.setCell ⟨wT.heap.size, 0, none⟩ (.slice (some ⟨hT, 0, none⟩) N capT)).ownsRow wA.heap.size 3 1 (.slice AM M.length cM) M.length (ints M) := own_far (own_base hoC (by have := gT.size; simp; omega)) (fun q e => by have := (hoC.lt q e).1; simp at this; omega) _ _
              have gF : Below wA.heap.size wA (wC.setCell ⟨wT.heap.size, 0, none⟩ (.slice (some ⟨hT, 0, none⟩) N capT)) := Below.setCell gC (by have := gT.size; omega) _
              obtain ⟨wF, hwF⟩ : ∃ wF, (wC.setCell ⟨wT.heap.size, 0, none⟩ (.slice (some ⟨hT, 0, none⟩) N capT)) = wF := ⟨_, rfl⟩
              obtain ⟨B, hB⟩ : ∃ B, wT.heap.size = B := ⟨_, rfl⟩
              rw [hwF] at x12 hTF hCF gF ⊢
              rw [hB] at x12 ⊢
              clear hwF hB hoT hoC gT gC hbT hbC fT1 fT2 fC1 fC2
              have HTF := Lib.hid hTF
              have HCF := Lib.hid hCF
              have hsF := gF.size
              have HBF := Lib.hid (bel_then HBL.out gF)
              have HGF2 := Lib.hid gF
              have HOWF := Lib.hid (own_below HOW.out gF)
              have y5 := (gF.cell (p := ⟨w.heap.size + 1, 0, none⟩) hz1A).trans t2
              have y7 := (gF.cell (p := ⟨w.heap.size + 1 + 1, 0, none⟩) hz2A).trans T3.out
              have hX12 : B < wF.heap.size := World.block_lt_of_cell? _ _ x12
              have hsay : SaysI 79 #[.pointer (some ⟨B, 0, none⟩), .pointer (some ⟨w.heap.size + 1, 0, none⟩), .pointer (some ⟨w.heap.size + 1 + 1, 0, none⟩)] (fun x => decide (limit < rdyKey ev f x)) M wF := fun x hx W hW => by
                obtain ⟨i, a, rfl, ha⟩ := HPM.out x hx
                have hif : i < f.length := (List.getElem?_eq_some_iff.1 ha).1
                obtain ⟨b, off, rfl, hbl, hcell⟩ := HCELL.out (by omega)
                exact late_c ev f B (w.heap.size + 1) (w.heap.size + 1 + 1) hT capT b off c N i limit W ((hW.cell (p := ⟨B, 0, none⟩) hX12).trans x12) ((hW.cell (p := ⟨w.heap.size + 1, 0, none⟩) (by show w.heap.size + 1 < _; omega)).trans y5) ((hW.cell (p := ⟨w.heap.size + 1 + 1, 0, none⟩) (by show w.heap.size + 1 + 1 < _; omega)).trans y7)
                  (fun j hj => (hW.cell (p := ⟨hT, j, none⟩) (HTF.out.lt hT rfl).2).trans (own_cell HTF.out hj)) (fun j u hu => ((bel_then (bel_then (bel_then HB1.out HBL.out) HGF2.out) hW).cell (p := ⟨b, off + j, none⟩) hbl).trans (hcell j u hu)) (Nat.lt_of_lt_of_le hbl (bel_then (bel_then (bel_then HB1.out HBL.out) HGF2.out) hW).size) HND.out ⟨i, a, rfl, ha⟩
              have HSAY := Lib.hid hsay
              have Y5 := Lib.hid y5
              clear hTF hCF gF y5 y7 x12 hsay t2
              go_wp2_with fail
              refine (containsI_c 79 _ EG.out (fun x => decide (limit < rdyKey ev f x)) _ M _ HSAY.out (rdi_own HCF.out)).mono ?_
              rintro e wG ⟨rfl, hbG⟩
              have HBG := Lib.hid (bel_then HBF.out hbG)
              have HOWG := Lib.hid (own_below HOWF.out hbG)
              have HCG := Lib.hid (own_below HCF.out hbG)
              have HAG := Lib.hid (bel_then (bel_then (bel_then HB1.out HBL.out) HGF2.out) hbG)
              have z5 := (hbG.cell (p := ⟨w.heap.size + 1, 0, none⟩) (by show w.heap.size + 1 < _; omega)).trans Y5.out
              clear hbG
              by_cases hlate : (M.any fun x => decide (limit < rdyKey ev f x)) = true
              · have HNO : Hid (selD (servP l f need limit N) (k + 1) = S) := Lib.hid (by rw [selD_no (by rw [HSERV.out, hlate]; rfl), HS.out])
                rw [hlate]
                go_wp2
                exact ⟨⟨k + 1, S, by omega, by omega, by go_num, HNO, HOWG, HBG⟩, by simp [intOf]; omega⟩
              · have hlate : (M.any fun x => decide (limit < rdyKey ev f x)) = false := by simpa using hlate
                have HSV2 : Hid (servP l f need limit N k = (maxL (missL f M need) == 0)) := Lib.hid (by rw [HSERV.out, hlate]; rfl)
                rw [hlate]
                clear hlate
                go_wp2_with fail
                refine (missing_c _ f _ M _ need _ HGF.out HNE.out HPM.out HM12.out (rd_below HF.out HAG.out) (rdi_own HCG.out) (rd_below HN.out HAG.out)).mono ?_
                rintro e wH ⟨v6, rfl, ho6, hbH⟩
                have hl6 : 0 < (missL f M need).length := by rw [missL_len2, (needB_true HNE.out).1]; omega
                have HO6 := Lib.hid ho6
                have HL6 := Lib.hid hl6
                have HBH := Lib.hid (bel_then HBG.out hbH)
                have HOWH := Lib.hid (own_below HOWG.out hbH)
                clear ho6 hbH z5 hl6
                go_wp2_with fail
                refine (max_c _ (missL f M need) _ (rdi_own HO6.out) HL6.out).mono ?_; rintro e wI ⟨rfl, rfl⟩
                obtain ⟨mx, hmx⟩ : ∃ mx, maxL (missL f M need) = mx := ⟨_, rfl⟩
                have hsv := HSV2.out
                rw [hmx] at hsv ⊢
                have HSV3 := Lib.hid hsv
                clear hsv hmx
                by_cases hm0 : (mx == 0) = true
                · have HYES : Hid (selD (servP l f need limit N) (k + 1) = S ++ [(k : Int)]) := Lib.hid (by rw [selD_yes (by rw [HSV3.out]; exact hm0), HS.out])
                  go_wp2_with (at_builtin; refine wpList_app_rd _ rfl _ _ 56 rfl w2.heap.size 3 i0' (.int .i64 0) 1 8 Try.underlying56 hi hz0 hz1 hz2 rfl (by decide) _ _ _ rfl (HOWH.out.alloc _) _ 1 [.int .i64 k] rfl (rd_new _ rfl (Nat.le_refl _) (by rw [maxLen_eq]; omega)) rfl (ints_one [(k : Int)]) (by rw [maxLen_eq]; omega) (by omega) (by have := HBH.out.size; simp; omega) ?_; intro v7 w7 hown7 hgrow7 _)
                  refine ⟨⟨k + 1, S ++ [(k : Int)], by omega, by simp; omega, by go_num, HYES, Lib.hid ?_, Lib.hid (bel_grown (bel_al HBH.out _) hgrow7 (fun q e => (HOW.out.lt q e).1))⟩, by simp [intOf]; omega⟩
                  rw [ints_append, List.length_append]; exact hown7
                · have hm0 : (mx == 0) = false := by simpa using hm0
                  have HNO : Hid (selD (servP l f need limit N) (k + 1) = S) := Lib.hid (by rw [selD_no (by rw [HSV3.out]; exact hm0), HS.out])
                  go_wp2
                  exact ⟨⟨k + 1, S, by omega, by omega, by go_num, HNO, HOWH, HBH⟩, by simp [intOf]; omega⟩
            · have x12 : (wC.setCell ⟨wA.heap.size, 0, none⟩ (.slice (some ⟨hT, 0, none⟩) N capT)).cell? ⟨wA.heap.size, 0, none⟩ = some (.slice (some ⟨hT, 0, none⟩) N capT) := by (have hh : wC.cell? ⟨wA.heap.size, 0, none⟩ = some (.slice none 0 0) := ((hbC.cell (p := ⟨wA.heap.size, 0, none⟩) (by have h9 := hbT.size; simp at h9; show wA.heap.size < _; omega)).trans ((hbT.cell (p := ⟨wA.heap.size, 0, none⟩) (by simp)).trans (by simp [go_sem])))); (first | exact World.cell?_setCell_same _ _ _ hh | exact World.cell?_setCell_same hh | exact World.cell?_setCell_same _ hh | exact World.cell?_setCell_same _ _ hh)
              have hTF : (wC.setCell ⟨wA.heap.size, 0, none⟩ (.slice (some ⟨hT, 0, none⟩) N capT)).ownsRow wA.heap.size 3 1 (.slice (some ⟨hT, 0, none⟩) N capT) N (ints ev) := own_far (own_below (own_base hoT (by simp)) hbC) (fun q e => by have h9 : hT = q := Option.some.inj e; simp at hbhT; omega) _ _
              have hCF : (wC.setCell ⟨wA.heap.size, 0, none⟩ (.slice (some ⟨hT, 0, none⟩) N capT)).ownsRow wA.heap.size 3 1 (.slice AM M.length cM) M.length (ints M) := own_far (own_base hoC (by have := gT.size; omega)) (fun q e => by have := (hoC.lt q e).1; omega) _ _
              have gF : Below wA.heap.size wA (wC.setCell ⟨wA.heap.size, 0, none⟩ (.slice (some ⟨hT, 0, none⟩) N capT)) := Below.setCell gC (Nat.le_refl _) _
              obtain ⟨wF, hwF⟩ : ∃ wF, (wC.setCell ⟨wA.heap.size, 0, none⟩ (.slice (some ⟨hT, 0, none⟩) N capT)) = wF := ⟨_, rfl⟩
              obtain ⟨B, hB⟩ : ∃ B, wA.heap.size = B := ⟨_, rfl⟩
              rw [hwF] at x12 hTF hCF gF ⊢
              rw [hB] at x12 ⊢
              clear hwF hB hoT hoC gT gC hbT hbC fT1 fT2 fC1 fC2
              have HTF := Lib.hid hTF
              have HCF := Lib.hid hCF
              have hsF := gF.size
              have HBF := Lib.hid (bel_then HBL.out gF)
              have HGF2 := Lib.hid gF
              have HOWF := Lib.hid (own_below HOW.out gF)
              have y5 := (gF.cell (p := ⟨w.heap.size + 1, 0, none⟩) hz1A).trans t2
              have y7 := (gF.cell (p := ⟨w.heap.size + 1 + 1, 0, none⟩) hz2A).trans T3.out
              have hX12 : B < wF.heap.size := World.block_lt_of_cell? _ _ x12
              have hsay : SaysI 79 #[.pointer (some ⟨B, 0, none⟩), .pointer (some ⟨w.heap.size + 1, 0, none⟩), .pointer (some ⟨w.heap.size + 1 + 1, 0, none⟩)] (fun x => decide (limit < rdyKey ev f x)) M wF := fun x hx W hW => by
                obtain ⟨i, a, rfl, ha⟩ := HPM.out x hx
                have hif : i < f.length := (List.getElem?_eq_some_iff.1 ha).1
                obtain ⟨b, off, rfl, hbl, hcell⟩ := HCELL.out (by omega)
                exact late_c ev f B (w.heap.size + 1) (w.heap.size + 1 + 1) hT capT b off c N i limit W ((hW.cell (p := ⟨B, 0, none⟩) hX12).trans x12) ((hW.cell (p := ⟨w.heap.size + 1, 0, none⟩) (by show w.heap.size + 1 < _; omega)).trans y5) ((hW.cell (p := ⟨w.heap.size + 1 + 1, 0, none⟩) (by show w.heap.size + 1 + 1 < _; omega)).trans y7)
                  (fun j hj => (hW.cell (p := ⟨hT, j, none⟩) (HTF.out.lt hT rfl).2).trans (own_cell HTF.out hj)) (fun j u hu => ((bel_then (bel_then (bel_then HB1.out HBL.out) HGF2.out) hW).cell (p := ⟨b, off + j, none⟩) hbl).trans (hcell j u hu)) (Nat.lt_of_lt_of_le hbl (bel_then (bel_then (bel_then HB1.out HBL.out) HGF2.out) hW).size) HND.out ⟨i, a, rfl, ha⟩
              have HSAY := Lib.hid hsay
              have Y5 := Lib.hid y5
              clear hTF hCF gF y5 y7 x12 hsay t2
              go_wp2_with fail
              refine (containsI_c 79 _ EG.out (fun x => decide (limit < rdyKey ev f x)) _ M _ HSAY.out (rdi_own HCF.out)).mono ?_
              rintro e wG ⟨rfl, hbG⟩
              have HBG := Lib.hid (bel_then HBF.out hbG)
              have HOWG := Lib.hid (own_below HOWF.out hbG)
              have HCG := Lib.hid (own_below HCF.out hbG)
              have HAG := Lib.hid (bel_then (bel_then (bel_then HB1.out HBL.out) HGF2.out) hbG)
              have z5 := (hbG.cell (p := ⟨w.heap.size + 1, 0, none⟩) (by show w.heap.size + 1 < _; omega)).trans Y5.out
              clear hbG
              by_cases hlate : (M.any fun x => decide (limit < rdyKey ev f x)) = true
              · have HNO : Hid (selD (servP l f need limit N) (k + 1) = S) := Lib.hid (by rw [selD_no (by rw [HSERV.out, hlate]; rfl), HS.out])
                rw [hlate]
                go_wp2
                exact ⟨⟨k + 1, S, by omega, by omega, by go_num, HNO, HOWG, HBG⟩, by simp [intOf]; omega⟩
              · have hlate : (M.any fun x => decide (limit < rdyKey ev f x)) = false := by simpa using hlate
                have HSV2 : Hid (servP l f need limit N k = (maxL (missL f M need) == 0)) := Lib.hid (by rw [HSERV.out, hlate]; rfl)
                rw [hlate]
                clear hlate
                go_wp2_with fail
                refine (missing_c _ f _ M _ need _ HGF.out HNE.out HPM.out HM12.out (rd_below HF.out HAG.out) (rdi_own HCG.out) (rd_below HN.out HAG.out)).mono ?_
                rintro e wH ⟨v6, rfl, ho6, hbH⟩
                have hl6 : 0 < (missL f M need).length := by rw [missL_len2, (needB_true HNE.out).1]; omega
                have HO6 := Lib.hid ho6
                have HL6 := Lib.hid hl6
                have HBH := Lib.hid (bel_then HBG.out hbH)
                have HOWH := Lib.hid (own_below HOWG.out hbH)
                clear ho6 hbH z5 hl6
                go_wp2_with fail
                refine (max_c _ (missL f M need) _ (rdi_own HO6.out) HL6.out).mono ?_; rintro e wI ⟨rfl, rfl⟩
                obtain ⟨mx, hmx⟩ : ∃ mx, maxL (missL f M need) = mx := ⟨_, rfl⟩
                have hsv := HSV2.out
                rw [hmx] at hsv ⊢
                have HSV3 := Lib.hid hsv
                clear hsv hmx
                by_cases hm0 : (mx == 0) = true
                · have HYES : Hid (selD (servP l f need limit N) (k + 1) = S ++ [(k : Int)]) := Lib.hid (by rw [selD_yes (by rw [HSV3.out]; exact hm0), HS.out])
                  go_wp2_with (at_builtin; refine wpList_app_rd _ rfl _ _ 56 rfl w2.heap.size 3 i0' (.int .i64 0) 1 8 Try.underlying56 hi hz0 hz1 hz2 rfl (by decide) _ _ _ rfl (HOWH.out.alloc _) _ 1 [.int .i64 k] rfl (rd_new _ rfl (Nat.le_refl _) (by rw [maxLen_eq]; omega)) rfl (ints_one [(k : Int)]) (by rw [maxLen_eq]; omega) (by omega) (by have := HBH.out.size; simp; omega) ?_; intro v7 w7 hown7 hgrow7 _)
                  refine ⟨⟨k + 1, S ++ [(k : Int)], by omega, by simp; omega, by go_num, HYES, Lib.hid ?_, Lib.hid (bel_grown (bel_al HBH.out _) hgrow7 (fun q e => (HOW.out.lt q e).1))⟩, by simp [intOf]; omega⟩
                  rw [ints_append, List.length_append]; exact hown7
                · have hm0 : (mx == 0) = false := by simpa using hm0
                  have HNO : Hid (selD (servP l f need limit N) (k + 1) = S) := Lib.hid (by rw [selD_no (by rw [HSV3.out]; exact hm0), HS.out])
                  go_wp2
                  exact ⟨⟨k + 1, S, by omega, by omega, by go_num, HNO, HOWH, HBH⟩, by simp [intOf]; omega⟩
          · obtain rfl : k = N := by omega
            go_wp2
            go_ret2
            rw [HV.out, HS.out]
            exact ⟨_, rfl, own_base HOW.out HB1.out.size, bel_then HB1.out HBL.out⟩
      · have hli : inB limit 0 36000 = false := by simpa using hli
        have HV := Lib.hid (serv_no3 (n := N) (l := l) (f := f) (need := need) hli)
        rw [hli]
        go_wp2
        go_ret2
        rw [HV.out]
        exact ⟨_, rfl, World.ownsRow_nil _ _ _ _, HB1.out⟩
    · have hne : needB need = false := by simpa using hne
      have HV := Lib.hid (serv_no2 (n := N) (l := l) (f := f) (limit := limit) hne)
      rw [hne]
      go_wp2
      go_ret2
      rw [HV.out]
      exact ⟨_, rfl, World.ownsRow_nil _ _ _ _, HB1.out⟩
  · have hg : goodDs n l f = false := by simpa using hg
    have HV := Lib.hid (serv_no1 (need := need) (limit := limit) hg)
    rw [hg]
    go_wp2
    go_ret2
    rw [HV.out]
    exact ⟨_, rfl, World.ownsRow_nil _ _ _ _, HB1.out⟩
end Go.Proofs.Ytcpchdbhpcebeaa
