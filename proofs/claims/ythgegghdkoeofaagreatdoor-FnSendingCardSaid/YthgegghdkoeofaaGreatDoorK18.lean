/-
  spec.dsReady (printed by gen_dsr.py). FirstAttendance: both sides. AttendanceTime: the plain law and the reference's side. AttendanceTime: the program's side (NOT BUILT YET: the order of the names, tested inside the loop, is still to be parted there). (joined by pack.py: Dsr First Att AttI)
-/
import Derived.Test.YthgegghdkoeofaaGreatDoorK17
import Derived.Test.YthgegghdkoeofaaGreatDoorK16
import Derived.Deep.RegionLaw
import Derived.Deep.DeepCutAuto
import Derived.Deep.CutBlock
import Derived.Test.YthgegghdkoeofaaGreatDoorK9
import Derived.Test.YthgegghdkoeofaaGreatDoorK12
import Derived.Test.YthgegghdkoeofaaGreatDoorK10
namespace Go.Proofs.YthgegghdkoeofaaGreatDoor
set_option linter.unusedVariables false
set_option linter.unusedSimpArgs false
open Go.RowKit

def Sep (u v : Value) : Prop := ∀ q q', u.ownBlock = some q → v.ownBlock = some q' → q ≠ q'
theorem Sep.symm {u v : Value} (h : Sep u v) : Sep v u := fun q q' h1 h2 e => h q' q h2 h1 e.symm
theorem kept3 {a b : World} {base : Nat} {e : TypeId} {sz : Nat} {v v' : Value} {n : Nat} {xs : List Value} (h : a.ownsRow base e sz v n xs) (g : a.grownBy b v'.ownBlock) (sep : Sep v v') : b.ownsRow base e sz v n xs :=
  h.kept g (by
    cases hv : v.ownBlock with
    | none => exact .inl rfl
    | some q => exact .inr (fun hq => sep q q hv hq.symm rfl))
theorem sep_grow {a : World} {v v' x : Value} (e : v'.ownBlock = v.ownBlock ∨ v'.ownBlock = some a.heap.size) (hx : Sep v x) (hlt : ∀ q, x.ownBlock = some q → q < a.heap.size) : Sep v' x := fun q q' e1 e2 => by
  rcases e with e | e
  · exact hx q q' (by rw [← e]; exact e1) e2
  · rw [e] at e1
    have h1 := Option.some.inj e1
    have h2 := hlt q' e2
    omega
theorem cell_keep {b c : World} {x o : Nat} (h : c.heap[x]? = b.heap[x]?) : c.cell? ⟨x, o, none⟩ = b.cell? ⟨x, o, none⟩ := World.cell?_of_block h
theorem rd_cell_at {w : World} {base : Nat} {e : TypeId} {sz : Nat} {g o n cap m : Nat} {xs : List Value} (h : w.ownsRow base e sz (.slice (some ⟨g, o, none⟩) n cap) m xs) {j : Nat} {u : Value} (hj : xs[j]? = some u) (hm : 0 < m) : w.cell? ⟨g, o + j, none⟩ = some u := by
  obtain ⟨A, c, he, _, _, hr⟩ := own_rd h
  obtain ⟨b, off, rfl, _, hc⟩ := hr hm
  cases he
  exact hc j u hj
theorem cmpI_lt (a b : Int) : decide (cmpI a b < 0) = decide (a < b) := by
  unfold cmpI
  split
  · simp [*]
  · split <;> simp [*]
/-- The times of all appliances. -/
def allT (ev : List Int) (f : List Ap) : List Int := f.map fun a => ev.getD a.nd.toNat 0
theorem allT_snoc {ev : List Int} {f : List Ap} {k : Nat} {a : Ap} (h : f[k]? = some a) : allT ev (f.take (k + 1)) = allT ev (f.take k) ++ [ev.getD a.nd.toNat 0] := by unfold allT; rw [take_succ_of h, List.map_append]; rfl
/-- Two lists that can be read. -/
def Rd2 (a b : List Int) (w : World) (e : Ending) (w' : World) : Prop := ∃ v u, e = .returned (.tuple #[v, u]) ∧ RdI w' v a ∧ RdI w' u b ∧ Below w.heap.size w w'

set_option maxRecDepth 100000 in
set_option maxHeartbeats 4000000 in
theorem dsReady_c (n : Nat) (s : Value) (l : List St) (v : Value) (f : List Ap) (src : Nat) (w : World) (hg : goodTown n l = true) (hfl : goodFl f = true) (hnd : ∀ a ∈ f, 0 ≤ a.nd ∧ a.nd ≤ (n : Int) - 1) (hs : src < n)
    (hr : Rd w s l.length (l.flatMap St.cells)) (hf : Rd w v f.length (f.flatMap Ap.cells)) :
    Calls Tryz.prog 107 #[.agg #[.int .i64 n, s], v, .int .i64 src] w (Rd2 (readyL (distT n (arcs l) src) f) (allT (distT n (arcs l) src) f) w) := by
  obtain ⟨hf12, hfg⟩ := goodFl_true hfl
  have hn1 := (goodTown_true hg).1
  have HR := Lib.hid hr
  have HF := Lib.hid hf
  have HG := Lib.hid hg
  have HND := Lib.hid hnd
  have HFG := Lib.hid hfg
  obtain ⟨A, c, rfl, hc, hm, hcell0⟩ := hf
  rw [maxLen_eq] at hm
  have HCELL := Lib.hid hcell0
  obtain ⟨i0, hi, hz0, hz1, hz2⟩ := info_parts Tryz.infoInt
  clear hr hcell0 hfl hfg hg hnd
  go_enter Tryz.func107, Tryz.ntmps107
  go_wp2_with fail
  generalize hW : World.alloc w _ = w0
  have hb0 : Below w.heap.size w w0 := by subst hW; exact bel_al (Below.refl _ _) _
  have HB := Lib.hid hb0
  clear hW hb0
  refine (toTimes_c n s l src _ HG.out hs (rd_below HR.out HB.out)).mono ?_
  rintro e uA ⟨v5, rfl, ho5, hb1⟩
  rw [show (distT n (arcs l) src).length = n by unfold distT; rw [iterT_len, startT_len]] at ho5
  obtain ⟨h, cap5, rfl, hbh, hhl, hcap5, hcm5⟩ := own_shape ho5 (by omega)
  obtain ⟨ev, hev⟩ : ∃ ev, distT n (arcs l) src = ev := ⟨_, rfl⟩
  rw [hev] at ho5
  have HEV := Lib.hid hev
  have HB1 := Lib.hid (bel_then HB.out hb1)
  have HO5 := Lib.hid ho5
  clear ho5 hb1 hev
  go_wp2_with fail
  go_loopw [9, 10, 19] (fun v9 v10 v19 wr => ∃ (k : Nat) (pp T : List Int), k ≤ f.length ∧ pp.length ≤ k ∧ T.length ≤ k ∧ v19 = .int .i64 k ∧ Hid (allT ev (f.take k) = T) ∧ Hid (isort (gtOf (rdyCf ev f)) (selD (rdyP ev f) k) = pp) ∧ Hid (wr.ownsRow uA.heap.size 3 1 v9 pp.length (ints pp)) ∧ Hid (wr.ownsRow uA.heap.size 3 1 v10 T.length (ints T)) ∧ Hid (Sep v9 v10) ∧ Hid (Below uA.heap.size uA wr)) (fun _ _ v19 _ => f.length - (intOf v19).toNat)
  case atStart => exact ⟨0, [], [], Nat.zero_le _, Nat.le_refl _, Nat.le_refl _, rfl, Lib.hid rfl, Lib.hid rfl, Lib.hid (show uA.ownsRow uA.heap.size 3 1 (.slice none 0 0) 0 [] from World.ownsRow_nil _ _ _ _), Lib.hid (show uA.ownsRow uA.heap.size 3 1 (.slice none 0 0) 0 [] from World.ownsRow_nil _ _ _ _), Lib.hid (fun q q' h => by cases h), Lib.hid (Below.refl _ _)⟩
  case round =>
    obtain ⟨k, pp, T, hk, hpk, hTk, rfl, HALL, HPP, HOW, HOA, HSP, HBL⟩ := hrel
    obtain ⟨wA, rfl⟩ : ∃ wA : World, wA = wr := ⟨_, rfl⟩
    have hsA := HBL.out.size
    by_cases hlt : k < f.length
    · obtain ⟨b, off, rfl, hbl, hcell⟩ := HCELL.out (by omega)
      obtain ⟨nm, kd, nd, cr, sv, hx, c0, c1, c2, c3, c4⟩ := ap_at' hcell (bel_then HB1.out HBL.out) hbl hlt
      have hgood := goodAp_true (HFG.out _ (List.mem_of_getElem? hx))
      have hnn := HND.out _ (List.mem_of_getElem? hx)
      dsimp only at hgood hnn
      obtain ⟨_, hk0, hk3, _, _, _⟩ := hgood
      obtain ⟨nd0, nd1⟩ := hnn
      obtain ⟨p, rfl⟩ := Int.eq_ofNat_of_zero_le nd0
      have hP := rdyP_at (ev := ev) hx
      have hAll := allT_snoc (ev := ev) hx
      have hKey := rdyKey_at (ev := ev) hx
      dsimp only at hP hAll hKey
      rw [Int.toNat_natCast] at hP hAll hKey
      have hpn : p < n := by omega
      have p0 : (0 : Int) ≤ (p : Int) := by omega
      have p1 : (p : Int) < (n : Int) := by omega
      have xu0 := own_cell HO5.out hpn
      have xe0 := (HBL.out.cell (p := ⟨h, p, none⟩) hhl).trans xu0
      obtain ⟨t, ht⟩ : ∃ t, ev.getD p 0 = t := ⟨_, rfl⟩
      rw [ht] at xe0 xu0 hP hAll hKey
      rw [HALL.out] at hAll
      have HPP2 := Lib.hid hP
      have HKEY := Lib.hid hKey
      have HALL3 := Lib.hid hAll
      have HCE := Lib.hid hcell
      have XE := Lib.hid xe0
      have XU := Lib.hid xu0
      obtain ⟨A2, cap2, hx2, hc2, hm2, hr2⟩ := own_rd HOW.out
      subst hx2
      rw [maxLen_eq] at hm2
      have HR2 := Lib.hid hr2
      clear hr2 xu0
      clear hcell hx hP nd1 hAll hKey ht xe0
      go_upto_region 6 with fail
      (generalize hw1 : World.alloc wA _ = w1; have k0 : w1.cell? ⟨wA.heap.size, 0, none⟩ = some (.string nm) := (by subst hw1; simp [go_sem]); have k1 : w1.cell? ⟨wA.heap.size, 1, none⟩ = some (.int .i64 kd) := (by subst hw1; simp [go_sem]); have k2 : w1.cell? ⟨wA.heap.size, 2, none⟩ = some (.int .i64 p) := (by subst hw1; simp [go_sem]); have k3 : w1.cell? ⟨wA.heap.size, 3, none⟩ = some (.int .i64 cr) := (by subst hw1; simp [go_sem]); have k4 : w1.cell? ⟨wA.heap.size, 4, none⟩ = some (.int .i64 sv) := (by subst hw1; simp [go_sem]); have hb0 : Below wA.heap.size wA w1 := (by subst hw1; exact bel_al (Below.refl _ _) _); have hsz1 : wA.heap.size < w1.heap.size := (by subst hw1; simp); clear hw1)
      have HBX := Lib.hid (bel_then HBL.out hb0)
      have HB0 := Lib.hid hb0
      have xe := (hb0.cell (p := ⟨h, p, none⟩) (by show h < _; omega)).trans XE.out
      have HOA1 := Lib.hid (own_below HOA.out hb0)
      have HOW1 := Lib.hid (own_below HOW.out hb0)
      have hloA := HOA.out.lt
      have HLOA := Lib.hid hloA
      clear hloA
      by_cases hav : avB ⟨nm, kd, p, cr, sv⟩ = true
      · by_cases ht0 : 0 ≤ t
        · have HYES : Hid (selD (rdyP ev f) (k + 1) = selD (rdyP ev f) k ++ [(k : Int)]) := Lib.hid (selD_yes (by rw [HPP2.out, hav, decide_eq_true ht0]; rfl))
          go_upto_block 2 with (first | (at_builtin; refine wpList_app_rd _ rfl _ _ 48 rfl uA.heap.size 3 i0 (.int .i64 0) 1 8 Tryz.underlying48 hi hz0 hz1 hz2 rfl (by decide) _ _ _ rfl (HOA1.out.alloc _) _ 1 [.int .i64 t] rfl (rd_new _ rfl (Nat.le_refl _) (by rw [maxLen_eq]; omega)) rfl (ints_one [t]) (by rw [maxLen_eq]; omega) (by omega) (by have := HBX.out.size; simp; omega) ?_; intro u10 w7 hown7 hgrow7 he7; have HOA2 : Hid (w7.ownsRow uA.heap.size 3 1 u10 (T ++ [t]).length (ints (T ++ [t]))) := Lib.hid (by rw [ints_append, List.length_append]; exact hown7); have HOW2 := Lib.hid (kept3 (HOW1.out.alloc _) hgrow7 HSP.out); have HSP2 := Lib.hid (sep_grow he7 HSP.out.symm (fun q e => by have := (HOW1.out.lt q e).2; simp; omega)); have HB7 : Hid (Below uA.heap.size uA w7) := Lib.hid (bel_grown (bel_al HBX.out _) hgrow7 (fun q e => (HOA.out.lt q e).1)); have hs7 := hgrow7.size; have hblk := hgrow7.block wA.heap.size (by simp; omega) (fun e => by have := (HLOA.out _ e.symm).2; omega); have m0 := (cell_keep (o := 0) hblk).trans ((World.cell?_alloc_lt _ _ _ hsz1).trans k0); have m1 := (cell_keep (o := 1) hblk).trans ((World.cell?_alloc_lt _ _ _ hsz1).trans k1); have m2 := (cell_keep (o := 2) hblk).trans ((World.cell?_alloc_lt _ _ _ hsz1).trans k2); have m3 := (cell_keep (o := 3) hblk).trans ((World.cell?_alloc_lt _ _ _ hsz1).trans k3); have m4 := (cell_keep (o := 4) hblk).trans ((World.cell?_alloc_lt _ _ _ hsz1).trans k4); clear hown7 hgrow7 he7 hblk k0 k1 k2 k3 k4) | (go_at_call 145; refine (apReady_c nm kd p cr sv _ hk0 hk3).mono ?_; rw [hav]; rintro e w3 ⟨rfl, hb3⟩; have HB3 := Lib.hid (bel_then HB7.out hb3); have HOA3 := Lib.hid (own_below HOA2.out hb3); have HOW3 := Lib.hid (own_below HOW2.out hb3); have HSP3 := Lib.hid HSP2.out.symm; have hbx : wA.heap.size < w7.heap.size := (by simp at hs7; omega); have x2 := (hb3.cell (p := ⟨wA.heap.size, 2, none⟩) hbx).trans m2; have ye := (HB3.out.cell (p := ⟨h, p, none⟩) hhl).trans XU.out; clear hb3 m0 m1 m2 m3 m4 xe))
          have HPM : Hid (∀ y ∈ pp, ∃ (i : Nat) (a : Ap), y = (i : Int) ∧ f[i]? = some a) := Lib.hid (fun y hy => by
            have h1 := (isort_perm (gtOf (rdyCf ev f)) (selD (rdyP ev f) k)).mem_iff.1 (by rw [HPP.out]; exact hy)
            obtain ⟨i, rfl, hik, _⟩ := selD_mem h1
            exact ⟨i, _, rfl, List.getElem?_eq_getElem (by omega)⟩)
          have HI0 : Hid (isort (gtOf (rdyCf ev f)) (selD (rdyP ev f) (k + 1)) = insR (gtOf (rdyCf ev f)) pp k) := Lib.hid (by rw [HYES.out, isort_snoc, HPP.out])
          go_cut [13] (fun v13 wx => ∃ j q : Nat, v13 = .int .i64 j ∧ j ≤ pp.length ∧ Hid (isort (gtOf (rdyCf ev f)) (selD (rdyP ev f) (k + 1)) = insAt (k : Nat) pp j) ∧ wx = w3.drewN q)
          case first =>
            go_wp2_with fail
            go_loopw [13] (fun vj wr2 => ∃ j q : Nat, vj = .int .i64 j ∧ j ≤ pp.length ∧ Hid (insR (gtOf (rdyCf ev f)) pp k = insFrom (gtOf (rdyCf ev f)) k pp j) ∧ wr2 = w3.drewN q) (fun vj _ => (intOf vj).toNat)
            case atStart => exact ⟨pp.length, 0, rfl, Nat.le_refl _, Lib.hid (by unfold insR; rfl), rfl⟩
            case round =>
              obtain ⟨j, q, rfl, hjk, HI, rfl⟩ := hrel
              have OUT : Aside ((j = 0 ∨ gtOf (rdyCf ev f) (pp.getD (j - 1) 0) k = false) → isort (gtOf (rdyCf ev f)) (selD (rdyP ev f) (k + 1)) = insAt k pp j) := fun hs => by
                rw [HI0.out, HI.out, insFrom_stop hs]
              by_cases hj : 0 < j
              · obtain ⟨jp, rfl⟩ : ∃ jp, j = jp + 1 := ⟨j - 1, by omega⟩
                have hjz : (0 : Int) < (jp : Int) + 1 := by omega
                obtain ⟨b2, off2, rfl, hb2, _⟩ := HR2.out (by omega)
                obtain ⟨y, hy⟩ : ∃ y, pp[jp]? = some y := ⟨_, List.getElem?_eq_getElem (by omega)⟩
                obtain ⟨yn, ⟨ynm, ykd, ynd, ycr, ysv⟩, rfl, hyx⟩ := HPM.out y (List.mem_of_getElem? hy)
                have hyn : yn < f.length := (List.getElem?_eq_some_iff.1 hyx).1
                obtain ⟨d0, d1, d2, d3, d4⟩ := ap_at HCE.out (bel_then HB1.out HB3.out) hbl hyx
                have hyb := HND.out _ (List.mem_of_getElem? hyx)
                have hyk := rdyKey_at (ev := ev) hyx
                dsimp only at hyb hyk d0 d1 d2 d3 d4
                obtain ⟨yb0, yb1⟩ := hyb
                obtain ⟨yp, rfl⟩ := Int.eq_ofNat_of_zero_le yb0
                rw [Int.toNat_natCast] at hyk
                have yp1 : (yp : Int) < (n : Int) := by omega
                have yp0 : (0 : Int) ≤ (yp : Int) := Int.natCast_nonneg _
                have ys := (HB3.out.cell (p := ⟨h, yp, none⟩) hhl).trans (own_cell HO5.out (show yp < n by omega))
                obtain ⟨s, hs⟩ : ∃ s, ev.getD yp 0 = s := ⟨_, rfl⟩
                rw [hs] at ys hyk
                have co := rd_cell_at HOW3.out (ints_get hy) (by omega)
                have HGT : Hid (gtOf (rdyCf ev f) (pp.getD jp 0) k = decide (t < s)) := Lib.hid (by
                  have h1 : pp.getD jp 0 = (yn : Int) := by simp [List.getD, hy]
                  rw [h1]
                  unfold gtOf rdyCf
                  rw [cmpI_lt, HKEY.out, hyk])
                clear hy hyx hyk hs yb1 d0 d1 d3 d4
                have y0 : (0 : Int) ≤ (yn : Int) := Int.natCast_nonneg _
                have y1 : (yn : Int) < (f.length : Int) := by omega
                have j0 : (0 : Int) ≤ (jp : Int) := Int.natCast_nonneg _
                have j1 : (jp : Int) < (pp.length : Int) := by omega
                have s3 : IntKind.i64.wrap (jp : Int) = (jp : Int) := by rw [IntKind.wrap_i64]; omega
                by_cases hlv : t < s
                · go_wp2_with fail
                  go_quiet (fail)
                  clear s3
                  go_wp2
                  refine ⟨⟨jp, q + nq, by go_num, by omega, ?_, rfl⟩, by simp [intOf] <;> omega⟩
                  refine Lib.hid ?_
                  rw [HI.out]
                  exact insFrom_go (by rw [HGT.out]; exact decide_eq_true hlv)
                · go_wp2_with fail
                  go_quiet (fail)
                  clear s3
                  go_wp2_with fail
                  go_meet
                  exact ⟨jp + 1, q + nq, by go_num, by omega, Lib.hid (OUT (Or.inr (by simp only [Nat.add_sub_cancel]; rw [HGT.out]; exact decide_eq_false (by omega)))), by rw [World.drewN_drewN]⟩
              · obtain rfl : j = 0 := by omega
                have hd0 : decide ((0 : Int) < 0) = false := by decide
                go_wp2_with fail
                go_quiet (fail)
                go_wp2_with fail
                go_meet
                exact ⟨0, q + nq, by go_num, by omega, Lib.hid (OUT (by simp)), by rw [World.drewN_drewN]⟩
          case rest =>
            obtain ⟨j, q, rfl, hjk, HI, rfl⟩ := hcut
            have ho1 := own_drewN HOW3.out q
            have hoa := own_drewN HOA3.out q
            have hbq : Below uA.heap.size uA (w3.drewN q) := below_drewN HB3.out q
            have HSP := Lib.hid HSP3.out.symm
            generalize w3.drewN q = W at ho1 hoa hbq ⊢
            have HO1 := Lib.hid ho1
            have HOA3 := Lib.hid hoa
            have HBQ := Lib.hid hbq
            have HPL : Hid (pp.length = pp.length) := Lib.hid rfl
            obtain ⟨L, hL⟩ : ∃ L, pp.length = L := ⟨_, rfl⟩
            have HPLN := Lib.hid hL
            rw [hL] at ho1 hjk hc2
            have HO1 := Lib.hid ho1
            clear ho1 hoa hbq x2 ye HR2 XE XU HPL
            have q1 : (j : Int) ≤ (cap2 : Int) := by omega
            have q2 : (j : Int) ≤ (L : Int) := by omega
            have hLk : L ≤ k := by omega
            simp only [hL]
            clear hL
            rcases A2 with _ | ad
            · have hn0 : L = 0 ∧ cap2 = 0 := by
                rcases HO1.out.2 with ⟨h, h'⟩ | ⟨g', c', cur', h, _⟩
                · simp at h; exact ⟨h.1, h.2⟩
                · simp at h
              obtain ⟨rfl, rfl⟩ := hn0
              obtain rfl : j = 0 := by omega
              have hp0 : pp = [] := List.eq_nil_of_length_eq_zero HPLN.out
              subst hp0
              have HLJ : Hid ((([] : List Int).take 0).length = 0) := Lib.hid rfl
              have HT : Hid (RdI W (.slice none 0 0) (([] : List Int).take 0)) := Lib.hid ⟨none, 0, rfl, Nat.le_refl _, Nat.zero_le _, fun h => absurd h (by simp)⟩
              have HD : Hid (Rd W (.slice none 0 0) 0 (ints (([] : List Int).drop 0))) := Lib.hid ⟨none, 0, rfl, Nat.le_refl _, Nat.zero_le _, fun h => absurd h (by simp)⟩
              have HDL : Hid ((ints (([] : List Int).drop 0)).length = 0 * 1) := Lib.hid rfl
              go_wp2_with fail
              go_region_held3 (fun W' => Below W.heap.size W W') (first | exact bel_grown ‹_› hgrowB (fun q e => (hownA.lt q e).1) | exact bel_grown ‹_› hgrowA (fun q e => (ho2.lt q e).1) | exact bel_then ‹_› hb1 | exact bel_al ‹_› _ | exact bel_dr (Below.refl _ _)) (first | (go_at_call 132; refine (l1Own_c _ (([] : List Int).take 0) _ (rd_below HT.out ‹_›) (by rw [HLJ.out]; omega)).mono ?_; rintro e w' ⟨vo, rfl, hoo, hb1⟩; have ho2 : w'.ownsRow W.heap.size 3 1 vo 0 (ints (([] : List Int).take 0)) := (by have h := own_base (base' := W.heap.size) hoo (by first | exact Nat.le_refl _ | (simp; done)); rwa [HLJ.out] at h)) | (refine step_app_rd _ rfl (.tmp 72) (.tmp 74) 48 rfl W.heap.size 3 i0 (.int .i64 0) 1 8 Tryz.underlying48 hi hz0 hz1 hz2 rfl (by decide) _ 0 (ints (([] : List Int).take 0)) rfl (ho2.alloc _) _ 1 [.int .i64 k] rfl (rd_new _ rfl (Nat.le_refl _) (by rw [maxLen_eq]; omega)) rfl (by intro u hu; simp at hu; subst hu; rfl) (by rw [maxLen_eq]; omega) (by omega) (Below.size ‹Below W.heap.size W _›) ?_; intro vA wA2 hownA hgrowA _) | (refine step_app_rd _ rfl (.tmp 72) (.tmp 74) 48 rfl W.heap.size 3 i0 (.int .i64 0) 1 8 Tryz.underlying48 hi hz0 hz1 hz2 rfl (by decide) _ 0 (ints (([] : List Int).take 0)) rfl ho2 _ 1 [.int .i64 k] rfl (rd_below (rd_new W.drew rfl (Nat.le_refl _) (by rw [maxLen_eq]; omega)) hb1) rfl (by intro u hu; simp at hu; subst hu; rfl) (by rw [maxLen_eq]; omega) (by omega) (Below.size ‹Below W.heap.size W _›) ?_; intro vA wA2 hownA hgrowA _) | (refine step_app_rd _ rfl (.tmp 75) (.tmp 78) 48 rfl W.heap.size 3 i0 (.int .i64 0) 1 8 Tryz.underlying48 hi hz0 hz1 hz2 rfl (by decide) _ (0 + 1) _ rfl hownA _ 0 (ints (([] : List Int).drop 0)) rfl (rd_below HD.out ‹Below W.heap.size W _›) HDL.out (ints_one _) (by rw [maxLen_eq]; omega) (by omega) (Below.size ‹Below W.heap.size W _›) ?_; intro vB wB2 hownB hgrowB _))
              all_goals
                have HBB := Lib.hid ‹Below W.heap.size W _›
                have hsBB := HBB.out.size
                have hfin := own_base hownB HBQ.out.size
                have e1 : ints (([] : List Int).take 0) ++ [Value.int .i64 (k : Nat)] ++ ints (([] : List Int).drop 0) = ints (insAt (k : Nat) ([] : List Int) 0) := by simp [insAt, ints]
                have e2 : 0 + 1 + 0 = (insAt (k : Nat) ([] : List Int) 0).length := by rw [insAt_len, HPLN.out] <;> omega
                rw [e1, e2, ← HI.out] at hfin
                have HFIN := Lib.hid hfin
                have hlow := hownB.lt
                have HSEP : Hid (Sep vB u10) := Lib.hid (fun q q' h1 h2 => by have a1 := (hlow q h1).1; have a2 := (HOA3.out.lt q' h2).2; omega)
                have HLEN2 : Hid ((isort (gtOf (rdyCf ev f)) (selD (rdyP ev f) (k + 1))).length ≤ k + 1) := Lib.hid (by rw [isort_length]; exact selD_len _ _)
                have HOA4 := Lib.hid (own_below HOA3.out HBB.out)
                clear hfin e1 e2 hlow hownB hgrowB hownA hgrowA hoo ho2 hb1
                go_wp2
                exact ⟨⟨k + 1, _, T ++ [t], by omega, HLEN2.out, by simp; omega, by first | rfl | go_num, HALL3, Lib.hid rfl, HFIN, HOA4, HSEP, Lib.hid (bel_then HBQ.out HBB.out)⟩, by simp [intOf] <;> omega⟩
            · obtain ⟨g, rfl⟩ : ∃ g, ad = ⟨g, 0, none⟩ := by
                rcases HO1.out.2 with ⟨h, _⟩ | ⟨g', c', cur', h, _⟩
                · simp at h
                · simp at h; exact ⟨g', h.1⟩
              have HLJ : Hid ((pp.take j).length = j) := Lib.hid (by rw [List.length_take, HPLN.out]; omega)
              have HDL : Hid ((ints (pp.drop j)).length = (L - j) * 1) := Lib.hid (by rw [ints_len, List.length_drop, HPLN.out]; omega)
              have hRd0 := own_rd HO1.out
              have hRdT : RdI W (.slice (some ⟨g, 0, none⟩) j cap2) (pp.take j) := rdi_take hRd0 hjk hc2 HPLN.out
              have HT := Lib.hid hRdT
              clear hRdT
              by_cases hcj : cap2 = j
              · have hkj : j = L := by omega
                subst hkj
                have hjc : j = cap2 := hcj.symm
                subst hjc
                have HD : Hid (Rd W (.slice (some ⟨g, 0, none⟩) 0 0) 0 (ints (pp.drop j))) := Lib.hid ⟨_, 0, rfl, Nat.le_refl _, Nat.zero_le _, fun h => absurd h (by simp)⟩
                have HDL0 : Hid ((ints (pp.drop j)).length = 0 * 1) := Lib.hid (by rw [HDL.out]; omega)
                clear hRd0 HDL
                go_wp2_with fail
                go_region_held3 (fun W' => Below W.heap.size W W') (first | exact bel_grown ‹_› hgrowB (fun q e => (hownA.lt q e).1) | exact bel_grown ‹_› hgrowA (fun q e => (ho2.lt q e).1) | exact bel_then ‹_› hb1 | exact bel_al ‹_› _ | exact bel_dr (Below.refl _ _)) (first | (go_at_call 132; refine (l1Own_c _ (pp.take j) _ (rd_below HT.out ‹_›) (by rw [HLJ.out]; omega)).mono ?_; rintro e w' ⟨vo, rfl, hoo, hb1⟩; have ho2 : w'.ownsRow W.heap.size 3 1 vo j (ints (pp.take j)) := (by have h := own_base (base' := W.heap.size) hoo (by first | exact Nat.le_refl _ | (simp; done)); rwa [HLJ.out] at h)) | (refine step_app_rd _ rfl (.tmp 72) (.tmp 74) 48 rfl W.heap.size 3 i0 (.int .i64 0) 1 8 Tryz.underlying48 hi hz0 hz1 hz2 rfl (by decide) _ j (ints (pp.take j)) rfl (ho2.alloc _) _ 1 [.int .i64 k] rfl (rd_new _ rfl (Nat.le_refl _) (by rw [maxLen_eq]; omega)) rfl (by intro u hu; simp at hu; subst hu; rfl) (by rw [maxLen_eq]; omega) (by omega) (Below.size ‹Below W.heap.size W _›) ?_; intro vA wA2 hownA hgrowA _) | (refine step_app_rd _ rfl (.tmp 72) (.tmp 74) 48 rfl W.heap.size 3 i0 (.int .i64 0) 1 8 Tryz.underlying48 hi hz0 hz1 hz2 rfl (by decide) _ j (ints (pp.take j)) rfl ho2 _ 1 [.int .i64 k] rfl (rd_below (rd_new W.drew rfl (Nat.le_refl _) (by rw [maxLen_eq]; omega)) hb1) rfl (by intro u hu; simp at hu; subst hu; rfl) (by rw [maxLen_eq]; omega) (by omega) (Below.size ‹Below W.heap.size W _›) ?_; intro vA wA2 hownA hgrowA _) | (refine step_app_rd _ rfl (.tmp 75) (.tmp 78) 48 rfl W.heap.size 3 i0 (.int .i64 0) 1 8 Tryz.underlying48 hi hz0 hz1 hz2 rfl (by decide) _ (j + 1) _ rfl hownA _ 0 (ints (pp.drop j)) rfl (rd_below HD.out ‹Below W.heap.size W _›) HDL0.out (ints_one _) (by rw [maxLen_eq]; omega) (by omega) (Below.size ‹Below W.heap.size W _›) ?_; intro vB wB2 hownB hgrowB _))
                all_goals
                  have HBB := Lib.hid ‹Below W.heap.size W _›
                  have hsBB := HBB.out.size
                  have hfin := own_base hownB HBQ.out.size
                  have e1 : ints (pp.take j) ++ [Value.int .i64 (k : Nat)] ++ ints (pp.drop j) = ints (insAt (k : Nat) pp j) := by simp [insAt, ints]
                  have e2 : j + 1 + 0 = (insAt (k : Nat) pp j).length := by rw [insAt_len, HPLN.out] <;> omega
                  rw [e1, e2, ← HI.out] at hfin
                  have HFIN := Lib.hid hfin
                  have hlow := hownB.lt
                  have HSEP : Hid (Sep vB u10) := Lib.hid (fun q q' h1 h2 => by have a1 := (hlow q h1).1; have a2 := (HOA3.out.lt q' h2).2; omega)
                  have HLEN2 : Hid ((isort (gtOf (rdyCf ev f)) (selD (rdyP ev f) (k + 1))).length ≤ k + 1) := Lib.hid (by rw [isort_length]; exact selD_len _ _)
                  have HOA4 := Lib.hid (own_below HOA3.out HBB.out)
                  clear hfin e1 e2 hlow hownB hgrowB hownA hgrowA hoo ho2 hb1
                  go_wp2
                  exact ⟨⟨k + 1, _, T ++ [t], by omega, HLEN2.out, by simp; omega, by first | rfl | go_num, HALL3, Lib.hid rfl, HFIN, HOA4, HSEP, Lib.hid (bel_then HBQ.out HBB.out)⟩, by simp [intOf] <;> omega⟩
              · have HD : Hid (Rd W (.slice (some ⟨g, j, none⟩) (L - j) (cap2 - j)) (L - j) (ints (pp.drop j))) := Lib.hid (rd_drop hRd0 hjk)
                clear hRd0
                have q0 : (0 : Int) ≤ (j : Int) := (by omega)
                go_wp2_with fail
                go_region_held3 (fun W' => Below W.heap.size W W') (first | exact bel_grown ‹_› hgrowB (fun q e => (hownA.lt q e).1) | exact bel_grown ‹_› hgrowA (fun q e => (ho2.lt q e).1) | exact bel_then ‹_› hb1 | exact bel_al ‹_› _ | exact bel_dr (Below.refl _ _)) (first | (go_at_call 132; refine (l1Own_c _ (pp.take j) _ (rd_below HT.out ‹_›) (by rw [HLJ.out]; omega)).mono ?_; rintro e w' ⟨vo, rfl, hoo, hb1⟩; have ho2 : w'.ownsRow W.heap.size 3 1 vo j (ints (pp.take j)) := (by have h := own_base (base' := W.heap.size) hoo (by first | exact Nat.le_refl _ | (simp; done)); rwa [HLJ.out] at h)) | (refine step_app_rd _ rfl (.tmp 72) (.tmp 74) 48 rfl W.heap.size 3 i0 (.int .i64 0) 1 8 Tryz.underlying48 hi hz0 hz1 hz2 rfl (by decide) _ j (ints (pp.take j)) rfl (ho2.alloc _) _ 1 [.int .i64 k] rfl (rd_new _ rfl (Nat.le_refl _) (by rw [maxLen_eq]; omega)) rfl (by intro u hu; simp at hu; subst hu; rfl) (by rw [maxLen_eq]; omega) (by omega) (Below.size ‹Below W.heap.size W _›) ?_; intro vA wA2 hownA hgrowA _) | (refine step_app_rd _ rfl (.tmp 72) (.tmp 74) 48 rfl W.heap.size 3 i0 (.int .i64 0) 1 8 Tryz.underlying48 hi hz0 hz1 hz2 rfl (by decide) _ j (ints (pp.take j)) rfl ho2 _ 1 [.int .i64 k] rfl (rd_below (rd_new W.drew rfl (Nat.le_refl _) (by rw [maxLen_eq]; omega)) hb1) rfl (by intro u hu; simp at hu; subst hu; rfl) (by rw [maxLen_eq]; omega) (by omega) (Below.size ‹Below W.heap.size W _›) ?_; intro vA wA2 hownA hgrowA _) | (refine step_app_rd _ rfl (.tmp 75) (.tmp 78) 48 rfl W.heap.size 3 i0 (.int .i64 0) 1 8 Tryz.underlying48 hi hz0 hz1 hz2 rfl (by decide) _ (j + 1) _ rfl hownA _ (L - j) (ints (pp.drop j)) rfl (rd_below HD.out ‹Below W.heap.size W _›) HDL.out (ints_one _) (by rw [maxLen_eq]; omega) (by omega) (Below.size ‹Below W.heap.size W _›) ?_; intro vB wB2 hownB hgrowB _))
                all_goals
                  have HBB := Lib.hid ‹Below W.heap.size W _›
                  have hsBB := HBB.out.size
                  have hfin := own_base hownB HBQ.out.size
                  have e1 : ints (pp.take j) ++ [Value.int .i64 (k : Nat)] ++ ints (pp.drop j) = ints (insAt (k : Nat) pp j) := by simp [insAt, ints]
                  have e2 : j + 1 + (L - j) = (insAt (k : Nat) pp j).length := by rw [insAt_len, HPLN.out] <;> omega
                  rw [e1, e2, ← HI.out] at hfin
                  have HFIN := Lib.hid hfin
                  have hlow := hownB.lt
                  have HSEP : Hid (Sep vB u10) := Lib.hid (fun q q' h1 h2 => by have a1 := (hlow q h1).1; have a2 := (HOA3.out.lt q' h2).2; omega)
                  have HLEN2 : Hid ((isort (gtOf (rdyCf ev f)) (selD (rdyP ev f) (k + 1))).length ≤ k + 1) := Lib.hid (by rw [isort_length]; exact selD_len _ _)
                  have HOA4 := Lib.hid (own_below HOA3.out HBB.out)
                  clear hfin e1 e2 hlow hownB hgrowB hownA hgrowA hoo ho2 hb1
                  go_wp2
                  exact ⟨⟨k + 1, _, T ++ [t], by omega, HLEN2.out, by simp; omega, by first | rfl | go_num, HALL3, Lib.hid rfl, HFIN, HOA4, HSEP, Lib.hid (bel_then HBQ.out HBB.out)⟩, by simp [intOf] <;> omega⟩
        · have HNO : Hid (isort (gtOf (rdyCf ev f)) (selD (rdyP ev f) (k + 1)) = pp) := Lib.hid (by rw [selD_no (by rw [HPP2.out, decide_eq_false ht0]; simp), HPP.out])
          have htn : t < 0 := by omega
          go_wp2_with (first | (at_builtin; refine wpList_app_rd _ rfl _ _ 48 rfl uA.heap.size 3 i0 (.int .i64 0) 1 8 Tryz.underlying48 hi hz0 hz1 hz2 rfl (by decide) _ _ _ rfl (HOA1.out.alloc _) _ 1 [.int .i64 t] rfl (rd_new _ rfl (Nat.le_refl _) (by rw [maxLen_eq]; omega)) rfl (ints_one [t]) (by rw [maxLen_eq]; omega) (by omega) (by have := HBX.out.size; simp; omega) ?_; intro u10 w7 hown7 hgrow7 he7; have HOA2 : Hid (w7.ownsRow uA.heap.size 3 1 u10 (T ++ [t]).length (ints (T ++ [t]))) := Lib.hid (by rw [ints_append, List.length_append]; exact hown7); have HOW2 := Lib.hid (kept3 (HOW1.out.alloc _) hgrow7 HSP.out); have HSP2 := Lib.hid (sep_grow he7 HSP.out.symm (fun q e => by have := (HOW1.out.lt q e).2; simp; omega)); have HB7 : Hid (Below uA.heap.size uA w7) := Lib.hid (bel_grown (bel_al HBX.out _) hgrow7 (fun q e => (HOA.out.lt q e).1)); have hs7 := hgrow7.size; have hblk := hgrow7.block wA.heap.size (by simp; omega) (fun e => by have := (HLOA.out _ e.symm).2; omega); have m0 := (cell_keep (o := 0) hblk).trans ((World.cell?_alloc_lt _ _ _ hsz1).trans k0); have m1 := (cell_keep (o := 1) hblk).trans ((World.cell?_alloc_lt _ _ _ hsz1).trans k1); have m2 := (cell_keep (o := 2) hblk).trans ((World.cell?_alloc_lt _ _ _ hsz1).trans k2); have m3 := (cell_keep (o := 3) hblk).trans ((World.cell?_alloc_lt _ _ _ hsz1).trans k3); have m4 := (cell_keep (o := 4) hblk).trans ((World.cell?_alloc_lt _ _ _ hsz1).trans k4); clear hown7 hgrow7 he7 hblk k0 k1 k2 k3 k4) | (go_at_call 145; refine (apReady_c nm kd p cr sv _ hk0 hk3).mono ?_; rw [hav]; rintro e w3 ⟨rfl, hb3⟩; have HB3 := Lib.hid (bel_then HB7.out hb3); have HOA3 := Lib.hid (own_below HOA2.out hb3); have HOW3 := Lib.hid (own_below HOW2.out hb3); have HSP3 := Lib.hid HSP2.out.symm; have hbx : wA.heap.size < w7.heap.size := (by simp at hs7; omega); have x2 := (hb3.cell (p := ⟨wA.heap.size, 2, none⟩) hbx).trans m2; have ye := (HB3.out.cell (p := ⟨h, p, none⟩) hhl).trans XU.out; clear hb3 m0 m1 m2 m3 m4 xe))
          exact ⟨⟨k + 1, pp, T ++ [t], by omega, by omega, by simp; omega, by go_num, HALL3, HNO, HOW3, HOA3, HSP3, HB3⟩, by simp [intOf]; omega⟩
      · have hav : avB ⟨nm, kd, p, cr, sv⟩ = false := by simpa using hav
        have HNO : Hid (isort (gtOf (rdyCf ev f)) (selD (rdyP ev f) (k + 1)) = pp) := Lib.hid (by rw [selD_no (by rw [HPP2.out, hav]; rfl), HPP.out])
        go_wp2_with (first | (at_builtin; refine wpList_app_rd _ rfl _ _ 48 rfl uA.heap.size 3 i0 (.int .i64 0) 1 8 Tryz.underlying48 hi hz0 hz1 hz2 rfl (by decide) _ _ _ rfl (HOA1.out.alloc _) _ 1 [.int .i64 t] rfl (rd_new _ rfl (Nat.le_refl _) (by rw [maxLen_eq]; omega)) rfl (ints_one [t]) (by rw [maxLen_eq]; omega) (by omega) (by have := HBX.out.size; simp; omega) ?_; intro u10 w7 hown7 hgrow7 he7; have HOA2 : Hid (w7.ownsRow uA.heap.size 3 1 u10 (T ++ [t]).length (ints (T ++ [t]))) := Lib.hid (by rw [ints_append, List.length_append]; exact hown7); have HOW2 := Lib.hid (kept3 (HOW1.out.alloc _) hgrow7 HSP.out); have HSP2 := Lib.hid (sep_grow he7 HSP.out.symm (fun q e => by have := (HOW1.out.lt q e).2; simp; omega)); have HB7 : Hid (Below uA.heap.size uA w7) := Lib.hid (bel_grown (bel_al HBX.out _) hgrow7 (fun q e => (HOA.out.lt q e).1)); have hs7 := hgrow7.size; have hblk := hgrow7.block wA.heap.size (by simp; omega) (fun e => by have := (HLOA.out _ e.symm).2; omega); have m0 := (cell_keep (o := 0) hblk).trans ((World.cell?_alloc_lt _ _ _ hsz1).trans k0); have m1 := (cell_keep (o := 1) hblk).trans ((World.cell?_alloc_lt _ _ _ hsz1).trans k1); have m2 := (cell_keep (o := 2) hblk).trans ((World.cell?_alloc_lt _ _ _ hsz1).trans k2); have m3 := (cell_keep (o := 3) hblk).trans ((World.cell?_alloc_lt _ _ _ hsz1).trans k3); have m4 := (cell_keep (o := 4) hblk).trans ((World.cell?_alloc_lt _ _ _ hsz1).trans k4); clear hown7 hgrow7 he7 hblk k0 k1 k2 k3 k4) | (go_at_call 145; refine (apReady_c nm kd p cr sv _ hk0 hk3).mono ?_; rw [hav]; rintro e w3 ⟨rfl, hb3⟩; have HB3 := Lib.hid (bel_then HB7.out hb3); have HOA3 := Lib.hid (own_below HOA2.out hb3); have HOW3 := Lib.hid (own_below HOW2.out hb3); have HSP3 := Lib.hid HSP2.out.symm; have hbx : wA.heap.size < w7.heap.size := (by simp at hs7; omega); have x2 := (hb3.cell (p := ⟨wA.heap.size, 2, none⟩) hbx).trans m2; have ye := (HB3.out.cell (p := ⟨h, p, none⟩) hhl).trans XU.out; clear hb3 m0 m1 m2 m3 m4 xe))
        exact ⟨⟨k + 1, pp, T ++ [t], by omega, by omega, by simp; omega, by go_num, HALL3, HNO, HOW3, HOA3, HSP3, HB3⟩, by simp [intOf]; omega⟩
    · obtain rfl : k = f.length := by omega
      have hAll := HALL.out
      rw [List.take_length] at hAll
      have HA := Lib.hid hAll
      clear hAll
      go_wp2
      go_ret2
      rw [HEV.out, HA.out, show readyL ev f = pp from HPP.out]
      exact ⟨_, _, rfl, rdi_own HOW.out, rdi_own HOA.out, bel_then HB1.out HBL.out⟩
end Go.Proofs.YthgegghdkoeofaaGreatDoor

namespace Go.Proofs.YthgegghdkoeofaaGreatDoor
set_option linter.unusedVariables false
set_option linter.unusedSimpArgs false
open Go.RowKit

def firstAttendanceV (n : Int) (l : List St) (f : List Ap) (x : Int) : ByteArray × Int × Bool :=
  if askD n l f x = true then
    match readyL (distT n.toNat (arcs l) x.toNat) f with
    | [] => (⟨#[]⟩, 0, false)
    | i :: _ => match f[i.toNat]? with
      | some a => (a.nm, (distT n.toNat (arcs l) x.toNat).getD a.nd.toNat 0, true)
      | none => (⟨#[]⟩, 0, false)
  else (⟨#[]⟩, 0, false)
theorem firstV_no {n : Int} {l : List St} {f : List Ap} {x : Int} (h : askD n l f x = false) : firstAttendanceV n l f x = (⟨#[]⟩, 0, false) := by
  unfold firstAttendanceV; rw [if_neg (by rw [h]; simp)]
theorem firstV_nil {n src : Nat} {l : List St} {f : List Ap} (h : askD n l f src = true) (hr : readyL (distT n (arcs l) src) f = []) : firstAttendanceV n l f src = (⟨#[]⟩, 0, false) := by
  unfold firstAttendanceV; rw [if_pos h, Int.toNat_natCast, Int.toNat_natCast, hr]
theorem firstV_yes {n src k : Nat} {l : List St} {f : List Ap} {r : List Int} {a : Ap} (h : askD n l f src = true) (hr : readyL (distT n (arcs l) src) f = (k : Int) :: r) (ha : f[k]? = some a) :
    firstAttendanceV n l f src = (a.nm, (distT n (arcs l) src).getD a.nd.toNat 0, true) := by
  unfold firstAttendanceV; rw [if_pos h, Int.toNat_natCast, Int.toNat_natCast, hr]; dsimp only; rw [Int.toNat_natCast, ha]
theorem allT_get {ev : List Int} {f : List Ap} {k : Nat} {a : Ap} (h : f[k]? = some a) : (allT ev f)[k]? = some (ev.getD a.nd.toNat 0) := by unfold allT; rw [List.getElem?_map, h]; rfl
theorem allT_len (ev : List Int) (f : List Ap) : (allT ev f).length = f.length := by simp [allT]

def FirstIs (n : Int) (l : List St) (f : List Ap) (x : Int) (w : World) (e : Ending) (w' : World) : Prop :=
  e = .returned (.tuple #[.string (firstAttendanceV n l f x).1, .int .i64 (firstAttendanceV n l f x).2.1, .bool (firstAttendanceV n l f x).2.2]) ∧ Below w.heap.size w w'

end Go.Proofs.YthgegghdkoeofaaGreatDoor

namespace Go.Proofs.YthgegghdkoeofaaGreatDoor
set_option linter.unusedVariables false
set_option linter.unusedSimpArgs false
open Go.RowKit

theorem maxI_max (a b : Int) : maxI a b = max a b := by unfold maxI; split <;> omega
def attOk (f : List Ap) (ev : List Int) (nm : ByteArray) : Bool := decide (0 ≤ findA nm f) && decide (0 ≤ rdyKey ev f (findA nm f))
def attMax (f : List Ap) (ev : List Int) (q : List ByteArray) : Int := q.foldl (fun m nm => max m (rdyKey ev f (findA nm f))) 0
theorem attMax_snoc {f : List Ap} {ev : List Int} {q : List ByteArray} {k : Nat} {nm : ByteArray} (h : q[k]? = some nm) : attMax f ev (q.take (k + 1)) = max (attMax f ev (q.take k)) (rdyKey ev f (findA nm f)) := by
  unfold attMax; rw [take_succ_of h, List.foldl_append]; rfl
theorem attAll_snoc {f : List Ap} {ev : List Int} {q : List ByteArray} {k : Nat} {nm : ByteArray} (h : q[k]? = some nm) (ha : (q.take k).all (attOk f ev) = true) (hn : attOk f ev nm = true) : (q.take (k + 1)).all (attOk f ev) = true := by
  rw [take_succ_of h, List.all_append, ha]; simp [hn]
def attendanceTimeV (n : Int) (l : List St) (f : List Ap) (x : Int) (q : List ByteArray) : Int × Bool :=
  if askD n l f x = true ∧ 0 < q.length ∧ namesB q = true ∧ q.all (attOk f (distT n.toNat (arcs l) x.toNat)) = true then (attMax f (distT n.toNat (arcs l) x.toNat) q, true) else (0, false)
theorem att_no1 {n : Int} {l : List St} {f : List Ap} {x : Int} {q : List ByteArray} (h : askD n l f x = false) : attendanceTimeV n l f x q = (0, false) := by unfold attendanceTimeV; rw [if_neg (by rw [h]; simp)]
theorem att_no2 {n : Int} {l : List St} {f : List Ap} {x : Int} {q : List ByteArray} (h : q.length = 0) : attendanceTimeV n l f x q = (0, false) := by unfold attendanceTimeV; rw [if_neg (by rw [h]; simp)]
theorem att_no3 {n : Int} {l : List St} {f : List Ap} {x : Int} {q : List ByteArray} (h : namesB q = false) : attendanceTimeV n l f x q = (0, false) := by unfold attendanceTimeV; rw [if_neg (by rw [h]; simp)]
theorem att_no4 {n src : Nat} {l : List St} {f : List Ap} {q : List ByteArray} {k : Nat} {nm : ByteArray} (hk : q[k]? = some nm) (h : attOk f (distT n (arcs l) src) nm = false) : attendanceTimeV n l f src q = (0, false) := by
  unfold attendanceTimeV
  rw [if_neg (fun hh => by
    have h1 := hh.2.2.2
    rw [Int.toNat_natCast, Int.toNat_natCast, List.all_eq_true] at h1
    have h2 := h1 nm (List.mem_of_getElem? hk)
    rw [h] at h2
    cases h2)]
theorem att_yes {n src : Nat} {l : List St} {f : List Ap} {q : List ByteArray} (h : askD n l f src = true) (h1 : 0 < q.length) (h2 : namesB q = true) (h3 : q.all (attOk f (distT n (arcs l) src)) = true) : attendanceTimeV n l f src q = (attMax f (distT n (arcs l) src) q, true) := by
  unfold attendanceTimeV; rw [if_pos (by rw [Int.toNat_natCast, Int.toNat_natCast]; exact ⟨h, h1, h2, h3⟩), Int.toNat_natCast, Int.toNat_natCast]
def AttIs (n : Int) (l : List St) (f : List Ap) (x : Int) (q : List ByteArray) (w : World) (e : Ending) (w' : World) : Prop :=
  e = .returned (.tuple #[.int .i64 (attendanceTimeV n l f x q).1, .bool (attendanceTimeV n l f x q).2]) ∧ Below w.heap.size w w'

set_option maxRecDepth 100000 in
set_option maxHeartbeats 4000000 in
theorem attendanceTimeS_c (n : Int) (s : Value) (l : List St) (v : Value) (f : List Ap) (x : Int) (vq : Value) (q : List ByteArray) (w : World) (hr : Rd w s l.length (l.flatMap St.cells)) (hz : ∀ x ∈ f, x.nm.size ≤ 9223372036854775807) (hf : Rd w v f.length (f.flatMap Ap.cells)) (hq : RdS w vq q) :
    Calls Tryz.prog 33 #[.agg #[.int .i64 n, s], v, .int .i64 x, vq] w (AttIs n l f x q w) := by
  have HR := Lib.hid hr
  have HF := Lib.hid hf
  have HZ := Lib.hid hz
  have HQ := Lib.hid hq
  obtain ⟨A, c, rfl, hc, hm, hcell0⟩ := hf
  rw [maxLen_eq] at hm
  have HCELL := Lib.hid hcell0
  obtain ⟨AQ, cq, rfl, hcq, hmq, hcellq⟩ := hq
  rw [maxLen_eq] at hmq
  have HCQ := Lib.hid hcellq
  clear hr hz hcell0 hcellq
  go_enter Tryz.func33, Tryz.ntmps33
  go_wp2_with fail
  (generalize hw1 : World.alloc w _ = w1; have k0 : w1.cell? ⟨w.heap.size, 0, none⟩ = some (.int .i64 n) := (by subst hw1; simp [go_sem]); have k1 : w1.cell? ⟨w.heap.size, 1, none⟩ = some s := (by subst hw1; simp [go_sem]); have hb0 : Below w.heap.size w w1 := (by subst hw1; exact bel_al (Below.refl _ _) _); have hsz1 : w.heap.size < w1.heap.size := (by subst hw1; simp); clear hw1)
  have HB := Lib.hid hb0
  refine (dsAsked_c n s l _ f x _ (rd_below HR.out HB.out) HZ.out (rd_below HF.out HB.out)).mono ?_; rintro e w2 ⟨rfl, hb1⟩
  have e0 := (hb1.cell (p := ⟨w.heap.size, 0, none⟩) (by show w.heap.size < _; omega)).trans k0
  have e1 := (hb1.cell (p := ⟨w.heap.size, 1, none⟩) (by show w.heap.size < _; omega)).trans k1
  have HB1 := Lib.hid (bel_then HB.out hb1)
  clear k0 k1 hb0 hb1
  by_cases hg : askD n l f x = true
  · have HASK := Lib.hid hg
    rw [hg]
    obtain ⟨hds, hx0, hx1⟩ := askD_true hg
    obtain ⟨hgt, hgf, hnd⟩ := goodDs_true hds
    have hn1 := (goodTown_true hgt).1
    obtain ⟨N, rfl⟩ := Int.eq_ofNat_of_zero_le (show 0 ≤ n by omega)
    obtain ⟨src, rfl⟩ := Int.eq_ofNat_of_zero_le hx0
    have hs : src < N := by omega
    have HGT := Lib.hid hgt
    have HND := Lib.hid hnd
    clear hg hds hgt hgf hnd hx0 hx1
    by_cases hq0 : 0 < q.length
    · have hqz : ((q.length : Int) == 0) = false := beq_false_of_ne (by omega)
      go_wp2_with fail
      refine (dsNames_c _ q _ (rd_below HQ.out HB1.out)).mono ?_; rintro e w3 ⟨rfl, rfl⟩
      by_cases hnm : namesB q = true
      · have HNM := Lib.hid hnm
        rw [hnm]
        clear hnm
        go_wp2_with fail
        refine (toTimes_c N s l src _ HGT.out hs (rd_below HR.out HB1.out)).mono ?_
        rintro e w3 ⟨v6, rfl, ho6, hb3⟩
        rw [show (distT N (arcs l) src).length = N by unfold distT; rw [iterT_len, startT_len]] at ho6
        obtain ⟨h, cap6, rfl, hbh, hhl, hcap6, hcm6⟩ := own_shape ho6 (by omega)
        obtain ⟨ev, hev⟩ : ∃ ev, distT N (arcs l) src = ev := ⟨_, rfl⟩
        rw [hev] at ho6
        have HEV := Lib.hid hev
        have HO6 := Lib.hid ho6
        have HB3 := Lib.hid (bel_then HB1.out hb3)
        clear ho6 hb3 hev e0 e1 hqz
        go_wp2_with fail
        go_loopw [11, 35] (fun vm vi wr => ∃ (k : Nat) (m : Int), k ≤ q.length ∧ vi = .int .i64 k ∧ vm = .int .i64 m ∧ Hid ((q.take k).all (attOk f ev) = true) ∧ Hid (attMax f ev (q.take k) = m) ∧ Hid (Below w3.heap.size w3 wr)) (fun _ vi _ => q.length - (intOf vi).toNat)
        case atStart => exact ⟨0, 0, Nat.zero_le _, rfl, rfl, Lib.hid (by simp), Lib.hid rfl, Lib.hid (Below.refl _ _)⟩
        case round =>
          obtain ⟨k, m, hk, rfl, rfl, HALL, HMX, HBL⟩ := hrel
          by_cases hlt : k < q.length
          · obtain ⟨b5, off5, rfl, hb5, hcl5⟩ := HCQ.out (by omega)
            obtain ⟨nm, hy⟩ : ∃ nm, q[k]? = some nm := ⟨_, List.getElem?_eq_getElem hlt⟩
            have c0 := cell_at hcl5 (bel_then HB3.out HBL.out) hb5 (strs_get hy)
            have HY := Lib.hid hy
            clear hcl5 hy
            go_wp2_with fail
            refine (apFind_c _ f nm _ (rd_below HF.out (bel_then HB3.out HBL.out))).mono ?_; rintro e w5 ⟨rfl, hb5'⟩
            have HB5 := Lib.hid (bel_then HBL.out hb5')
            clear hb5'
            obtain ⟨fi, hfi⟩ : ∃ fi, findA nm f = fi := ⟨_, rfl⟩
            rw [hfi]
            by_cases hneg : fi < 0
            · have HV : Hid (attendanceTimeV N l f src q = (0, false)) := Lib.hid (att_no4 HY.out (by unfold attOk; rw [hfi, decide_eq_false (show ¬ 0 ≤ fi by omega)]; rfl))
              go_wp2
              go_ret2
              unfold AttIs
              rw [HV.out]
              exact ⟨rfl, bel_then HB3.out HB5.out⟩
            · obtain ⟨i, rfl⟩ := Int.eq_ofNat_of_zero_le (show 0 ≤ fi by omega)
              obtain ⟨a, ha, _⟩ := idxG_get hfi
              have hif : i < f.length := (List.getElem?_eq_some_iff.1 ha).1
              have hkey := rdyKey_at (ev := ev) ha
              have hnn := HND.out _ (List.mem_of_getElem? ha)
              obtain ⟨b, off, rfl, hbl, hcell⟩ := HCELL.out (by omega)
              obtain ⟨_, _, d2, _, _⟩ := ap_at hcell (bel_then HB3.out HB5.out) hbl ha
              obtain ⟨anm, akd, and', acr, asv⟩ := a
              dsimp only at hkey hnn d2
              obtain ⟨nd0, nd1⟩ := hnn
              obtain ⟨p, rfl⟩ := Int.eq_ofNat_of_zero_le nd0
              rw [Int.toNat_natCast] at hkey
              have ct := (HB5.out.cell (p := ⟨h, p, none⟩) hhl).trans (own_cell HO6.out (show p < N by omega))
              obtain ⟨t, ht⟩ : ∃ t, ev.getD p 0 = t := ⟨_, rfl⟩
              rw [ht] at ct hkey
              have HK := Lib.hid hkey
              have HFI := Lib.hid hfi
              have i0 : (0 : Int) ≤ (i : Int) := by omega
              have i1 : (i : Int) < (f.length : Int) := by omega
              have p0 : (0 : Int) ≤ (p : Int) := by omega
              have p1 : (p : Int) < (N : Int) := by omega
              clear ha hcell hkey ht hfi hneg nd1
              by_cases ht0 : t < 0
              · have HV : Hid (attendanceTimeV N l f src q = (0, false)) := Lib.hid (att_no4 HY.out (by rw [HEV.out]; unfold attOk; rw [HFI.out, HK.out, decide_eq_false (show ¬ 0 ≤ t by omega)]; simp))
                go_wp2
                go_ret2
                unfold AttIs
                rw [HV.out]
                exact ⟨rfl, bel_then HB3.out HB5.out⟩
              · have ht1 : 0 ≤ t := by omega
                have HA2 := Lib.hid (attAll_snoc HY.out HALL.out (by unfold attOk; rw [HFI.out, HK.out, decide_eq_true ht1, decide_eq_true i0]; rfl))
                have HM2 : Hid (attMax f ev (q.take (k + 1)) = max m t) := Lib.hid (by rw [attMax_snoc HY.out, HMX.out, HFI.out, HK.out])
                clear ht0
                go_wp2_with (go_at_call 96; refine (l1Most_c _ _ _).mono ?_; rintro e w' ⟨rfl, rfl⟩)
                exact ⟨⟨k + 1, max m t, by omega, by go_num, (by rw [maxI_max]), HA2, HM2, HB5⟩, by simp [intOf]; omega⟩
          · obtain rfl : k = q.length := by omega
            have hall := HALL.out
            have hmx := HMX.out
            rw [List.take_length] at hall hmx
            have HV := Lib.hid (att_yes HASK.out hq0 HNM.out (by rw [HEV.out]; exact hall))
            have HMM := Lib.hid hmx
            clear hall hmx
            go_wp2
            go_ret2
            unfold AttIs
            rw [HV.out, HEV.out, HMM.out]
            exact ⟨rfl, bel_then HB3.out HBL.out⟩
      · have hnm : namesB q = false := by simpa using hnm
        have HV := Lib.hid (att_no3 (n := N) (l := l) (f := f) (x := src) hnm)
        rw [hnm]
        go_wp2
        go_ret2
        unfold AttIs
        rw [HV.out]
        exact ⟨rfl, HB1.out⟩
    · have hqz : ((q.length : Int) == 0) = true := beq_iff_eq.2 (by omega)
      have HV := Lib.hid (att_no2 (n := N) (l := l) (f := f) (x := src) (show q.length = 0 by omega))
      go_wp2
      go_ret2
      unfold AttIs
      rw [HV.out]
      exact ⟨rfl, HB1.out⟩
  · have hg : askD n l f x = false := by simpa using hg
    have HV := Lib.hid (att_no1 (q := q) hg)
    rw [hg]
    go_wp2
    go_ret2
    unfold AttIs
    rw [HV.out]
    exact ⟨rfl, HB1.out⟩
end Go.Proofs.YthgegghdkoeofaaGreatDoor

namespace Go.Proofs.YthgegghdkoeofaaGreatDoor
set_option linter.unusedVariables false
set_option linter.unusedSimpArgs false
open Go.RowKit

set_option maxRecDepth 100000 in
set_option maxHeartbeats 4000000 in
theorem attendanceTimeI_c (n : Int) (s : Value) (l : List St) (v : Value) (f : List Ap) (x : Int) (vq : Value) (q : List ByteArray) (w : World) (hr : Rd w s l.length (l.flatMap St.cells)) (hz : ∀ x ∈ f, x.nm.size ≤ 9223372036854775807) (hf : Rd w v f.length (f.flatMap Ap.cells)) (hq : RdS w vq q) :
    Calls Tryz.prog 32 #[.agg #[.int .i64 n, s], v, .int .i64 x, vq] w (AttIs n l f x q w) := by
  have HR := Lib.hid hr
  have HF := Lib.hid hf
  have HZ := Lib.hid hz
  have HQ := Lib.hid hq
  obtain ⟨A, c, rfl, hc, hm, hcell0⟩ := hf
  rw [maxLen_eq] at hm
  have HCELL := Lib.hid hcell0
  obtain ⟨AQ, cq, rfl, hcq, hmq, hcellq⟩ := hq
  rw [maxLen_eq] at hmq
  have HCQ := Lib.hid hcellq
  clear hr hz hcell0 hcellq
  go_enter Tryz.func32, Tryz.ntmps32
  go_wp2_with fail
  (generalize hw1 : World.alloc w _ = w1; have k0 : w1.cell? ⟨w.heap.size, 0, none⟩ = some (.int .i64 n) := (by subst hw1; simp [go_sem]); have k1 : w1.cell? ⟨w.heap.size, 1, none⟩ = some s := (by subst hw1; simp [go_sem]); have hb0 : Below w.heap.size w w1 := (by subst hw1; exact bel_al (Below.refl _ _) _); have hsz1 : w.heap.size < w1.heap.size := (by subst hw1; simp); clear hw1)
  have HB := Lib.hid hb0
  refine (dispatchFits_c n s l _ f w.heap.size _ k0 k1 (rd_below HR.out HB.out) HZ.out (rd_below HF.out HB.out)).mono ?_; rintro e w2 ⟨rfl, hb1⟩
  have e0 := (hb1.cell (p := ⟨w.heap.size, 0, none⟩) (by show w.heap.size < _; omega)).trans k0
  have e1 := (hb1.cell (p := ⟨w.heap.size, 1, none⟩) (by show w.heap.size < _; omega)).trans k1
  have HB1 := Lib.hid (bel_then HB.out hb1)
  clear k0 k1 hb0 hb1
  by_cases hg : goodDs n l f = true
  · have HDS := Lib.hid hg
    rw [hg]
    obtain ⟨hgt, hgf, hnd⟩ := goodDs_true hg
    obtain ⟨hn1, hn2, _⟩ := goodTown_true hgt
    have HGT := Lib.hid hgt
    have HND0 := Lib.hid hnd
    clear hg hgt hgf hnd
    go_wp2_with fail
    refine (has_c n x _ _ hn1 hn2 e0).mono ?_; rintro e w3 ⟨rfl, rfl⟩
    by_cases hx : inB x 0 (n - 1) = true
    · have HASK : Hid (askD n l f x = true) := Lib.hid (by unfold askD; rw [HDS.out, hx]; rfl)
      rw [hx]
      obtain ⟨hx0, hx1⟩ := inB_true hx
      obtain ⟨N, rfl⟩ := Int.eq_ofNat_of_zero_le (show 0 ≤ n by omega)
      obtain ⟨src, rfl⟩ := Int.eq_ofNat_of_zero_le hx0
      have hs : src < N := by omega
      have HND := HND0
      have E0 := Lib.hid e0
      have E1 := Lib.hid e1
      clear hx hx0 hx1 e0 e1
      by_cases hq0 : 0 < q.length
      · have hqz : ((q.length : Int) == 0) = false := beq_false_of_ne (by omega)
        go_wp2_with fail
        refine (timesI_c N s l w.heap.size src _ HGT.out hs E0.out E1.out (rd_below HR.out HB1.out)).mono ?_
        rintro e w3 ⟨v6, rfl, ho6, hb3⟩
        rw [show (distT N (arcs l) src).length = N by unfold distT; rw [iterT_len, startT_len]] at ho6
        obtain ⟨h, cap6, rfl, hbh, hhl, hcap6, hcm6⟩ := own_shape ho6 (by omega)
        obtain ⟨ev, hev⟩ : ∃ ev, distT N (arcs l) src = ev := ⟨_, rfl⟩
        rw [hev] at ho6
        have HEV := Lib.hid hev
        have HO6 := Lib.hid ho6
        have HB3 := Lib.hid (bel_then HB1.out hb3)
        clear ho6 hb3 hev hqz
        go_wp2_with fail
        go_loopw [11, 32] (fun vm vi wr => ∃ (k : Nat) (m : Int), k ≤ q.length ∧ vi = .int .i64 k ∧ vm = .int .i64 m ∧ Hid ((q.take k).all (attOk f ev) = true) ∧ Hid (attMax f ev (q.take k) = m) ∧ Hid ((List.range k).all (okNm q) = true) ∧ Hid (Below w3.heap.size w3 wr)) (fun _ vi _ => q.length - (intOf vi).toNat)
        case atStart => exact ⟨0, 0, Nat.zero_le _, rfl, rfl, Lib.hid (by simp), Lib.hid rfl, Lib.hid rfl, Lib.hid (Below.refl _ _)⟩
        case round =>
          obtain ⟨k, m, hk, rfl, rfl, HALL, HMX, HNA, HBL⟩ := hrel
          by_cases hlt : k < q.length
          · obtain ⟨b5, off5, rfl, hb5, hcl5⟩ := HCQ.out (by omega)
            obtain ⟨nm, hy⟩ : ∃ nm, q[k]? = some nm := ⟨_, List.getElem?_eq_getElem hlt⟩
            have c0 := cell_at hcl5 (bel_then HB3.out HBL.out) hb5 (strs_get hy)
            have HY := Lib.hid hy
            clear hy
            go_wp2_with fail
            refine (findI_c _ f nm _ (rd_below HF.out (bel_then HB3.out HBL.out))).mono ?_; rintro e w5 ⟨rfl, hb5'⟩
            have HB5 := Lib.hid (bel_then HBL.out hb5')
            clear hb5'
            rcases k with _ | kp
            · have HOK := Lib.hid (okNm_first HY.out)
              have hd0 : decide ((0 : Int) < 0) = false := by decide
              obtain ⟨fi, hfi⟩ : ∃ fi, findA nm f = fi := ⟨_, rfl⟩
              rw [hfi]
              by_cases hneg : fi < 0
              · have HV : Hid (attendanceTimeV N l f src q = (0, false)) := Lib.hid (att_no4 HY.out (by unfold attOk; rw [hfi, decide_eq_false (show ¬ 0 ≤ fi by omega)]; rfl))
                go_wp2
                go_ret2
                unfold AttIs
                rw [HV.out]
                exact ⟨rfl, bel_then HB3.out HB5.out⟩
              · obtain ⟨i, rfl⟩ := Int.eq_ofNat_of_zero_le (show 0 ≤ fi by omega)
                obtain ⟨a, ha, _⟩ := idxG_get hfi
                have hif : i < f.length := (List.getElem?_eq_some_iff.1 ha).1
                have hkey := rdyKey_at (ev := ev) ha
                have hnn := HND.out _ (List.mem_of_getElem? ha)
                obtain ⟨b, off, rfl, hbl, hcell⟩ := HCELL.out (by omega)
                obtain ⟨_, _, d2, _, _⟩ := ap_at hcell (bel_then HB3.out HB5.out) hbl ha
                obtain ⟨anm, akd, and', acr, asv⟩ := a
                dsimp only at hkey hnn d2
                obtain ⟨nd0, nd1⟩ := hnn
                obtain ⟨p, rfl⟩ := Int.eq_ofNat_of_zero_le nd0
                rw [Int.toNat_natCast] at hkey
                have ct := (HB5.out.cell (p := ⟨h, p, none⟩) hhl).trans (own_cell HO6.out (show p < N by omega))
                obtain ⟨t, ht⟩ : ∃ t, ev.getD p 0 = t := ⟨_, rfl⟩
                rw [ht] at ct hkey
                have HK := Lib.hid hkey
                have HFI := Lib.hid hfi
                have i0 : (0 : Int) ≤ (i : Int) := by omega
                have i1 : (i : Int) < (f.length : Int) := by omega
                have p0 : (0 : Int) ≤ (p : Int) := by omega
                have p1 : (p : Int) < (N : Int) := by omega
                clear ha hcell hkey ht hfi hneg nd1
                by_cases ht0 : t < 0
                · have HV : Hid (attendanceTimeV N l f src q = (0, false)) := Lib.hid (att_no4 HY.out (by rw [HEV.out]; unfold attOk; rw [HFI.out, HK.out, decide_eq_false (show ¬ 0 ≤ t by omega)]; simp))
                  go_wp2
                  go_ret2
                  unfold AttIs
                  rw [HV.out]
                  exact ⟨rfl, bel_then HB3.out HB5.out⟩
                · have ht1 : 0 ≤ t := by omega
                  have HA2 := Lib.hid (attAll_snoc HY.out HALL.out (by unfold attOk; rw [HFI.out, HK.out, decide_eq_true ht1, decide_eq_true i0]; rfl))
                  have HM2 : Hid (attMax f ev (q.take (0 + 1)) = max m t) := Lib.hid (by rw [attMax_snoc HY.out, HMX.out, HFI.out, HK.out])
                  clear ht0
                  go_wp2
                  exact ⟨⟨0 + 1, max m t, by omega, by go_num, (by first | rfl | simp), HA2, HM2, Lib.hid (all_rng_succ HNA.out HOK.out), HB5⟩, by simp [intOf]; omega⟩
            · have hlt' : kp < q.length := by omega
              obtain ⟨p9, hp9⟩ : ∃ p, q[kp]? = some p := ⟨_, List.getElem?_eq_getElem hlt'⟩
              have HOK0 := Lib.hid (okNm_next HY.out hp9)
              have d9 := cell_at hcl5 (bel_then HB3.out HB5.out) hb5 (strs_get hp9)
              have y0 : (0 : Int) ≤ (kp : Int) := Int.natCast_nonneg _
              have y1 : (kp : Int) < (q.length : Int) := by omega
              have y2 : (0 : Int) < (kp : Int) + 1 := by omega
              have s9 : IntKind.i64.wrap (kp : Int) = (kp : Int) := by rw [IntKind.wrap_i64]; omega
              clear hcl5 hp9
              obtain ⟨fi, hfi⟩ : ∃ fi, findA nm f = fi := ⟨_, rfl⟩
              rw [hfi]
              by_cases hneg : fi < 0
              · have HV : Hid (attendanceTimeV N l f src q = (0, false)) := Lib.hid (att_no4 HY.out (by unfold attOk; rw [hfi, decide_eq_false (show ¬ 0 ≤ fi by omega)]; rfl))
                go_wp2
                go_ret2
                unfold AttIs
                rw [HV.out]
                exact ⟨rfl, bel_then HB3.out HB5.out⟩
              · by_cases hbs : Op.bytesLess p9.toList nm.toList = true
                · have HOK : Hid (okNm q (kp + 1) = true) := Lib.hid (by rw [HOK0.out]; unfold geS; rw [hbs]; rfl)
                  obtain ⟨i, rfl⟩ := Int.eq_ofNat_of_zero_le (show 0 ≤ fi by omega)
                  obtain ⟨a, ha, _⟩ := idxG_get hfi
                  have hif : i < f.length := (List.getElem?_eq_some_iff.1 ha).1
                  have hkey := rdyKey_at (ev := ev) ha
                  have hnn := HND.out _ (List.mem_of_getElem? ha)
                  obtain ⟨b, off, rfl, hbl, hcell⟩ := HCELL.out (by omega)
                  obtain ⟨_, _, d2, _, _⟩ := ap_at hcell (bel_then HB3.out HB5.out) hbl ha
                  obtain ⟨anm, akd, and', acr, asv⟩ := a
                  dsimp only at hkey hnn d2
                  obtain ⟨nd0, nd1⟩ := hnn
                  obtain ⟨p, rfl⟩ := Int.eq_ofNat_of_zero_le nd0
                  rw [Int.toNat_natCast] at hkey
                  have ct := (HB5.out.cell (p := ⟨h, p, none⟩) hhl).trans (own_cell HO6.out (show p < N by omega))
                  obtain ⟨t, ht⟩ : ∃ t, ev.getD p 0 = t := ⟨_, rfl⟩
                  rw [ht] at ct hkey
                  have HK := Lib.hid hkey
                  have HFI := Lib.hid hfi
                  have i0 : (0 : Int) ≤ (i : Int) := by omega
                  have i1 : (i : Int) < (f.length : Int) := by omega
                  have p0 : (0 : Int) ≤ (p : Int) := by omega
                  have p1 : (p : Int) < (N : Int) := by omega
                  clear ha hcell hkey ht hfi hneg nd1
                  by_cases ht0 : t < 0
                  · have HV : Hid (attendanceTimeV N l f src q = (0, false)) := Lib.hid (att_no4 HY.out (by rw [HEV.out]; unfold attOk; rw [HFI.out, HK.out, decide_eq_false (show ¬ 0 ≤ t by omega)]; simp))
                    go_wp2
                    go_ret2
                    unfold AttIs
                    rw [HV.out]
                    exact ⟨rfl, bel_then HB3.out HB5.out⟩
                  · have ht1 : 0 ≤ t := by omega
                    have HA2 := Lib.hid (attAll_snoc HY.out HALL.out (by unfold attOk; rw [HFI.out, HK.out, decide_eq_true ht1, decide_eq_true i0]; rfl))
                    have HM2 : Hid (attMax f ev (q.take (kp + 1 + 1)) = max m t) := Lib.hid (by rw [attMax_snoc HY.out, HMX.out, HFI.out, HK.out])
                    clear ht0
                    go_wp2
                    exact ⟨⟨kp + 1 + 1, max m t, by omega, by go_num, (by first | rfl | simp), HA2, HM2, Lib.hid (all_rng_succ HNA.out HOK.out), HB5⟩, by simp [intOf]; omega⟩
                · have hbs : Op.bytesLess p9.toList nm.toList = false := by simpa using hbs
                  have HV : Hid (attendanceTimeV N l f src q = (0, false)) := Lib.hid (att_no3 (names_no hlt (by rw [HOK0.out]; unfold geS; rw [hbs]; rfl)))
                  go_wp2
                  go_ret2
                  unfold AttIs
                  rw [HV.out]
                  exact ⟨rfl, bel_then HB3.out HB5.out⟩
          · obtain rfl : k = q.length := by omega
            have hall := HALL.out
            have hmx := HMX.out
            rw [List.take_length] at hall hmx
            have HV := Lib.hid (att_yes HASK.out hq0 HNA.out (by rw [HEV.out]; exact hall))
            have HMM := Lib.hid hmx
            clear hall hmx
            go_wp2
            go_ret2
            unfold AttIs
            rw [HV.out, HEV.out, HMM.out]
            exact ⟨rfl, bel_then HB3.out HBL.out⟩
      · have hqz : ((q.length : Int) == 0) = true := beq_iff_eq.2 (by omega)
        have HV := Lib.hid (att_no2 (n := N) (l := l) (f := f) (x := src) (show q.length = 0 by omega))
        go_wp2
        go_ret2
        unfold AttIs
        rw [HV.out]
        exact ⟨rfl, HB1.out⟩
    · have hx : inB x 0 (n - 1) = false := by simpa using hx
      have HV := Lib.hid (att_no1 (q := q) (l := l) (f := f) (x := x) (n := n) (by unfold askD; rw [hx]; simp))
      rw [hx]
      go_wp2
      go_ret2
      unfold AttIs
      rw [HV.out]
      exact ⟨rfl, HB1.out⟩
  · have hg : goodDs n l f = false := by simpa using hg
    have HV := Lib.hid (att_no1 (q := q) (x := x) (n := n) (l := l) (f := f) (by unfold askD; rw [hg]; rfl))
    rw [hg]
    go_wp2
    go_ret2
    unfold AttIs
    rw [HV.out]
    exact ⟨rfl, HB1.out⟩
end Go.Proofs.YthgegghdkoeofaaGreatDoor
