/-
  spec.cvSearch and FewestStations on the reference's side.
-/
import Derived.Test.YtemcdgchleijbaaFewI
namespace Go.Proofs.Ytemcdgchleijbaa
open Go.RowKit

set_option maxRecDepth 100000 in
set_option maxHeartbeats 2000000 in
theorem cvSearch_c (sets : List Nat) (all c : Nat) (A : Option Addr) (hall : all = 2 ^ sets.length - 1) (hsets : ∀ i, sets.getD i 0 < 16384) (hn : sets.length ≤ 14) : ∀ (left first cov : Nat) (w : World), left ≤ 6 → first ≤ sets.length → cov < 16384 → RdI w (.slice A sets.length c) (natI sets) →
    Calls Try.prog 66 #[.slice A sets.length c, .int .i64 first, .int .i64 left, .int .i64 cov] w (OwnIB (optL (specS sets all left first cov)) w) := by
  have hpw : 1 ≤ 2 ^ sets.length := Nat.one_le_two_pow
  have hpb := pow_bd hn
  obtain ⟨pw, hpwe⟩ : ∃ pw : Nat, 2 ^ sets.length = pw := ⟨_, rfl⟩
  rw [hpwe] at hall hpw hpb
  have e1 : IntKind.i64.wrap ((2 : Int) ^ sets.length) = (pw : Int) := by
    have : (2 : Int) ^ sets.length = (pw : Int) := by rw [← hpwe, Int.natCast_pow]; rfl
    rw [this, IntKind.wrap_i64]; omega
  have e2 : IntKind.u64.wrap (sets.length : Int) = (sets.length : Int) := by rw [IntKind.wrap_u64]; omega
  have hall' : (all : Int) = (pw : Int) - 1 := by omega
  have E1 := Lib.hid e1
  have E2 := Lib.hid e2
  have HALL := Lib.hid hall'
  clear hall e1 e2 hall' hpwe
  intro left
  induction left with
  | zero =>
    intro first cov w _ hf hcov hr
    obtain ⟨A', c', hv', hcc, hm, _⟩ := hr
    injection hv' with hv1 hv2 hv3
    clear hv2
    subst hv1; subst hv3
    rw [maxLen_eq] at hm
    rw [natI_len] at hcc
    have e1 := E1.out
    have e2 := E2.out
    by_cases h : cov = all
    · have e0 : ((cov : Int) == (pw : Int) - 1) = true := by have := HALL.out; simp; omega
      have HF : Hid (optL (specS sets all 0 first cov) = ([], true)) := Lib.hid (by unfold specS; rw [if_pos h]; rfl)
      clear h
      go_enter Try.func66, Try.ntmps66
      go_wp2
      go_ret2
      rw [HF.out]
      exact ⟨_, rfl, World.ownsRow_nil _ _ _ _, Below.refl _ _⟩
    · have e0 : ((cov : Int) == (pw : Int) - 1) = false := by have := HALL.out; simp; omega
      have HF : Hid (optL (specS sets all 0 first cov) = ([], false)) := Lib.hid (by unfold specS; rw [if_neg h]; rfl)
      clear h
      go_enter Try.func66, Try.ntmps66
      go_wp2
      go_ret2
      rw [HF.out]
      exact ⟨_, rfl, World.ownsRow_nil _ _ _ _, Below.refl _ _⟩
  | succ left ih =>
    intro first cov w hl hf hcov hr
    have HR := Lib.hid hr
    obtain ⟨A', c', hv', hcc, hm, hcl⟩ := hr
    injection hv' with hv1 hv2 hv3
    clear hv2
    subst hv1; subst hv3
    rw [maxLen_eq] at hm
    rw [natI_len] at hcl hcc
    have IH := Lib.hid ih
    have HCL := Lib.hid hcl
    have HSETS := Lib.hid hsets
    obtain ⟨lf, hlf⟩ : ∃ lf, left + 1 = lf := ⟨_, rfl⟩
    have e0 : (((lf : Int)) == 0) = false := by simp; omega
    have e5 : IntKind.i64.wrap ((lf : Int) - 1) = (left : Int) := by rw [IntKind.wrap_i64]; omega
    have hlf6 : lf ≤ 6 := by omega
    have hlf1 : (1 : Int) ≤ (lf : Int) := by omega
    have hl5 : left ≤ 5 := by omega
    have e1 := E1.out
    have e2 := E2.out
    obtain ⟨i0, hi0, hz0, hz1, hz2⟩ := info_parts Try.infoInt
    by_cases h : cov = all
    · have e9 : ((cov : Int) == (pw : Int) - 1) = true := by have := HALL.out; simp; omega
      have HF : Hid (optL (specS sets all lf first cov) = ([], false)) := Lib.hid (by rw [← hlf]; unfold specS; rw [if_pos h]; rfl)
      rw [hlf]
      clear h hlf hcl ih hl hsets
      go_enter Try.func66, Try.ntmps66
      go_wp2
      go_ret2
      rw [HF.out]
      exact ⟨_, rfl, World.ownsRow_nil _ _ _ _, Below.refl _ _⟩
    have e9 : ((cov : Int) == (pw : Int) - 1) = false := by have := HALL.out; simp; omega
    obtain ⟨F, hF⟩ : ∃ F : Nat → Option (List Int), F = fun i => specS sets all left (i + 1) (cov ||| sets.getD i 0) := ⟨_, rfl⟩
    have HFE : Hid (specS sets all lf first cov = tryFrom F first (sets.length - first)) := Lib.hid (by rw [hF, ← hlf]; show (if cov = all then none else _) = _; rw [if_neg h])
    have HFI : Hid (∀ i, F i = specS sets all left (i + 1) (cov ||| sets.getD i 0)) := Lib.hid (fun i => by rw [hF])
    rw [hlf]
    clear hcl hF ih hsets hlf hl h
    go_enter Try.func66, Try.ntmps66
    go_wp2_with fail
    clear e1 e2 e9
    go_loopw [10] (fun v11 wr => ∃ (i : Nat), i ≤ sets.length ∧ v11 = .int .i64 i ∧ Hid (tryFrom F first (sets.length - first) = tryFrom F i (sets.length - i)) ∧ Hid (Below w.heap.size w wr)) (fun v11 _ => sets.length - (intOf v11).toNat)
    case atStart => exact ⟨first, hf, rfl, Lib.hid rfl, Lib.hid (Below.refl _ _)⟩
    case round =>
      obtain ⟨i, hi, rfl, HT, HB⟩ := hrel
      obtain ⟨wA, rfl⟩ : ∃ wA : World, wA = wr := ⟨_, rfl⟩
      by_cases hlt : i < sets.length
      · obtain ⟨b, off, rfl, hbl, hcell⟩ := HCL.out (by omega)
        have cx := cell_at hcell HB.out hbl (ints_get (natI_get hlt))
        have hx := HSETS.out i
        obtain ⟨x, hxx⟩ : ∃ x, sets.getD i 0 = x := ⟨_, rfl⟩
        rw [hxx] at cx hx
        obtain ⟨cv, hcv⟩ : ∃ cv, cov ||| x = cv := ⟨_, rfl⟩
        have hcvl := or_lt hcov hx
        rw [hcv] at hcvl
        have e3 : bits .or .i64 (cov : Int) (x : Int) = (cv : Int) := by rw [bits_or_i64_nat cov x (by omega) (by omega), hcv]
        have j0 : (0 : Int) ≤ (i : Int) := by omega
        have j1 : (i : Int) < (sets.length : Int) := by omega
        have hTi : tryFrom F i (sets.length - i) = match F i with | some r => some ((i : Int) :: r) | none => tryFrom F (i + 1) (sets.length - (i + 1)) := by
          obtain ⟨k, hk⟩ : ∃ k, sets.length - i = k + 1 := ⟨sets.length - i - 1, by omega⟩
          rw [hk, show sets.length - (i + 1) = k by omega]
          rfl
        have hFi := HFI.out i
        rw [hxx, hcv] at hFi
        rw [hFi] at hTi
        have HTI := Lib.hid hTi
        have IHI := Lib.hid (fun (W : World) (hW : Below w.heap.size w W) => IH.out (i + 1) cv W (by omega) (by omega) hcvl (rdi_below HR.out hW))
        have hlen := specS_len sets all left (i + 1) cv
        clear hTi hFi hxx hcv hcell
        cases hR : specS sets all left (i + 1) cv with
        | some r =>
          rw [hR] at HTI IHI
          have IH2 : Hid (∀ (W : World), Below w.heap.size w W → Calls Try.prog 66 #[.slice (some ⟨b, off, none⟩) sets.length c, .int .i64 (i + 1 : Nat), .int .i64 left, .int .i64 cv] W (OwnIB (r, true) W)) := IHI
          have hrl := hlen r hR
          have HT' : Hid (specS sets all lf first cov = some ((i : Int) :: r)) := Lib.hid (by rw [HFE.out, HT.out, HTI.out])
          clear hR hlen IHI
          go_wp2_with fail
          refine (IH2.out _ HB.out).mono ?_; intro e w9 hh; obtain ⟨x9, rfl, ho9, hb9⟩ := ownIB_open hh; clear hh
          have HB9 : Hid (Below w.heap.size w w9) := Lib.hid (bel_then HB.out hb9)
          have HO9 := Lib.hid ho9
          clear ho9 hb9
          go_wp2_with (at_builtin; refine wpList_app_rd _ rfl _ _ 25 rfl w.heap.size 3 i0 (.int .i64 0) 1 8 Try.underlying25 hi0 hz0 hz1 hz2 rfl (by decide) _ _ _ rfl (World.ownsRow_lit (size := 1) w9 #[.int .i64 i] 1 HB9.out.size (by rw [maxLen_eq]; omega) rfl) _ r.length (ints r) rfl (rd_below (own_rd HO9.out) (bel_al (Below.refl _ _) _)) (by rw [ints_len]; omega) (ints_one r) (by rw [maxLen_eq]; omega) (by omega) (by have := HB9.out.size; simp; omega) ?_; intro v' w' hown' hgrow _)
          go_ret2
          rw [HT'.out]
          refine ⟨_, rfl, ?_, bel_grown (bel_al HB9.out _) hgrow (fun q e => ?_)⟩
          · have e1 : (optL (some ((i : Int) :: r))).1.length = 1 + r.length := by simp [optL]; omega
            rw [e1]; exact hown'
          · have h : w9.heap.size = q := Option.some.inj e
            have := HB9.out.size
            omega
        | none =>
          rw [hR] at HTI IHI
          have IH2 : Hid (∀ (W : World), Below w.heap.size w W → Calls Try.prog 66 #[.slice (some ⟨b, off, none⟩) sets.length c, .int .i64 (i + 1 : Nat), .int .i64 left, .int .i64 cv] W (OwnIB ([], false) W)) := IHI
          clear IHI
          have HT' : Hid (tryFrom F first (sets.length - first) = tryFrom F (i + 1) (sets.length - (i + 1))) := Lib.hid (by rw [HT.out, HTI.out])
          clear hR hlen
          go_wp2_with fail
          refine (IH2.out _ HB.out).mono ?_; intro e w9 hh; obtain ⟨x9, rfl, ho9, hb9⟩ := ownIB_open hh; clear hh
          have HB9 : Hid (Below w.heap.size w w9) := Lib.hid (bel_then HB.out hb9)
          clear ho9 hb9 e3
          go_wp2
          exact ⟨⟨i + 1, by omega, by go_num, HT', HB9⟩, by simp [intOf]; omega⟩
      · obtain rfl : i = sets.length := by omega
        have HT' : Hid (specS sets all lf first cov = none) := Lib.hid (by rw [HFE.out, HT.out, Nat.sub_self]; rfl)
        go_wp2
        go_ret2
        rw [HT'.out]
        exact ⟨_, rfl, World.ownsRow_nil _ _ _ _, HB.out⟩

def fewestStationsW (m : Nat) (l : List St) (a : Int) : List Int × Bool := optL (firstN (fun j => implS (setsL m (arcs l) a) (2 ^ m - 1) j 0 0) 1 6)
def fewestStationsV (n : Int) (l : List St) (a : Int) : List Int × Bool := if (goodTown n l && inB a 0 36000) = true then fewestStationsW n.toNat l a else ([], false)
theorem fewestStationsV_len (n : Int) (l : List St) (a : Int) : (fewestStationsV n l a).1.length ≤ 1000000 := by
  unfold fewestStationsV
  split
  · unfold fewestStationsW
    have h := firstN_len (f := fun j => implS (setsL n.toNat (arcs l) a) (2 ^ n.toNat - 1) j 0 0) (fun j r h => implS_len _ _ _ _ _ _ h) 6 1
    cases hr : firstN (fun j => implS (setsL n.toNat (arcs l) a) (2 ^ n.toNat - 1) j 0 0) 1 6 with
    | none => simp [optL]
    | some r => have := h r hr; simp [optL]; omega
  · simp
theorem firstN_step (f : Nat → Option (List Int)) (k n : Nat) : firstN f k (n + 1) = match f k with | some r => some r | none => firstN f (k + 1) n := rfl
theorem sets_lt (m : Nat) (hm : m ≤ 14) (ar : List Arc) (a : Int) : ∀ i, (setsL m ar a).getD i 0 < 16384 := by
  intro i
  rcases Nat.lt_or_ge i m with h | h
  · rw [setsL_get h]; have := reachM_lt m ar a i; have := pow_bd hm; omega
  · have : (setsL m ar a).getD i 0 = 0 := by simp [setsL, List.getD, h]
    omega

set_option maxRecDepth 100000 in
set_option maxHeartbeats 1000000 in
theorem fewestStationsS_c (n : Int) (s : Value) (l : List St) (a : Int) (w : World) (hr : Rd w s l.length (l.flatMap St.cells)) :
    Calls Try.prog 31 #[.agg #[.int .i64 n, s], .int .i64 a] w (OwnIB (fewestStationsV n l a) w) := by
  have HR := Lib.hid hr
  have hbx : ∀ o, Below w.heap.size w (w.alloc o) := fun o => bel_al (Below.refl _ _) o
  obtain ⟨As, cs, rfl, _⟩ := hr
  by_cases hg : goodTown n l = true
  · by_cases hl : inB a 0 36000 = true
    · obtain ⟨m, rfl⟩ := nat_of (goodTown_true hg).1
      have HF : Hid (fewestStationsV m l a = fewestStationsW m l a) := Lib.hid (by unfold fewestStationsV; rw [hg, hl, Int.toNat_natCast]; rfl)
      obtain ⟨hm1, hm2, _, _⟩ := goodTown_true hg
      obtain ⟨hlim0, hlim1⟩ := inB_true hl
      have HG := Lib.hid hg
      have HL := Lib.hid hl
      clear hg hl
      go_enter Try.func31, Try.ntmps31
      go_wp2_with fail
      generalize hw1 : World.alloc w _ = w1
      have k0 : w1.cell? ⟨w.heap.size, 0, none⟩ = some (.int .i64 m) := by subst hw1; simp [go_sem]
      have k1 : w1.cell? ⟨w.heap.size, 1, none⟩ = some (.slice As l.length cs) := by subst hw1; simp [go_sem]
      have hb1 : Below w.heap.size w w1 := by subst hw1; exact hbx _
      have hz : w.heap.size < w1.heap.size := by subst hw1; simp
      clear hw1 hbx
      refine (toGood_c m _ l _ (rd_below HR.out hb1)).mono ?_; rw [HG.out]; rintro e w2 ⟨rfl, hb2⟩
      have hz2 : w.heap.size < w2.heap.size := Nat.lt_of_lt_of_le hz hb2.size
      have z0 := (hb2.cell (p := ⟨w.heap.size, 0, none⟩) hz).trans k0
      have z1 := (hb2.cell (p := ⟨w.heap.size, 1, none⟩) hz).trans k1
      have HB := Lib.hid (bel_then hb1 hb2)
      have HR2 := Lib.hid (rd_below HR.out (bel_then hb1 hb2))
      clear k0 k1 hb1 hb2 hz
      go_wp2_with fail
      refine (dsLimit_c a _).mono ?_; rw [HL.out]; rintro e w2 ⟨rfl, rfl⟩
      go_wp2_with fail
      refine (cvReach_c m _ l a _ HG.out HR2.out).mono ?_; rintro e w4 ⟨xr, rfl, hor, hb4⟩
      rw [reachL_len] at hor
      obtain ⟨gr, capr, rfl, hbr, hrl, hcapr, _⟩ := own_shape hor (by omega)
      have HBB := Lib.hid (bel_then HB.out hb4)
      have HOR : Hid (RdI w4 (.slice (some ⟨gr, 0, none⟩) m capr) (natI (setsL m (arcs l) a))) := Lib.hid (by rw [setsL_natI]; unfold RdI; rw [reachL_len]; exact own_rd hor)
      have hSL := setsL_len m (arcs l) a
      have HFS := Lib.hid (few_all m (arcs l) a (by omega) 6)
      obtain ⟨SS, hSS⟩ : ∃ SS, setsL m (arcs l) a = SS := ⟨_, rfl⟩
      have HST := Lib.hid (sets_lt m (by omega) (arcs l) a)
      have HWV : Hid (fewestStationsW m l a = optL (firstN (fun j => specS SS (2 ^ m - 1) j 0 0) 1 6)) := Lib.hid (by unfold fewestStationsW; rw [← HFS.out, hSS])
      rw [hSS] at HOR HST hSL
      obtain ⟨G, hG⟩ : ∃ G : Nat → Option (List Int), G = fun j => specS SS (2 ^ m - 1) j 0 0 := ⟨_, rfl⟩
      have HGE : Hid (∀ j, G j = specS SS (2 ^ m - 1) j 0 0) := Lib.hid (fun j => by rw [hG])
      rw [← hG] at HWV
      have HSL := Lib.hid hSL
      clear hor hb4 z0 z1 HFS hSS hG hSL
      go_wp2_with fail
      go_loopw [7] (fun v7 wr => ∃ (k : Nat), 1 ≤ k ∧ k ≤ 7 ∧ v7 = .int .i64 k ∧ Hid (firstN G 1 6 = firstN G k (7 - k)) ∧ Hid (Below w4.heap.size w4 wr)) (fun v7 _ => 7 - (intOf v7).toNat)
      case atStart => exact ⟨1, by omega, by omega, by go_num, Lib.hid rfl, Lib.hid (Below.refl _ _)⟩
      case round =>
        obtain ⟨k, hk1, hk7, rfl, HK, HBL⟩ := hrel
        obtain ⟨wA, rfl⟩ : ∃ wA : World, wA = wr := ⟨_, rfl⟩
        by_cases hlt : k ≤ 6
        · have hst : firstN G k (7 - k) = match G k with | some r => some r | none => firstN G (k + 1) (7 - (k + 1)) := by
            rw [show 7 - k = (7 - (k + 1)) + 1 by omega, firstN_step]
          have hc := cvSearch_c SS (2 ^ m - 1) capr (some ⟨gr, 0, none⟩) (by rw [HSL.out]) HST.out (by rw [HSL.out]; omega) k 0 0 wA hlt (Nat.zero_le _) (by omega) (by rw [HSL.out]; exact rdi_below HOR.out HBL.out)
          rw [← HGE.out k, HSL.out] at hc
          cases hR : G k with
          | some r =>
            rw [hR] at hc hst
            have hc2 : Calls Try.prog 66 #[.slice (some ⟨gr, 0, none⟩) m capr, .int .i64 (0 : Nat), .int .i64 k, .int .i64 (0 : Nat)] wA (OwnIB (r, true) wA) := hc
            have HC := Lib.hid hc2
            have HV : Hid (fewestStationsW m l a = (r, true)) := Lib.hid (by rw [HWV.out, HK.out, hst]; rfl)
            clear hc hc2 hst hR
            go_wp2_with fail
            refine HC.out.mono ?_; intro e w9 hh; obtain ⟨x9, rfl, ho9, hb9⟩ := ownIB_open hh; clear hh
            have HO9 := Lib.hid ho9
            have HB9 := Lib.hid (bel_then HBL.out hb9)
            have hsb := HBB.out.size
            have hsl := HBL.out.size
            clear ho9 hb9
            go_wp2
            go_ret2
            rw [HF.out, HV.out]
            refine ⟨_, rfl, ?_, bel_then HBB.out HB9.out⟩
            exact own_base HO9.out (by omega)
          | none =>
            rw [hR] at hc hst
            have hc2 : Calls Try.prog 66 #[.slice (some ⟨gr, 0, none⟩) m capr, .int .i64 (0 : Nat), .int .i64 k, .int .i64 (0 : Nat)] wA (OwnIB ([], false) wA) := hc
            have HC := Lib.hid hc2
            have HK' : Hid (firstN G 1 6 = firstN G (k + 1) (7 - (k + 1))) := Lib.hid (by rw [HK.out, hst])
            clear hc hc2 hst hR
            go_wp2_with fail
            refine HC.out.mono ?_; intro e w9 hh; obtain ⟨x9, rfl, ho9, hb9⟩ := ownIB_open hh; clear hh
            have HB9 := Lib.hid (bel_then HBL.out hb9)
            clear ho9 hb9
            go_wp2
            exact ⟨⟨k + 1, by omega, by omega, by go_num, HK', HB9⟩, by simp [intOf]; omega⟩
        · obtain rfl : k = 7 := by omega
          have HV : Hid (fewestStationsW m l a = ([], false)) := Lib.hid (by rw [HWV.out, HK.out]; rfl)
          go_wp2
          go_ret2
          rw [HF.out, HV.out]
          exact ⟨_, rfl, World.ownsRow_nil _ _ _ _, bel_then HBB.out HBL.out⟩
    · have hl : inB a 0 36000 = false := by simpa using hl
      have HF : Hid (fewestStationsV n l a = ([], false)) := Lib.hid (by unfold fewestStationsV; rw [hl, Bool.and_false]; rfl)
      have HG := Lib.hid hg
      have HL := Lib.hid hl
      clear hg hl
      go_enter Try.func31, Try.ntmps31
      go_wp2_with fail
      refine (toGood_c n _ l _ (rd_below HR.out (hbx _))).mono ?_; rw [HG.out]; rintro e w2 ⟨rfl, hb2⟩
      go_wp2_with fail
      refine (dsLimit_c a _).mono ?_; rw [HL.out]; rintro e w2 ⟨rfl, rfl⟩
      go_wp2
      go_ret2
      rw [HF.out]
      exact ⟨_, rfl, World.ownsRow_nil _ _ _ _, bel_then (hbx _) hb2⟩
  · have hg : goodTown n l = false := by simpa using hg
    have HF : Hid (fewestStationsV n l a = ([], false)) := Lib.hid (by unfold fewestStationsV; rw [hg]; rfl)
    have HG := Lib.hid hg
    clear hg
    go_enter Try.func31, Try.ntmps31
    go_wp2_with fail
    refine (toGood_c n _ l _ (rd_below HR.out (hbx _))).mono ?_; rw [HG.out]; rintro e w2 ⟨rfl, hb2⟩
    go_wp2
    go_ret2
    rw [HF.out]
    exact ⟨_, rfl, World.ownsRow_nil _ _ _ _, bel_then (hbx _) hb2⟩
end Go.Proofs.Ytemcdgchleijbaa
