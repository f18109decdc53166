/-
  impl.fewestStations: the search by a function value that calls itself. spec.cvSearch and FewestStations on the reference's side. Nodes that are apart, in plain words; and rows of bools. (joined by pack.py: FewI FewS Apart)
-/
import Derived.Test.YtahehdgkbhjpoaaK11
import Derived.Test.YtahehdgkbhjpoaaK12
import Derived.Test.YtahehdgkbhjpoaaK7
import Derived.Deep.RegionHeld3
import Derived.Test.YtahehdgkbhjpoaaK9
namespace Go.Proofs.Ytahehdgkbhjpoaa
set_option linter.unusedVariables false
set_option linter.unusedSimpArgs false
open Go.RowKit

def natI (l : List Nat) : List Int := l.map fun (n : Nat) => (n : Int)
theorem natI_len (l : List Nat) : (natI l).length = l.length := by simp [natI]
theorem natI_get {l : List Nat} {i : Nat} (h : i < l.length) : (natI l)[i]? = some (l.getD i 0 : Int) := by
  have e : l[i]? = some (l.getD i 0) := by simp [List.getD, List.getElem?_eq_getElem h]
  simp only [natI, List.getElem?_map, e]; rfl
theorem setsL_natI (m : Nat) (ar : List Arc) (a : Int) : natI (setsL m ar a) = reachL m ar a := by simp [natI, setsL, reachL, Function.comp_def]

def srchF (B0 B1 B2 : Nat) : Value := .func (.func 110) #[] #[.pointer (some ⟨B0, 0, none⟩), .pointer (some ⟨B1, 0, none⟩), .pointer (some ⟨B2, 0, none⟩)]

theorem or_lt {a b : Nat} (ha : a < 16384) (hb : b < 16384) : a ||| b < 16384 := Nat.or_lt_two_pow (n := 14) ha hb

set_option maxRecDepth 100000 in
set_option maxHeartbeats 2000000 in
theorem searchI_c (B0 B1 B2 : Nat) (sets : List Nat) (all c : Nat) (A : Option Addr) (hall : all < 16384) (hsets : ∀ i, sets.getD i 0 < 16384) (hn : sets.length ≤ 14) : ∀ (left first cov : Nat) (w : World), left ≤ 6 → first ≤ sets.length → cov < 16384 →
    w.cell? ⟨B0, 0, none⟩ = some (.int .i64 all) → w.cell? ⟨B1, 0, none⟩ = some (.slice A sets.length c) → RdI w (.slice A sets.length c) (natI sets) → w.cell? ⟨B2, 0, none⟩ = some (srchF B0 B1 B2) →
    Calls Try.prog 110 #[.int .i64 first, .int .i64 left, .int .i64 cov, .pointer (some ⟨B0, 0, none⟩), .pointer (some ⟨B1, 0, none⟩), .pointer (some ⟨B2, 0, none⟩)] w (OwnIB (optL (implS sets all left first cov)) w) := by
  intro left
  induction left with
  | zero =>
    intro first cov w _ hf hcov c0 c1 hr c2
    by_cases h : cov = all
    · have e0 : ((cov : Int) == (all : Int)) = true := by simp; omega
      have HF : Hid (optL (implS sets all 0 first cov) = ([], true)) := Lib.hid (by unfold implS; rw [if_pos h]; rfl)
      clear h hr
      go_enter Try.func110, Try.ntmps110
      go_wp2_with fail
      go_quiet (fail)
      go_wp2
      go_ret2
      rw [HF.out]
      exact ⟨_, rfl, World.ownsRow_nil _ _ _ _, below_drewN (Below.refl _ _) _⟩
    · have e0 : ((cov : Int) == (all : Int)) = false := by simp; omega
      have HF : Hid (optL (implS sets all 0 first cov) = ([], false)) := Lib.hid (by unfold implS; rw [if_neg h]; rfl)
      clear h hr
      go_enter Try.func110, Try.ntmps110
      go_wp2_with fail
      go_quiet (fail)
      go_wp2
      go_ret2
      rw [HF.out]
      exact ⟨_, rfl, World.ownsRow_nil _ _ _ _, below_drewN (Below.refl _ _) _⟩
  | succ left ih =>
    intro first cov w hl hf hcov c0 c1 hr c2
    have IH := Lib.hid ih
    have HR := Lib.hid hr
    have HC0 := Lib.hid c0
    have HC1 := Lib.hid c1
    have HC2 := Lib.hid c2
    have hB0 : B0 < w.heap.size := World.block_lt_of_cell? w _ c0
    have hB1 : B1 < w.heap.size := World.block_lt_of_cell? w _ c1
    have hB2 : B2 < w.heap.size := World.block_lt_of_cell? w _ c2
    obtain ⟨A', c', hv', hcc, hm, hcl⟩ := hr
    injection hv' with hv1 hv2 hv3
    clear hv2
    subst hv1; subst hv3
    rw [maxLen_eq] at hm
    rw [natI_len] at hcl hcc
    have HCL := Lib.hid hcl
    have HSETS := Lib.hid hsets
    obtain ⟨lf, hlf⟩ : ∃ lf, left + 1 = lf := ⟨_, rfl⟩
    have e0 : (((lf : Int)) == 0) = false := by simp; omega
    have e5 : IntKind.i64.wrap ((lf : Int) - 1) = (left : Int) := by rw [IntKind.wrap_i64]; omega
    have hlf6 : lf ≤ 6 := by omega
    have hlf1 : (1 : Int) ≤ (lf : Int) := by omega
    obtain ⟨F, hF⟩ : ∃ F : Nat → Option (List Int), F = fun i => implS sets all left (i + 1) (cov ||| sets.getD i 0) := ⟨_, rfl⟩
    have HFE : Hid (implS sets all lf first cov = tryFrom F first (sets.length - first)) := Lib.hid (by rw [hF, ← hlf]; rfl)
    have HFI : Hid (∀ i, F i = implS sets all left (i + 1) (cov ||| sets.getD i 0)) := Lib.hid (fun i => by rw [hF])
    obtain ⟨i0, hi0, hz0, hz1, hz2⟩ := info_parts Try.infoInt
    have eg : ∀ args w, (callFunc 110 args).run Try.prog w = .ok (.enter 110 args) w := enters_of Try.func110 (by kernel_rfl) rfl
    rw [hlf]
    have HLF := Lib.hid hlf
    clear c0 c1 c2 hcl hF ih hsets hlf hl
    have hl : left ≤ 5 := by have := HLF.out; omega
    go_enter Try.func110, Try.ntmps110
    go_wp2_with fail
    go_loopw [11] (fun v11 wr => ∃ (i : Nat), i ≤ sets.length ∧ v11 = .int .i64 i ∧ Hid (tryFrom F first (sets.length - first) = tryFrom F i (sets.length - i)) ∧ Hid (Below w.heap.size w wr)) (fun v11 _ => sets.length - (intOf v11).toNat)
    case atStart => exact ⟨first, hf, rfl, Lib.hid rfl, Lib.hid (Below.refl _ _)⟩
    case round =>
      obtain ⟨i, hi, rfl, HT, HB⟩ := hrel
      obtain ⟨wA, rfl⟩ : ∃ wA : World, wA = wr := ⟨_, rfl⟩
      have hszA := HB.out.size
      have d1 := (HB.out.cell (p := ⟨B1, 0, none⟩) hB1).trans HC1.out
      by_cases hlt : i < sets.length
      · obtain ⟨b, off, rfl, hbl, hcell⟩ := HCL.out (by omega)
        have cx := cell_at hcell HB.out hbl (ints_get (natI_get hlt))
        have hx := HSETS.out i
        obtain ⟨x, hxx⟩ : ∃ x, sets.getD i 0 = x := ⟨_, rfl⟩
        rw [hxx] at cx hx
        obtain ⟨cv, hcv⟩ : ∃ cv, cov ||| x = cv := ⟨_, rfl⟩
        have hcvl := or_lt hcov hx
        rw [hcv] at hcvl
        have e3 : bits .or .i64 (cov : Int) (x : Int) = (cv : Int) := by rw [bits_or_i64_nat cov x (by omega) (by omega), hcv]
        have e4 : IntKind.i64.wrap ((i : Int) + 1) = ((i + 1 : Nat) : Int) := by rw [IntKind.wrap_i64]; omega
        have d2 := (HB.out.cell (p := ⟨B2, 0, none⟩) hB2).trans HC2.out
        have j0 : (0 : Int) ≤ (i : Int) := by omega
        have j1 : (i : Int) < (sets.length : Int) := by omega
        have hTi : tryFrom F i (sets.length - i) = match F i with | some r => some ((i : Int) :: r) | none => tryFrom F (i + 1) (sets.length - (i + 1)) := by
          obtain ⟨k, hk⟩ : ∃ k, sets.length - i = k + 1 := ⟨sets.length - i - 1, by omega⟩
          rw [hk, show sets.length - (i + 1) = k by omega]
          rfl
        have hFi := HFI.out i
        rw [hxx, hcv] at hFi
        rw [hFi] at hTi
        have HTI := Lib.hid hTi
        have IHI := Lib.hid (fun (W : World) (hW : Below w.heap.size w W) => IH.out (i + 1) cv W (by omega) (by omega) hcvl ((hW.cell (p := ⟨B0, 0, none⟩) hB0).trans HC0.out) ((hW.cell (p := ⟨B1, 0, none⟩) hB1).trans HC1.out) (rdi_below HR.out hW) ((hW.cell (p := ⟨B2, 0, none⟩) hB2).trans HC2.out))
        have hlen := implS_len sets all left (i + 1) cv
        unfold srchF at d2
        clear hTi hFi hxx hcv hcell
        cases hR : implS sets all left (i + 1) cv with
        | some r =>
          rw [hR] at HTI IHI
          have IH2 : Hid (∀ (W : World), Below w.heap.size w W → Calls Try.prog 110 #[.int .i64 (i + 1 : Nat), .int .i64 left, .int .i64 cv, .pointer (some ⟨B0, 0, none⟩), .pointer (some ⟨B1, 0, none⟩), .pointer (some ⟨B2, 0, none⟩)] W (OwnIB (r, true) W)) := IHI
          have hrl := hlen r hR
          clear IHI
          have HT' : Hid (implS sets all lf first cov = some ((i : Int) :: r)) := Lib.hid (by rw [HFE.out, HT.out, HTI.out])
          clear hR hlen
          go_wp2_with fail
          go_region_held3 (fun w' => w'.cell? ⟨B2, 0, none⟩ = some (.func (.func 110) #[] #[.pointer (some ⟨B0, 0, none⟩), .pointer (some ⟨B1, 0, none⟩), .pointer (some ⟨B2, 0, none⟩)]) ∧ w'.cell? ⟨B1, 0, none⟩ = some (.slice (some ⟨b, off, none⟩) sets.length c) ∧ w'.cell? ⟨b, off + i, none⟩ = some (.int .i64 x)) (first | go_keep | (go_split_ands; assumption))
            ((go_at_call 110; refine (IH2.out _ (bel_dr HB.out)).mono ?_; intro e w9 hh; obtain ⟨x9, rfl, ho9, hb9⟩ := ownIB_open hh; clear hh; have y2 := (hb9.cell (p := ⟨B2, 0, none⟩) (by show B2 < wA.heap.size; omega)).trans d2; have y1 := (hb9.cell (p := ⟨B1, 0, none⟩) (by show B1 < wA.heap.size; omega)).trans d1; have y0 := (hb9.cell (p := ⟨b, off + i, none⟩) (by show b < wA.heap.size; omega)).trans cx))
          have HB9 : Hid (Below w.heap.size w w9) := Lib.hid (bel_then (bel_dr HB.out) hb9)
          have HO9 := Lib.hid ho9
          clear ho9 hb9 y0 y1 y2
          go_wp2_with (at_builtin; refine wpList_app_rd _ rfl _ _ 27 rfl w.heap.size 3 i0 (.int .i64 0) 1 8 Try.underlying27 hi0 hz0 hz1 hz2 rfl (by decide) _ _ _ rfl (World.ownsRow_lit (size := 1) w9 #[.int .i64 i] 1 HB9.out.size (by rw [maxLen_eq]; omega) rfl) _ r.length (ints r) rfl (rd_below (own_rd HO9.out) (bel_al (Below.refl _ _) _)) (by rw [ints_len]; omega) (ints_one r) (by rw [maxLen_eq]; omega) (by omega) (by have := HB9.out.size; simp; omega) ?_; intro v' w' hown' hgrow _)
          go_ret2
          rw [HT'.out]
          refine ⟨_, rfl, ?_, bel_grown (bel_al HB9.out _) hgrow (fun q e => ?_)⟩
          · have e1 : (optL (some ((i : Int) :: r))).1.length = 1 + r.length := by simp [optL]; omega
            rw [e1]; exact hown'
          · have h : w9.heap.size = q := Option.some.inj e
            have := HB9.out.size
            omega
        | none =>
          rw [hR] at HTI IHI
          have IH2 : Hid (∀ (W : World), Below w.heap.size w W → Calls Try.prog 110 #[.int .i64 (i + 1 : Nat), .int .i64 left, .int .i64 cv, .pointer (some ⟨B0, 0, none⟩), .pointer (some ⟨B1, 0, none⟩), .pointer (some ⟨B2, 0, none⟩)] W (OwnIB ([], false) W)) := IHI
          clear IHI
          have HT' : Hid (tryFrom F first (sets.length - first) = tryFrom F (i + 1) (sets.length - (i + 1))) := Lib.hid (by rw [HT.out, HTI.out])
          clear hR hlen
          go_wp2_with fail
          go_region_held3 (fun w' => w'.cell? ⟨B2, 0, none⟩ = some (.func (.func 110) #[] #[.pointer (some ⟨B0, 0, none⟩), .pointer (some ⟨B1, 0, none⟩), .pointer (some ⟨B2, 0, none⟩)]) ∧ w'.cell? ⟨B1, 0, none⟩ = some (.slice (some ⟨b, off, none⟩) sets.length c) ∧ w'.cell? ⟨b, off + i, none⟩ = some (.int .i64 x)) (first | go_keep | (go_split_ands; assumption))
            ((go_at_call 110; refine (IH2.out _ (bel_dr HB.out)).mono ?_; intro e w9 hh; obtain ⟨x9, rfl, ho9, hb9⟩ := ownIB_open hh; clear hh; have y2 := (hb9.cell (p := ⟨B2, 0, none⟩) (by show B2 < wA.heap.size; omega)).trans d2; have y1 := (hb9.cell (p := ⟨B1, 0, none⟩) (by show B1 < wA.heap.size; omega)).trans d1; have y0 := (hb9.cell (p := ⟨b, off + i, none⟩) (by show b < wA.heap.size; omega)).trans cx))
          have HB9 : Hid (Below w.heap.size w w9) := Lib.hid (bel_then (bel_dr HB.out) hb9)
          clear ho9 hb9 y0 y1 y2 e4 e3
          go_wp2
          exact ⟨⟨i + 1, by omega, by go_num, HT', HB9⟩, by simp [intOf]; omega⟩
      · obtain rfl : i = sets.length := by omega
        have HT' : Hid (implS sets all lf first cov = none) := Lib.hid (by rw [HFE.out, HT.out, Nat.sub_self]; rfl)
        go_wp2
        go_ret2
        rw [HT'.out]
        exact ⟨_, rfl, World.ownsRow_nil _ _ _ _, HB.out⟩
end Go.Proofs.Ytahehdgkbhjpoaa

namespace Go.Proofs.Ytahehdgkbhjpoaa
set_option linter.unusedVariables false
set_option linter.unusedSimpArgs false
open Go.RowKit

set_option maxRecDepth 100000 in
set_option maxHeartbeats 2000000 in
theorem cvSearch_c (sets : List Nat) (all c : Nat) (A : Option Addr) (hall : all = 2 ^ sets.length - 1) (hsets : ∀ i, sets.getD i 0 < 16384) (hn : sets.length ≤ 14) : ∀ (left first cov : Nat) (w : World), left ≤ 6 → first ≤ sets.length → cov < 16384 → RdI w (.slice A sets.length c) (natI sets) →
    Calls Try.prog 71 #[.slice A sets.length c, .int .i64 first, .int .i64 left, .int .i64 cov] w (OwnIB (optL (specS sets all left first cov)) w) := by
  have hpw : 1 ≤ 2 ^ sets.length := Nat.one_le_two_pow
  have hpb := pow_bd hn
  obtain ⟨pw, hpwe⟩ : ∃ pw : Nat, 2 ^ sets.length = pw := ⟨_, rfl⟩
  rw [hpwe] at hall hpw hpb
  have e1 : IntKind.i64.wrap ((2 : Int) ^ sets.length) = (pw : Int) := by
    have : (2 : Int) ^ sets.length = (pw : Int) := by rw [← hpwe, Int.natCast_pow]; rfl
    rw [this, IntKind.wrap_i64]; omega
  have e2 : IntKind.u64.wrap (sets.length : Int) = (sets.length : Int) := by rw [IntKind.wrap_u64]; omega
  have hall' : (all : Int) = (pw : Int) - 1 := by omega
  have E1 := Lib.hid e1
  have E2 := Lib.hid e2
  have HALL := Lib.hid hall'
  clear hall e1 e2 hall' hpwe
  intro left
  induction left with
  | zero =>
    intro first cov w _ hf hcov hr
    obtain ⟨A', c', hv', hcc, hm, _⟩ := hr
    injection hv' with hv1 hv2 hv3
    clear hv2
    subst hv1; subst hv3
    rw [maxLen_eq] at hm
    rw [natI_len] at hcc
    have e1 := E1.out
    have e2 := E2.out
    by_cases h : cov = all
    · have e0 : ((cov : Int) == (pw : Int) - 1) = true := by have := HALL.out; simp; omega
      have HF : Hid (optL (specS sets all 0 first cov) = ([], true)) := Lib.hid (by unfold specS; rw [if_pos h]; rfl)
      clear h
      go_enter Try.func71, Try.ntmps71
      go_wp2
      go_ret2
      rw [HF.out]
      exact ⟨_, rfl, World.ownsRow_nil _ _ _ _, Below.refl _ _⟩
    · have e0 : ((cov : Int) == (pw : Int) - 1) = false := by have := HALL.out; simp; omega
      have HF : Hid (optL (specS sets all 0 first cov) = ([], false)) := Lib.hid (by unfold specS; rw [if_neg h]; rfl)
      clear h
      go_enter Try.func71, Try.ntmps71
      go_wp2
      go_ret2
      rw [HF.out]
      exact ⟨_, rfl, World.ownsRow_nil _ _ _ _, Below.refl _ _⟩
  | succ left ih =>
    intro first cov w hl hf hcov hr
    have HR := Lib.hid hr
    obtain ⟨A', c', hv', hcc, hm, hcl⟩ := hr
    injection hv' with hv1 hv2 hv3
    clear hv2
    subst hv1; subst hv3
    rw [maxLen_eq] at hm
    rw [natI_len] at hcl hcc
    have IH := Lib.hid ih
    have HCL := Lib.hid hcl
    have HSETS := Lib.hid hsets
    obtain ⟨lf, hlf⟩ : ∃ lf, left + 1 = lf := ⟨_, rfl⟩
    have e0 : (((lf : Int)) == 0) = false := by simp; omega
    have e5 : IntKind.i64.wrap ((lf : Int) - 1) = (left : Int) := by rw [IntKind.wrap_i64]; omega
    have hlf6 : lf ≤ 6 := by omega
    have hlf1 : (1 : Int) ≤ (lf : Int) := by omega
    have hl5 : left ≤ 5 := by omega
    have e1 := E1.out
    have e2 := E2.out
    obtain ⟨i0, hi0, hz0, hz1, hz2⟩ := info_parts Try.infoInt
    by_cases h : cov = all
    · have e9 : ((cov : Int) == (pw : Int) - 1) = true := by have := HALL.out; simp; omega
      have HF : Hid (optL (specS sets all lf first cov) = ([], false)) := Lib.hid (by rw [← hlf]; unfold specS; rw [if_pos h]; rfl)
      rw [hlf]
      clear h hlf hcl ih hl hsets
      go_enter Try.func71, Try.ntmps71
      go_wp2
      go_ret2
      rw [HF.out]
      exact ⟨_, rfl, World.ownsRow_nil _ _ _ _, Below.refl _ _⟩
    have e9 : ((cov : Int) == (pw : Int) - 1) = false := by have := HALL.out; simp; omega
    obtain ⟨F, hF⟩ : ∃ F : Nat → Option (List Int), F = fun i => specS sets all left (i + 1) (cov ||| sets.getD i 0) := ⟨_, rfl⟩
    have HFE : Hid (specS sets all lf first cov = tryFrom F first (sets.length - first)) := Lib.hid (by rw [hF, ← hlf]; show (if cov = all then none else _) = _; rw [if_neg h])
    have HFI : Hid (∀ i, F i = specS sets all left (i + 1) (cov ||| sets.getD i 0)) := Lib.hid (fun i => by rw [hF])
    rw [hlf]
    clear hcl hF ih hsets hlf hl h
    go_enter Try.func71, Try.ntmps71
    go_wp2_with fail
    clear e1 e2 e9
    go_loopw [10] (fun v11 wr => ∃ (i : Nat), i ≤ sets.length ∧ v11 = .int .i64 i ∧ Hid (tryFrom F first (sets.length - first) = tryFrom F i (sets.length - i)) ∧ Hid (Below w.heap.size w wr)) (fun v11 _ => sets.length - (intOf v11).toNat)
    case atStart => exact ⟨first, hf, rfl, Lib.hid rfl, Lib.hid (Below.refl _ _)⟩
    case round =>
      obtain ⟨i, hi, rfl, HT, HB⟩ := hrel
      obtain ⟨wA, rfl⟩ : ∃ wA : World, wA = wr := ⟨_, rfl⟩
      by_cases hlt : i < sets.length
      · obtain ⟨b, off, rfl, hbl, hcell⟩ := HCL.out (by omega)
        have cx := cell_at hcell HB.out hbl (ints_get (natI_get hlt))
        have hx := HSETS.out i
        obtain ⟨x, hxx⟩ : ∃ x, sets.getD i 0 = x := ⟨_, rfl⟩
        rw [hxx] at cx hx
        obtain ⟨cv, hcv⟩ : ∃ cv, cov ||| x = cv := ⟨_, rfl⟩
        have hcvl := or_lt hcov hx
        rw [hcv] at hcvl
        have e3 : bits .or .i64 (cov : Int) (x : Int) = (cv : Int) := by rw [bits_or_i64_nat cov x (by omega) (by omega), hcv]
        have j0 : (0 : Int) ≤ (i : Int) := by omega
        have j1 : (i : Int) < (sets.length : Int) := by omega
        have hTi : tryFrom F i (sets.length - i) = match F i with | some r => some ((i : Int) :: r) | none => tryFrom F (i + 1) (sets.length - (i + 1)) := by
          obtain ⟨k, hk⟩ : ∃ k, sets.length - i = k + 1 := ⟨sets.length - i - 1, by omega⟩
          rw [hk, show sets.length - (i + 1) = k by omega]
          rfl
        have hFi := HFI.out i
        rw [hxx, hcv] at hFi
        rw [hFi] at hTi
        have HTI := Lib.hid hTi
        have IHI := Lib.hid (fun (W : World) (hW : Below w.heap.size w W) => IH.out (i + 1) cv W (by omega) (by omega) hcvl (rdi_below HR.out hW))
        have hlen := specS_len sets all left (i + 1) cv
        clear hTi hFi hxx hcv hcell
        cases hR : specS sets all left (i + 1) cv with
        | some r =>
          rw [hR] at HTI IHI
          have IH2 : Hid (∀ (W : World), Below w.heap.size w W → Calls Try.prog 71 #[.slice (some ⟨b, off, none⟩) sets.length c, .int .i64 (i + 1 : Nat), .int .i64 left, .int .i64 cv] W (OwnIB (r, true) W)) := IHI
          have hrl := hlen r hR
          have HT' : Hid (specS sets all lf first cov = some ((i : Int) :: r)) := Lib.hid (by rw [HFE.out, HT.out, HTI.out])
          clear hR hlen IHI
          go_wp2_with fail
          refine (IH2.out _ HB.out).mono ?_; intro e w9 hh; obtain ⟨x9, rfl, ho9, hb9⟩ := ownIB_open hh; clear hh
          have HB9 : Hid (Below w.heap.size w w9) := Lib.hid (bel_then HB.out hb9)
          have HO9 := Lib.hid ho9
          clear ho9 hb9
          go_wp2_with (at_builtin; refine wpList_app_rd _ rfl _ _ 27 rfl w.heap.size 3 i0 (.int .i64 0) 1 8 Try.underlying27 hi0 hz0 hz1 hz2 rfl (by decide) _ _ _ rfl (World.ownsRow_lit (size := 1) w9 #[.int .i64 i] 1 HB9.out.size (by rw [maxLen_eq]; omega) rfl) _ r.length (ints r) rfl (rd_below (own_rd HO9.out) (bel_al (Below.refl _ _) _)) (by rw [ints_len]; omega) (ints_one r) (by rw [maxLen_eq]; omega) (by omega) (by have := HB9.out.size; simp; omega) ?_; intro v' w' hown' hgrow _)
          go_ret2
          rw [HT'.out]
          refine ⟨_, rfl, ?_, bel_grown (bel_al HB9.out _) hgrow (fun q e => ?_)⟩
          · have e1 : (optL (some ((i : Int) :: r))).1.length = 1 + r.length := by simp [optL]; omega
            rw [e1]; exact hown'
          · have h : w9.heap.size = q := Option.some.inj e
            have := HB9.out.size
            omega
        | none =>
          rw [hR] at HTI IHI
          have IH2 : Hid (∀ (W : World), Below w.heap.size w W → Calls Try.prog 71 #[.slice (some ⟨b, off, none⟩) sets.length c, .int .i64 (i + 1 : Nat), .int .i64 left, .int .i64 cv] W (OwnIB ([], false) W)) := IHI
          clear IHI
          have HT' : Hid (tryFrom F first (sets.length - first) = tryFrom F (i + 1) (sets.length - (i + 1))) := Lib.hid (by rw [HT.out, HTI.out])
          clear hR hlen
          go_wp2_with fail
          refine (IH2.out _ HB.out).mono ?_; intro e w9 hh; obtain ⟨x9, rfl, ho9, hb9⟩ := ownIB_open hh; clear hh
          have HB9 : Hid (Below w.heap.size w w9) := Lib.hid (bel_then HB.out hb9)
          clear ho9 hb9 e3
          go_wp2
          exact ⟨⟨i + 1, by omega, by go_num, HT', HB9⟩, by simp [intOf]; omega⟩
      · obtain rfl : i = sets.length := by omega
        have HT' : Hid (specS sets all lf first cov = none) := Lib.hid (by rw [HFE.out, HT.out, Nat.sub_self]; rfl)
        go_wp2
        go_ret2
        rw [HT'.out]
        exact ⟨_, rfl, World.ownsRow_nil _ _ _ _, HB.out⟩

def fewestStationsW (m : Nat) (l : List St) (a : Int) : List Int × Bool := optL (firstN (fun j => implS (setsL m (arcs l) a) (2 ^ m - 1) j 0 0) 1 6)
def fewestStationsV (n : Int) (l : List St) (a : Int) : List Int × Bool := if (goodTown n l && inB a 0 36000) = true then fewestStationsW n.toNat l a else ([], false)
theorem fewestStationsV_len (n : Int) (l : List St) (a : Int) : (fewestStationsV n l a).1.length ≤ 1000000 := by
  unfold fewestStationsV
  split
  · unfold fewestStationsW
    have h := firstN_len (f := fun j => implS (setsL n.toNat (arcs l) a) (2 ^ n.toNat - 1) j 0 0) (fun j r h => implS_len _ _ _ _ _ _ h) 6 1
    cases hr : firstN (fun j => implS (setsL n.toNat (arcs l) a) (2 ^ n.toNat - 1) j 0 0) 1 6 with
    | none => simp [optL]
    | some r => have := h r hr; simp [optL]; omega
  · simp
theorem firstN_step (f : Nat → Option (List Int)) (k n : Nat) : firstN f k (n + 1) = match f k with | some r => some r | none => firstN f (k + 1) n := rfl
theorem sets_lt (m : Nat) (hm : m ≤ 14) (ar : List Arc) (a : Int) : ∀ i, (setsL m ar a).getD i 0 < 16384 := by
  intro i
  rcases Nat.lt_or_ge i m with h | h
  · rw [setsL_get h]; have := reachM_lt m ar a i; have := pow_bd hm; omega
  · have : (setsL m ar a).getD i 0 = 0 := by simp [setsL, List.getD, h]
    omega

set_option maxRecDepth 100000 in
set_option maxHeartbeats 1000000 in
theorem fewestStationsS_c (n : Int) (s : Value) (l : List St) (a : Int) (w : World) (hr : Rd w s l.length (l.flatMap St.cells)) :
    Calls Try.prog 19 #[.agg #[.int .i64 n, s], .int .i64 a] w (OwnIB (fewestStationsV n l a) w) := by
  have HR := Lib.hid hr
  have hbx : ∀ o, Below w.heap.size w (w.alloc o) := fun o => bel_al (Below.refl _ _) o
  obtain ⟨As, cs, rfl, _⟩ := hr
  by_cases hg : goodTown n l = true
  · by_cases hl : inB a 0 36000 = true
    · obtain ⟨m, rfl⟩ := nat_of (goodTown_true hg).1
      have HF : Hid (fewestStationsV m l a = fewestStationsW m l a) := Lib.hid (by unfold fewestStationsV; rw [hg, hl, Int.toNat_natCast]; rfl)
      obtain ⟨hm1, hm2, _, _⟩ := goodTown_true hg
      obtain ⟨hlim0, hlim1⟩ := inB_true hl
      have HG := Lib.hid hg
      have HL := Lib.hid hl
      clear hg hl
      go_enter Try.func19, Try.ntmps19
      go_wp2_with fail
      generalize hw1 : World.alloc w _ = w1
      have k0 : w1.cell? ⟨w.heap.size, 0, none⟩ = some (.int .i64 m) := by subst hw1; simp [go_sem]
      have k1 : w1.cell? ⟨w.heap.size, 1, none⟩ = some (.slice As l.length cs) := by subst hw1; simp [go_sem]
      have hb1 : Below w.heap.size w w1 := by subst hw1; exact hbx _
      have hz : w.heap.size < w1.heap.size := by subst hw1; simp
      clear hw1 hbx
      refine (toGood_c m _ l _ (rd_below HR.out hb1)).mono ?_; rw [HG.out]; rintro e w2 ⟨rfl, hb2⟩
      have hz2 : w.heap.size < w2.heap.size := Nat.lt_of_lt_of_le hz hb2.size
      have z0 := (hb2.cell (p := ⟨w.heap.size, 0, none⟩) hz).trans k0
      have z1 := (hb2.cell (p := ⟨w.heap.size, 1, none⟩) hz).trans k1
      have HB := Lib.hid (bel_then hb1 hb2)
      have HR2 := Lib.hid (rd_below HR.out (bel_then hb1 hb2))
      clear k0 k1 hb1 hb2 hz
      go_wp2_with fail
      refine (dsLimit_c a _).mono ?_; rw [HL.out]; rintro e w2 ⟨rfl, rfl⟩
      go_wp2_with fail
      refine (cvReach_c m _ l a _ HG.out HR2.out).mono ?_; rintro e w4 ⟨xr, rfl, hor, hb4⟩
      rw [reachL_len] at hor
      obtain ⟨gr, capr, rfl, hbr, hrl, hcapr, _⟩ := own_shape hor (by omega)
      have HBB := Lib.hid (bel_then HB.out hb4)
      have HOR : Hid (RdI w4 (.slice (some ⟨gr, 0, none⟩) m capr) (natI (setsL m (arcs l) a))) := Lib.hid (by rw [setsL_natI]; unfold RdI; rw [reachL_len]; exact own_rd hor)
      have hSL := setsL_len m (arcs l) a
      have HFS := Lib.hid (few_all m (arcs l) a (by omega) 6)
      obtain ⟨SS, hSS⟩ : ∃ SS, setsL m (arcs l) a = SS := ⟨_, rfl⟩
      have HST := Lib.hid (sets_lt m (by omega) (arcs l) a)
      have HWV : Hid (fewestStationsW m l a = optL (firstN (fun j => specS SS (2 ^ m - 1) j 0 0) 1 6)) := Lib.hid (by unfold fewestStationsW; rw [← HFS.out, hSS])
      rw [hSS] at HOR HST hSL
      obtain ⟨G, hG⟩ : ∃ G : Nat → Option (List Int), G = fun j => specS SS (2 ^ m - 1) j 0 0 := ⟨_, rfl⟩
      have HGE : Hid (∀ j, G j = specS SS (2 ^ m - 1) j 0 0) := Lib.hid (fun j => by rw [hG])
      rw [← hG] at HWV
      have HSL := Lib.hid hSL
      clear hor hb4 z0 z1 HFS hSS hG hSL
      go_wp2_with fail
      go_loopw [7] (fun v7 wr => ∃ (k : Nat), 1 ≤ k ∧ k ≤ 7 ∧ v7 = .int .i64 k ∧ Hid (firstN G 1 6 = firstN G k (7 - k)) ∧ Hid (Below w4.heap.size w4 wr)) (fun v7 _ => 7 - (intOf v7).toNat)
      case atStart => exact ⟨1, by omega, by omega, by go_num, Lib.hid rfl, Lib.hid (Below.refl _ _)⟩
      case round =>
        obtain ⟨k, hk1, hk7, rfl, HK, HBL⟩ := hrel
        obtain ⟨wA, rfl⟩ : ∃ wA : World, wA = wr := ⟨_, rfl⟩
        by_cases hlt : k ≤ 6
        · have hst : firstN G k (7 - k) = match G k with | some r => some r | none => firstN G (k + 1) (7 - (k + 1)) := by
            rw [show 7 - k = (7 - (k + 1)) + 1 by omega, firstN_step]
          have hc := cvSearch_c SS (2 ^ m - 1) capr (some ⟨gr, 0, none⟩) (by rw [HSL.out]) HST.out (by rw [HSL.out]; omega) k 0 0 wA hlt (Nat.zero_le _) (by omega) (by rw [HSL.out]; exact rdi_below HOR.out HBL.out)
          rw [← HGE.out k, HSL.out] at hc
          cases hR : G k with
          | some r =>
            rw [hR] at hc hst
            have hc2 : Calls Try.prog 71 #[.slice (some ⟨gr, 0, none⟩) m capr, .int .i64 (0 : Nat), .int .i64 k, .int .i64 (0 : Nat)] wA (OwnIB (r, true) wA) := hc
            have HC := Lib.hid hc2
            have HV : Hid (fewestStationsW m l a = (r, true)) := Lib.hid (by rw [HWV.out, HK.out, hst]; rfl)
            clear hc hc2 hst hR
            go_wp2_with fail
            refine HC.out.mono ?_; intro e w9 hh; obtain ⟨x9, rfl, ho9, hb9⟩ := ownIB_open hh; clear hh
            have HO9 := Lib.hid ho9
            have HB9 := Lib.hid (bel_then HBL.out hb9)
            have hsb := HBB.out.size
            have hsl := HBL.out.size
            clear ho9 hb9
            go_wp2
            go_ret2
            rw [HF.out, HV.out]
            refine ⟨_, rfl, ?_, bel_then HBB.out HB9.out⟩
            exact own_base HO9.out (by omega)
          | none =>
            rw [hR] at hc hst
            have hc2 : Calls Try.prog 71 #[.slice (some ⟨gr, 0, none⟩) m capr, .int .i64 (0 : Nat), .int .i64 k, .int .i64 (0 : Nat)] wA (OwnIB ([], false) wA) := hc
            have HC := Lib.hid hc2
            have HK' : Hid (firstN G 1 6 = firstN G (k + 1) (7 - (k + 1))) := Lib.hid (by rw [HK.out, hst])
            clear hc hc2 hst hR
            go_wp2_with fail
            refine HC.out.mono ?_; intro e w9 hh; obtain ⟨x9, rfl, ho9, hb9⟩ := ownIB_open hh; clear hh
            have HB9 := Lib.hid (bel_then HBL.out hb9)
            clear ho9 hb9
            go_wp2
            exact ⟨⟨k + 1, by omega, by omega, by go_num, HK', HB9⟩, by simp [intOf]; omega⟩
        · obtain rfl : k = 7 := by omega
          have HV : Hid (fewestStationsW m l a = ([], false)) := Lib.hid (by rw [HWV.out, HK.out]; rfl)
          go_wp2
          go_ret2
          rw [HF.out, HV.out]
          exact ⟨_, rfl, World.ownsRow_nil _ _ _ _, bel_then HBB.out HBL.out⟩
    · have hl : inB a 0 36000 = false := by simpa using hl
      have HF : Hid (fewestStationsV n l a = ([], false)) := Lib.hid (by unfold fewestStationsV; rw [hl, Bool.and_false]; rfl)
      have HG := Lib.hid hg
      have HL := Lib.hid hl
      clear hg hl
      go_enter Try.func19, Try.ntmps19
      go_wp2_with fail
      refine (toGood_c n _ l _ (rd_below HR.out (hbx _))).mono ?_; rw [HG.out]; rintro e w2 ⟨rfl, hb2⟩
      go_wp2_with fail
      refine (dsLimit_c a _).mono ?_; rw [HL.out]; rintro e w2 ⟨rfl, rfl⟩
      go_wp2
      go_ret2
      rw [HF.out]
      exact ⟨_, rfl, World.ownsRow_nil _ _ _ _, bel_then (hbx _) hb2⟩
  · have hg : goodTown n l = false := by simpa using hg
    have HF : Hid (fewestStationsV n l a = ([], false)) := Lib.hid (by unfold fewestStationsV; rw [hg]; rfl)
    have HG := Lib.hid hg
    clear hg
    go_enter Try.func19, Try.ntmps19
    go_wp2_with fail
    refine (toGood_c n _ l _ (rd_below HR.out (hbx _))).mono ?_; rw [HG.out]; rintro e w2 ⟨rfl, hb2⟩
    go_wp2
    go_ret2
    rw [HF.out]
    exact ⟨_, rfl, World.ownsRow_nil _ _ _ _, bel_then (hbx _) hb2⟩
end Go.Proofs.Ytahehdgkbhjpoaa

namespace Go.Proofs.Ytahehdgkbhjpoaa
set_option linter.unusedVariables false
set_option linter.unusedSimpArgs false
open Go.RowKit

def apartP (m : Nat) (ar : List Arc) (a : Int) (out : List Int) (k : Nat) : Bool := out.all fun t => (List.range m).all fun r => !(reachP m ar a r k && reachP m ar a r t.toNat)
def apartL (m : Nat) (ar : List Arc) (a : Int) : Nat → List Int
  | 0 => []
  | k + 1 => if apartP m ar a (apartL m ar a k) k = true then apartL m ar a k ++ [(k : Int)] else apartL m ar a k
theorem apartL_mem {m : Nat} {ar : List Arc} {a : Int} : ∀ {k : Nat} {x : Int}, x ∈ apartL m ar a k → ∃ i : Nat, x = (i : Int) ∧ i < k := by
  intro k
  induction k with
  | zero => intro x h; simp [apartL] at h
  | succ k ih =>
    intro x h
    unfold apartL at h
    split at h
    · rcases List.mem_append.1 h with h | h
      · obtain ⟨i, h1, h2⟩ := ih h; exact ⟨i, h1, by omega⟩
      · simp at h; exact ⟨k, h, by omega⟩
    · obtain ⟨i, h1, h2⟩ := ih h; exact ⟨i, h1, by omega⟩
theorem apartL_len (m : Nat) (ar : List Arc) (a : Int) : ∀ k, (apartL m ar a k).length ≤ k := by
  intro k
  induction k with
  | zero => simp [apartL]
  | succ k ih =>
    unfold apartL
    split
    · rw [List.length_append]; simp; omega
    · omega
theorem reachP_sym {m : Nat} {l : List St} (hA : ∀ x ∈ arcs l, x.1 < m ∧ x.2.1 < m ∧ 0 < x.2.2) (a : Int) {u v : Nat} (hu : u < m) (hv : v < m) : reachP m (arcs l) a u v = reachP m (arcs l) a v u := by
  unfold reachP; rw [dist_sym hA hu hv]
/-- Which nodes are taken: those that some node of the list reaches. -/
def Taken (m : Nat) (ar : List Arc) (a : Int) (out : List Int) (tk : List Bool) : Prop := tk.length = m ∧ ∀ r, r < m → tk.getD r false = out.any fun t => reachP m ar a t.toNat r
def nearL (m : Nat) (ar : List Arc) (a : Int) (k : Nat) : List Int := selI (reachP m ar a k) m
def tkP (tk : List Bool) (x : Int) : Bool := tk.getD x.toNat false
theorem apart_iff {m : Nat} {l : List St} (hA : ∀ x ∈ arcs l, x.1 < m ∧ x.2.1 < m ∧ 0 < x.2.2) {a : Int} {out : List Int} {tk : List Bool} {k : Nat} (hk : k < m) (ho : ∀ x ∈ out, ∃ i : Nat, x = (i : Int) ∧ i < m) (ht : Taken m (arcs l) a out tk) :
    (nearL m (arcs l) a k).any (tkP tk) = !apartP m (arcs l) a out k := by
  have e : ((nearL m (arcs l) a k).any (tkP tk) = true) ↔ ¬ (apartP m (arcs l) a out k = true) := by
    constructor
    · intro h hap
      obtain ⟨x, hx, hp⟩ := List.any_eq_true.1 h
      obtain ⟨r, rfl, hr, hk'⟩ := selI_mem.1 hx
      unfold tkP at hp
      rw [Int.toNat_natCast, ht.2 r hr] at hp
      obtain ⟨t, ht1, ht2⟩ := List.any_eq_true.1 hp
      obtain ⟨i, rfl, hi⟩ := ho t ht1
      have h1 := List.all_eq_true.1 (List.all_eq_true.1 hap _ ht1) r (List.mem_range.2 hr)
      rw [Int.toNat_natCast] at ht2 h1
      rw [reachP_sym hA a hr hk, hk', reachP_sym hA a hr hi, ht2] at h1
      simp at h1
    · intro h
      unfold apartP at h
      rw [List.all_eq_true] at h
      have : ∃ t ∈ out, ¬ ((List.range m).all (fun r => !(reachP m (arcs l) a r k && reachP m (arcs l) a r t.toNat)) = true) := by
        refine Classical.byContradiction (fun hn => h (fun t ht1 => Classical.byContradiction (fun hn2 => hn ⟨t, ht1, hn2⟩)))
      obtain ⟨t, ht1, ht2⟩ := this
      rw [List.all_eq_true] at ht2
      have : ∃ r, r < m ∧ (reachP m (arcs l) a r k && reachP m (arcs l) a r t.toNat) = true := by
        refine Classical.byContradiction (fun hn => ht2 (fun r hr => ?_))
        have hr' := List.mem_range.1 hr
        cases hb : (reachP m (arcs l) a r k && reachP m (arcs l) a r t.toNat) with
        | false => rfl
        | true => exact absurd ⟨r, hr', hb⟩ hn
      obtain ⟨r, hr, hb⟩ := this
      obtain ⟨i, rfl, hi⟩ := ho t ht1
      rw [Int.toNat_natCast, Bool.and_eq_true] at hb
      refine List.any_eq_true.2 ⟨(r : Int), selI_mem.2 ⟨r, rfl, hr, ?_⟩, ?_⟩
      · rw [← reachP_sym hA a hr hk]; exact hb.1
      · unfold tkP
        rw [Int.toNat_natCast, ht.2 r hr]
        refine List.any_eq_true.2 ⟨(i : Int), ht1, ?_⟩
        rw [Int.toNat_natCast, ← reachP_sym hA a hr hi]; exact hb.2
  rw [Bool.eq_iff_iff, e]; simp
theorem taken_start (m : Nat) (ar : List Arc) (a : Int) : Taken m ar a [] (List.replicate m false) := by
  refine ⟨by simp, fun r hr => ?_⟩
  simp [List.getD, hr]
/-- The marks while the near nodes are being taken. -/
def TakeInv (m : Nat) (tk d : List Bool) (near : List Int) (i : Nat) : Prop := d.length = m ∧ ∀ r, r < m → d.getD r false = (tk.getD r false || decide ((r : Int) ∈ near.take i))
theorem getD_setB (d : List Bool) (i j : Nat) (x : Bool) : (d.set i x).getD j false = if i = j ∧ j < d.length then x else d.getD j false := by
  simp only [List.getD, List.getElem?_set]
  by_cases h : i = j
  · subst h
    by_cases h2 : i < d.length
    · simp [h2]
    · simp [h2]
  · simp [h]
theorem take_step {m : Nat} {tk d : List Bool} {near : List Int} {i x : Nat} (h : TakeInv m tk d near i) (hx : near[i]? = some (x : Int)) (hxm : x < m) : TakeInv m tk (d.set x true) near (i + 1) := by
  refine ⟨by simp [h.1], fun r hr => ?_⟩
  rw [getD_setB, take_succ_of hx]
  by_cases e : x = r
  · subst e
    rw [if_pos ⟨rfl, by rw [h.1]; exact hxm⟩]; simp
  · rw [if_neg (fun h => e h.1), h.2 r hr]
    have : ((r : Int) ∈ near.take i ++ [(x : Int)]) ↔ (r : Int) ∈ near.take i := by
      rw [List.mem_append]
      refine ⟨fun h1 => ?_, Or.inl⟩
      rcases h1 with h1 | h1
      · exact h1
      · simp at h1; omega
    rw [decide_eq_decide.2 this]
theorem take_end {m : Nat} {ar : List Arc} {a : Int} {out : List Int} {tk d : List Bool} {k : Nat} (ht : Taken m ar a out tk) (h : TakeInv m tk d (nearL m ar a k) (nearL m ar a k).length) : Taken m ar a (out ++ [(k : Int)]) d := by
  refine ⟨h.1, fun r hr => ?_⟩
  rw [h.2 r hr, ht.2 r hr, List.take_length, List.any_append]
  congr 1
  simp only [List.any_cons, List.any_nil, Bool.or_false, Int.toNat_natCast]
  cases hp : reachP m ar a k r with
  | true => exact decide_eq_true (selI_mem.2 ⟨r, rfl, hr, hp⟩)
  | false =>
    refine decide_eq_false (fun hm => ?_)
    obtain ⟨i, h1, h2, h3⟩ := selI_mem.1 hm
    obtain rfl : r = i := by omega
    rw [hp] at h3; cases h3

/-! ### Rows of bools -/
def boolsV (l : List Bool) : List Value := l.map Value.bool
theorem boolsV_len (l : List Bool) : (boolsV l).length = l.length := by simp [boolsV]
theorem ownB_cell {w : World} {base : Nat} {e : TypeId} {g n cap : Nat} {d : List Bool} (h : w.ownsRow base e 1 (.slice (some ⟨g, 0, none⟩) n cap) n (boolsV d)) {j : Nat} (hj : j < n) : w.cell? ⟨g, j, none⟩ = some (.bool (d.getD j false)) := by
  have hl := h.1
  rw [boolsV_len] at hl
  have hx : d[j]? = some (d.getD j false) := by simp [List.getD, List.getElem?_eq_getElem (show j < d.length by omega)]
  exact (h.cellAt j (by omega)).trans (by simp only [boolsV, List.getElem?_map, hx]; rfl)
theorem ownB_set {w : World} {base : Nat} {e : TypeId} {g n cap : Nat} {d : List Bool} (h : w.ownsRow base e 1 (.slice (some ⟨g, 0, none⟩) n cap) n (boolsV d)) (j : Nat) (x : Bool) : (w.setCell ⟨g, j, none⟩ (.bool x)).ownsRow base e 1 (.slice (some ⟨g, 0, none⟩) n cap) n (boolsV (d.set j x)) := by
  have := (h.stored j (.bool x)).1
  unfold boolsV at this ⊢
  rwa [← List.map_set] at this
theorem Try.infoBool : (Try.prog.info? 4).map (fun i => (i.zero, i.size, i.bytes)) = some (some (.bool false), 1, 1) := by kernel_rfl
theorem made_bools (n : Nat) : (madeCells (Value.bool false).cells (n * 1)).toList = boolsV (List.replicate n false) := by
  rw [made_eq (sz := 1) rfl (by omega)]
  induction n with
  | zero => rfl
  | succ n ih => rw [List.replicate_succ, List.flatten_cons, ih, List.replicate_succ]; rfl
theorem apartF_c (x : Nat) (g n cap Bt base : Nat) (tk : List Bool) (W : World) (c0 : W.cell? ⟨Bt, 0, none⟩ = some (.slice (some ⟨g, 0, none⟩) n cap)) (ho : W.ownsRow base 4 1 (.slice (some ⟨g, 0, none⟩) n cap) n (boolsV tk)) (hx : x < n) (hn : n ≤ 14) :
    Calls Try.prog 74 #[.int .i64 x, .pointer (some ⟨Bt, 0, none⟩)] W fun e w' => e = .returned (.bool (tk.getD x false)) ∧ W = w' := by
  have c1 := ownB_cell ho hx
  obtain ⟨b, hb⟩ : ∃ b, tk.getD x false = b := ⟨_, rfl⟩
  rw [hb] at c1 ⊢
  have i0 : (0 : Int) ≤ (x : Int) := by omega
  have i1 : (x : Int) < (n : Int) := by omega
  clear ho hb
  go_enter Try.func74, Try.ntmps74
  go_wp2
  go_ret
  exact ⟨rfl, rfl⟩

def apartNodesW (m : Nat) (l : List St) (a : Int) : List Int × Bool := (apartL m (arcs l) a m, true)
def apartNodesV (n : Int) (l : List St) (a : Int) : List Int × Bool := if (goodTown n l && inB a 0 36000) = true then apartNodesW n.toNat l a else ([], false)
theorem apartNodesV_len (n : Int) (l : List St) (a : Int) : (apartNodesV n l a).1.length ≤ 1000000 := by
  unfold apartNodesV
  split
  · rename_i h
    rw [Bool.and_eq_true] at h
    have h1 := goodTown_true h.1
    have h2 := apartL_len n.toNat (arcs l) a n.toNat
    unfold apartNodesW
    dsimp only
    omega
  · simp
end Go.Proofs.Ytahehdgkbhjpoaa
