/-
  impl.fewestPlaces: the search by a function value that calls itself (printed by gen_ladv.py).
-/
import Derived.Test.YtibkadkodblefaaDoorLadZ
import Derived.Test.YtibkadkodblefaaDoorBitw
import Derived.Test.YtibkadkodblefaaDoorLaw
import Derived.Deep.RegionHeld3
namespace Go.Proofs.YtibkadkodblefaaDoor
open Go.RowKit

def natI (l : List Nat) : List Int := l.map fun (n : Nat) => (n : Int)
theorem natI_len (l : List Nat) : (natI l).length = l.length := by simp [natI]
theorem natI_get {l : List Nat} {i : Nat} (h : i < l.length) : (natI l)[i]? = some (l.getD i 0 : Int) := by
  have e : l[i]? = some (l.getD i 0) := by simp [List.getD, List.getElem?_eq_getElem h]
  simp only [natI, List.getElem?_map, e]; rfl
def optL : Option (List Int) → List Int × Bool
  | some r => (r, true)
  | none => ([], false)
theorem gof_len {f : Nat → Option (List Int)} {n : Nat} (hf : ∀ j r, f j = some r → r.length = n) : ∀ (j k : Nat) (r : List Int), gof f k j = some r → r.length = n + 1 := by
  intro j
  induction j with
  | zero => intro k r h; cases h
  | succ j ih =>
    intro k r h
    cases hk : f k with
    | some T =>
      rw [gof_yes hk] at h
      obtain rfl := Option.some.inj h
      rw [List.length_cons, hf k T hk]
    | none => rw [gof_no hk] at h; exact ih (k + 1) r h
theorem srchS_len (M : List Nat) (all : Nat) : ∀ (n k r : Nat) (T : List Int), srchS M all n k r = some T → T.length = n := by
  intro n
  induction n with
  | zero => intro k r T h; simp only [srchS] at h; split at h <;> simp at h; subst h; rfl
  | succ n ih => intro k r T h; simp only [srchS] at h; exact gof_len (fun j T' h' => ih _ _ _ h') _ _ _ h
def srchF (B0 B1 B2 : Nat) : Value := .func (.func 94) #[] #[.pointer (some ⟨B0, 0, none⟩), .pointer (some ⟨B1, 0, none⟩), .pointer (some ⟨B2, 0, none⟩)]

theorem or_lt {a b : Nat} (ha : a < 16384) (hb : b < 16384) : a ||| b < 16384 := Nat.or_lt_two_pow (n := 14) ha hb

set_option maxRecDepth 100000 in
set_option maxHeartbeats 2000000 in
theorem searchI_c (B0 B1 B2 : Nat) (sets : List Nat) (all c : Nat) (A : Option Addr) (hall : all < 16384) (hsets : ∀ i, sets.getD i 0 < 16384) (hn : sets.length ≤ 14) : ∀ (left first cov : Nat) (w : World), left ≤ 6 → first ≤ sets.length → cov < 16384 →
    w.cell? ⟨B0, 0, none⟩ = some (.int .i64 all) → w.cell? ⟨B1, 0, none⟩ = some (.slice A sets.length c) → RdI w (.slice A sets.length c) (natI sets) → w.cell? ⟨B2, 0, none⟩ = some (srchF B0 B1 B2) →
    Calls Tryd.prog 94 #[.int .i64 first, .int .i64 left, .int .i64 cov, .pointer (some ⟨B0, 0, none⟩), .pointer (some ⟨B1, 0, none⟩), .pointer (some ⟨B2, 0, none⟩)] w (OwnIB (optL (srchS sets all left first cov)) w) := by
  intro left
  induction left with
  | zero =>
    intro first cov w _ hf hcov c0 c1 hr c2
    by_cases h : cov = all
    · have e0 : ((cov : Int) == (all : Int)) = true := by simp; omega
      have HF : Hid (optL (srchS sets all 0 first cov) = ([], true)) := Lib.hid (by unfold srchS; rw [if_pos h]; rfl)
      clear h hr
      go_enter Tryd.func94, Tryd.ntmps94
      go_wp2_with fail
      go_quiet (fail)
      go_wp2
      go_ret2
      rw [HF.out]
      exact ⟨_, rfl, World.ownsRow_nil _ _ _ _, below_drewN (Below.refl _ _) _⟩
    · have e0 : ((cov : Int) == (all : Int)) = false := by simp; omega
      have HF : Hid (optL (srchS sets all 0 first cov) = ([], false)) := Lib.hid (by unfold srchS; rw [if_neg h]; rfl)
      clear h hr
      go_enter Tryd.func94, Tryd.ntmps94
      go_wp2_with fail
      go_quiet (fail)
      go_wp2
      go_ret2
      rw [HF.out]
      exact ⟨_, rfl, World.ownsRow_nil _ _ _ _, below_drewN (Below.refl _ _) _⟩
  | succ left ih =>
    intro first cov w hl hf hcov c0 c1 hr c2
    have IH := Lib.hid ih
    have HR := Lib.hid hr
    have HC0 := Lib.hid c0
    have HC1 := Lib.hid c1
    have HC2 := Lib.hid c2
    have hB0 : B0 < w.heap.size := World.block_lt_of_cell? w _ c0
    have hB1 : B1 < w.heap.size := World.block_lt_of_cell? w _ c1
    have hB2 : B2 < w.heap.size := World.block_lt_of_cell? w _ c2
    obtain ⟨A', c', hv', hcc, hm, hcl⟩ := hr
    injection hv' with hv1 hv2 hv3
    clear hv2
    subst hv1; subst hv3
    rw [maxLen_eq] at hm
    rw [natI_len] at hcl hcc
    have HCL := Lib.hid hcl
    have HSETS := Lib.hid hsets
    obtain ⟨lf, hlf⟩ : ∃ lf, left + 1 = lf := ⟨_, rfl⟩
    have e0 : (((lf : Int)) == 0) = false := by simp; omega
    have e5 : IntKind.i64.wrap ((lf : Int) - 1) = (left : Int) := by rw [IntKind.wrap_i64]; omega
    have hlf6 : lf ≤ 6 := by omega
    have hlf1 : (1 : Int) ≤ (lf : Int) := by omega
    obtain ⟨F, hF⟩ : ∃ F : Nat → Option (List Int), F = fun i => srchS sets all left (i + 1) (cov ||| sets.getD i 0) := ⟨_, rfl⟩
    have HFE : Hid (srchS sets all lf first cov = gof F first (sets.length - first)) := Lib.hid (by rw [hF, ← hlf]; rfl)
    have HFI : Hid (∀ i, F i = srchS sets all left (i + 1) (cov ||| sets.getD i 0)) := Lib.hid (fun i => by rw [hF])
    obtain ⟨i0, hi0, hz0, hz1, hz2⟩ := info_parts Tryd.infoInt
    have eg : ∀ args w, (callFunc 94 args).run Tryd.prog w = .ok (.enter 94 args) w := enters_of Tryd.func94 (by kernel_rfl) rfl
    rw [hlf]
    have HLF := Lib.hid hlf
    clear c0 c1 c2 hcl hF ih hsets hlf hl
    have hl : left ≤ 5 := by have := HLF.out; omega
    go_enter Tryd.func94, Tryd.ntmps94
    go_wp2_with fail
    go_loopw [11] (fun v11 wr => ∃ (i : Nat), i ≤ sets.length ∧ v11 = .int .i64 i ∧ Hid (gof F first (sets.length - first) = gof F i (sets.length - i)) ∧ Hid (Below w.heap.size w wr)) (fun v11 _ => sets.length - (intOf v11).toNat)
    case atStart => exact ⟨first, hf, rfl, Lib.hid rfl, Lib.hid (Below.refl _ _)⟩
    case round =>
      obtain ⟨i, hi, rfl, HT, HB⟩ := hrel
      obtain ⟨wA, rfl⟩ : ∃ wA : World, wA = wr := ⟨_, rfl⟩
      have hszA := HB.out.size
      have d1 := (HB.out.cell (p := ⟨B1, 0, none⟩) hB1).trans HC1.out
      by_cases hlt : i < sets.length
      · obtain ⟨b, off, rfl, hbl, hcell⟩ := HCL.out (by omega)
        have cx := cell_at hcell HB.out hbl (ints_get (natI_get hlt))
        have hx := HSETS.out i
        obtain ⟨x, hxx⟩ : ∃ x, sets.getD i 0 = x := ⟨_, rfl⟩
        rw [hxx] at cx hx
        obtain ⟨cv, hcv⟩ : ∃ cv, cov ||| x = cv := ⟨_, rfl⟩
        have hcvl := or_lt hcov hx
        rw [hcv] at hcvl
        have e3 : bits .or .i64 (cov : Int) (x : Int) = (cv : Int) := by rw [bits_or_i64_nat cov x (by omega) (by omega), hcv]
        have e4 : IntKind.i64.wrap ((i : Int) + 1) = ((i + 1 : Nat) : Int) := by rw [IntKind.wrap_i64]; omega
        have d2 := (HB.out.cell (p := ⟨B2, 0, none⟩) hB2).trans HC2.out
        have e9 : IntKind.i64.wrap (50 * (i : Int)) = 50 * (i : Int) := by rw [IntKind.wrap_i64]; omega
        have j0 : (0 : Int) ≤ (i : Int) := by omega
        have j1 : (i : Int) < (sets.length : Int) := by omega
        have hTi : gof F i (sets.length - i) = match F i with | some r => some (50 * (i : Int) :: r) | none => gof F (i + 1) (sets.length - (i + 1)) := by
          obtain ⟨k, hk⟩ : ∃ k, sets.length - i = k + 1 := ⟨sets.length - i - 1, by omega⟩
          rw [hk, show sets.length - (i + 1) = k by omega]
          rfl
        have hFi := HFI.out i
        rw [hxx, hcv] at hFi
        rw [hFi] at hTi
        have HTI := Lib.hid hTi
        have IHI := Lib.hid (fun (W : World) (hW : Below w.heap.size w W) => IH.out (i + 1) cv W (by omega) (by omega) hcvl ((hW.cell (p := ⟨B0, 0, none⟩) hB0).trans HC0.out) ((hW.cell (p := ⟨B1, 0, none⟩) hB1).trans HC1.out) (rdi_below HR.out hW) ((hW.cell (p := ⟨B2, 0, none⟩) hB2).trans HC2.out))
        have hlen := srchS_len sets all left (i + 1) cv
        unfold srchF at d2
        clear hTi hFi hxx hcv hcell
        cases hR : srchS sets all left (i + 1) cv with
        | some r =>
          rw [hR] at HTI IHI
          have IH2 : Hid (∀ (W : World), Below w.heap.size w W → Calls Tryd.prog 94 #[.int .i64 (i + 1 : Nat), .int .i64 left, .int .i64 cv, .pointer (some ⟨B0, 0, none⟩), .pointer (some ⟨B1, 0, none⟩), .pointer (some ⟨B2, 0, none⟩)] W (OwnIB (r, true) W)) := IHI
          have hrl := hlen r hR
          clear IHI
          have HT' : Hid (srchS sets all lf first cov = some (50 * (i : Int) :: r)) := Lib.hid (by rw [HFE.out, HT.out, HTI.out])
          clear hR hlen
          go_wp2_with fail
          go_region_held3 (fun w' => w'.cell? ⟨B2, 0, none⟩ = some (.func (.func 94) #[] #[.pointer (some ⟨B0, 0, none⟩), .pointer (some ⟨B1, 0, none⟩), .pointer (some ⟨B2, 0, none⟩)]) ∧ w'.cell? ⟨B1, 0, none⟩ = some (.slice (some ⟨b, off, none⟩) sets.length c) ∧ w'.cell? ⟨b, off + i, none⟩ = some (.int .i64 x)) (first | go_keep | (go_split_ands; assumption))
            ((go_at_call 94; refine (IH2.out _ (bel_dr HB.out)).mono ?_; intro e w9 hh; obtain ⟨x9, rfl, ho9, hb9⟩ := ownIB_open hh; clear hh; have y2 := (hb9.cell (p := ⟨B2, 0, none⟩) (by show B2 < wA.heap.size; omega)).trans d2; have y1 := (hb9.cell (p := ⟨B1, 0, none⟩) (by show B1 < wA.heap.size; omega)).trans d1; have y0 := (hb9.cell (p := ⟨b, off + i, none⟩) (by show b < wA.heap.size; omega)).trans cx))
          have HB9 : Hid (Below w.heap.size w w9) := Lib.hid (bel_then (bel_dr HB.out) hb9)
          have HO9 := Lib.hid ho9
          clear ho9 hb9 y0 y1 y2
          go_wp2_with (at_builtin; refine wpList_app_rd _ rfl _ _ 22 rfl w.heap.size 3 i0 (.int .i64 0) 1 8 Tryd.underlying22 hi0 hz0 hz1 hz2 rfl (by decide) _ _ _ rfl (World.ownsRow_lit (size := 1) w9 #[.int .i64 (50 * (i : Int))] 1 HB9.out.size (by rw [maxLen_eq]; omega) rfl) _ r.length (ints r) rfl (rd_below (own_rd HO9.out) (bel_al (Below.refl _ _) _)) (by rw [ints_len]; omega) (ints_one r) (by rw [maxLen_eq]; omega) (by omega) (by have := HB9.out.size; simp; omega) ?_; intro v' w' hown' hgrow _)
          go_ret2
          rw [HT'.out]
          refine ⟨_, rfl, ?_, bel_grown (bel_al HB9.out _) hgrow (fun q e => ?_)⟩
          · have e1 : (optL (some (50 * (i : Int) :: r))).1.length = 1 + r.length := by simp [optL]; omega
            rw [e1]; exact hown'
          · have h : w9.heap.size = q := Option.some.inj e
            have := HB9.out.size
            omega
        | none =>
          rw [hR] at HTI IHI
          have IH2 : Hid (∀ (W : World), Below w.heap.size w W → Calls Tryd.prog 94 #[.int .i64 (i + 1 : Nat), .int .i64 left, .int .i64 cv, .pointer (some ⟨B0, 0, none⟩), .pointer (some ⟨B1, 0, none⟩), .pointer (some ⟨B2, 0, none⟩)] W (OwnIB ([], false) W)) := IHI
          clear IHI
          have HT' : Hid (gof F first (sets.length - first) = gof F (i + 1) (sets.length - (i + 1))) := Lib.hid (by rw [HT.out, HTI.out])
          clear hR hlen
          go_wp2_with fail
          go_region_held3 (fun w' => w'.cell? ⟨B2, 0, none⟩ = some (.func (.func 94) #[] #[.pointer (some ⟨B0, 0, none⟩), .pointer (some ⟨B1, 0, none⟩), .pointer (some ⟨B2, 0, none⟩)]) ∧ w'.cell? ⟨B1, 0, none⟩ = some (.slice (some ⟨b, off, none⟩) sets.length c) ∧ w'.cell? ⟨b, off + i, none⟩ = some (.int .i64 x)) (first | go_keep | (go_split_ands; assumption))
            ((go_at_call 94; refine (IH2.out _ (bel_dr HB.out)).mono ?_; intro e w9 hh; obtain ⟨x9, rfl, ho9, hb9⟩ := ownIB_open hh; clear hh; have y2 := (hb9.cell (p := ⟨B2, 0, none⟩) (by show B2 < wA.heap.size; omega)).trans d2; have y1 := (hb9.cell (p := ⟨B1, 0, none⟩) (by show B1 < wA.heap.size; omega)).trans d1; have y0 := (hb9.cell (p := ⟨b, off + i, none⟩) (by show b < wA.heap.size; omega)).trans cx))
          have HB9 : Hid (Below w.heap.size w w9) := Lib.hid (bel_then (bel_dr HB.out) hb9)
          clear ho9 hb9 y0 y1 y2 e4 e3
          go_wp2
          exact ⟨⟨i + 1, by omega, by go_num, HT', HB9⟩, by simp [intOf]; omega⟩
      · obtain rfl : i = sets.length := by omega
        have HT' : Hid (srchS sets all lf first cov = none) := Lib.hid (by rw [HFE.out, HT.out, Nat.sub_self]; rfl)
        go_wp2
        go_ret2
        rw [HT'.out]
        exact ⟨_, rfl, World.ownsRow_nil _ _ _ _, HB.out⟩
end Go.Proofs.YtibkadkodblefaaDoor
