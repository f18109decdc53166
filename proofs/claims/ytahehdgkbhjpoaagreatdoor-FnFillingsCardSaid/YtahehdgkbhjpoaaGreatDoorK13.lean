/-
  The most stations that can be filled: the program's search over a set of bits, the reference's over a list. MostFilled on both sides (printed by gen_mv.py). FillStations: the plain law. FillStations: the walks of both sides (printed by gen_fill.py). FillStations on both sides (printed by gen_mv.py). BlockedStations: the plain law. The best of all sets, and the first set of the least size, are one. slices.Compare and cmp.Or at ints. LeastFillLimit: the plain law. spec.LeastFillLimit (printed by gen_least.py). (joined by pack.py: MvM MvN MvG MvH MvI MvB MvP MvZ MvLS)
-/
import Derived.Test.YtahehdgkbhjpoaaGreatDoorK11
import Derived.Test.YtahehdgkbhjpoaaGreatDoorK12
import Derived.Test.YtahehdgkbhjpoaaGreatDoorK3
import Derived.Test.YtahehdgkbhjpoaaGreatDoorK7
namespace Go.Proofs.YtahehdgkbhjpoaaGreatDoor
set_option linter.unusedVariables false
set_option linter.unusedSimpArgs false
open Go.RowKit

def updP (P : Nat → Bool) (m : Nat) : Nat → Bool := fun i => P i || decide (i = m)
def mostR : List (List Int) → (Nat → Bool) → Nat
  | [], _ => 0
  | l :: ls, P => l.foldl (fun b x => if P x.toNat = true then b else max b (1 + mostR ls (updP P x.toNat))) (mostR ls P)
theorem foldl_le {f : Nat → Int → Nat} {N : Nat} (hf : ∀ b x, b ≤ N → f b x ≤ N) : ∀ (l : List Int) (b : Nat), b ≤ N → l.foldl f b ≤ N := by
  intro l
  induction l with
  | nil => intro b h; exact h
  | cons x l ih => intro b h; exact ih _ (hf b x h)
theorem mostR_le : ∀ (ls : List (List Int)) (P : Nat → Bool), mostR ls P ≤ ls.length := by
  intro ls
  induction ls with
  | nil => intro P; simp [mostR]
  | cons l ls ih =>
    intro P
    unfold mostR
    refine foldl_le (fun b x hb => ?_) l _ (by have := ih P; simp; omega)
    split
    · exact hb
    · have := ih (updP P x.toNat)
      rw [List.length_cons] at hb ⊢
      omega
def stepR (ls : List (List Int)) (P : Nat → Bool) (b : Nat) (x : Int) : Nat := if P x.toNat = true then b else max b (1 + mostR ls (updP P x.toNat))
theorem mostR_cons (l : List Int) (ls : List (List Int)) (P : Nat → Bool) : mostR (l :: ls) P = l.foldl (stepR ls P) (mostR ls P) := rfl
theorem foldl_snoc {f : Nat → Int → Nat} {l : List Int} {i : Nat} {x : Int} {b c : Nat} (h : l[i]? = some x) (hb : (l.take i).foldl f b = c) : (l.take (i + 1)).foldl f b = f c x := by
  rw [take_succ_of h, List.foldl_append, hb]; rfl
theorem stepR_yes {ls : List (List Int)} {P : Nat → Bool} {b m : Nat} (h : P m = true) : stepR ls P b (m : Int) = b := by unfold stepR; rw [Int.toNat_natCast, if_pos h]
theorem stepR_no {ls : List (List Int)} {P : Nat → Bool} {b m : Nat} (h : P m = false) : stepR ls P b (m : Int) = max b (1 + mostR ls (updP P m)) := by unfold stepR; rw [Int.toNat_natCast, if_neg (by rw [h]; simp)]

/-- A number whose bits below 7 are P. -/
def UsedM (M : Nat) (P : Nat → Bool) : Prop := M < 128 ∧ ∀ i, i < 7 → M.testBit i = P i
theorem usedM_or {M m : Nat} {P : Nat → Bool} (h : UsedM M P) (hm : m < 7) : UsedM (M ||| 2 ^ m) (updP P m) := by
  refine ⟨Nat.or_lt_two_pow (n := 7) h.1 (Nat.pow_lt_pow_right (by omega) hm), fun i hi => ?_⟩
  rw [Nat.testBit_or, h.2 i hi, Nat.testBit_two_pow]
  unfold updP
  congr 1
  rw [decide_eq_decide]; exact ⟨fun e => e.symm, fun e => e.symm⟩
/-- A table of movers. -/
def Tab (ls : List (List Int)) : Prop := ls.length ≤ 6 ∧ ∀ l ∈ ls, l.length ≤ 7 ∧ ∀ x ∈ l, ∃ i : Nat, x = (i : Int) ∧ i < 7

set_option maxRecDepth 100000 in
set_option maxHeartbeats 4000000 in
theorem mostFrom_c (v : Value) (ls : List (List Int)) (ht : Tab ls) : ∀ (j k M : Nat) (P : Nat → Bool) (w : World), k + j = ls.length → UsedM M P → RdSS w v ls →
    Calls Tryz.prog 59 #[v, .int .i64 k, .int .i64 M] w fun e w' => e = .returned (.int .i64 (mostR (ls.drop k) P : Nat)) ∧ w = w' := by
  intro j
  induction j with
  | zero =>
    intro k M P w hk hU hr
    obtain rfl : k = ls.length := by omega
    obtain ⟨vs, hv⟩ := hr
    obtain ⟨A, c, rfl, hc, hm, _⟩ := hv.outer
    rw [maxLen_eq] at hm
    have e0 : ((ls.length : Int) == (ls.length : Int)) = true := by simp
    have HF : Hid (mostR (ls.drop ls.length) P = 0) := Lib.hid (by rw [List.drop_length]; rfl)
    clear hv ht hU
    go_enter Tryz.func59, Tryz.ntmps59
    go_wp2
    go_ret
    rw [HF.out]
    exact ⟨rfl, rfl⟩
  | succ j ih =>
    intro k M P w hk hU hr
    have hkl : k < ls.length := by omega
    obtain ⟨l, hl⟩ : ∃ l, ls[k]? = some l := ⟨_, List.getElem?_eq_getElem hkl⟩
    have hd : ls.drop k = l :: ls.drop (k + 1) := by
      rw [List.drop_eq_getElem_cons hkl]
      rw [List.getElem?_eq_getElem hkl] at hl
      rw [Option.some.inj hl]
    rw [hd, mostR_cons]
    obtain ⟨rest, hrest⟩ : ∃ rest, ls.drop (k + 1) = rest := ⟨_, rfl⟩
    have hrl : rest.length ≤ 5 := by rw [← hrest, List.length_drop]; have := ht.1; omega
    have hk5 : k ≤ 5 := by have := ht.1; omega
    have hbd := fun Q => mostR_le rest Q
    have hih := fun M P W hU hr => ih (k + 1) M P W (by omega) hU hr
    rw [hrest] at hih ⊢
    have e1 : ((k + 1 : Nat) : Int) = (k : Int) + 1 := by omega
    rw [e1] at hih
    obtain ⟨hl7, hle⟩ := ht.2 l (List.mem_of_getElem? hl)
    have HR := Lib.hid hr
    have HLE := Lib.hid hle
    have HBD := Lib.hid hbd
    have HIH := Lib.hid hih
    have HU := Lib.hid hU
    obtain ⟨vs, hv⟩ := hr
    have hvl := hv.len
    obtain ⟨A, c, rfl, hc, hm, hcl⟩ := hv.outer
    rw [maxLen_eq] at hm
    obtain ⟨b, off, rfl, hbl, hcell⟩ := hcl (by omega)
    obtain ⟨u, hu⟩ : ∃ u, vs[k]? = some u := ⟨_, List.getElem?_eq_getElem (by omega)⟩
    have c0 := hcell _ _ hu
    obtain ⟨A5, c5, rfl, hc5, hm5, hr5⟩ := hv.inner k u l hu hl
    rw [maxLen_eq] at hm5
    have HR5 := Lib.hid hr5
    have hne : ((k : Int) == (ls.length : Int)) = false := by rw [beq_eq_false_iff_ne]; omega
    have k0 : (0 : Int) ≤ (k : Int) := by omega
    have k1 : (k : Int) < (ls.length : Int) := by omega
    have k2 : IntKind.i64.wrap ((k : Int) + 1) = (k : Int) + 1 := IntWalk.i64_in _ (by omega)
    have hM := hU.1
    have hcall := HIH.out M P w hU HR.out
    have hb0 := HBD.out P
    obtain ⟨m0, hm0⟩ : ∃ m0, mostR rest P = m0 := ⟨_, rfl⟩
    rw [hm0] at hcall hb0 ⊢
    have HC := Lib.hid hcall
    clear hv hcl hcell hu hr5 hcall hU hih hbd hle hl hd hrest ht e1 ih hm0
    go_enter Tryz.func59, Tryz.ntmps59
    go_wp2_with fail
    refine HC.out.mono ?_; rintro e w2 ⟨rfl, rfl⟩
    go_wp2_with fail
    go_loopw [7, 24] (fun v7 v24 wr => ∃ (i t : Nat), i ≤ l.length ∧ t ≤ 6 ∧ v24 = .int .i64 i ∧ v7 = .int .i64 (t : Nat) ∧ Hid ((l.take i).foldl (stepR rest P) m0 = t) ∧ wr = w) (fun _ v24 _ => l.length - (intOf v24).toNat)
    case atStart => exact ⟨0, m0, Nat.zero_le _, by omega, rfl, rfl, Lib.hid rfl, rfl⟩
    case round =>
      obtain ⟨i, t, hi, ht6, rfl, rfl, HT, rfl⟩ := hrel
      by_cases hlt : i < l.length
      · obtain ⟨b5, off5, rfl, hbl5, hcell5⟩ := HR5.out (by omega)
        obtain ⟨x, hx⟩ : ∃ x, l[i]? = some x := ⟨_, List.getElem?_eq_getElem hlt⟩
        have d0 := hcell5 _ _ (ints_get hx)
        obtain ⟨xn, rfl, hx7⟩ := HLE.out x (List.mem_of_getElem? hx)
        have j0 : (0 : Int) ≤ (xn : Int) := by omega
        have j1 : (xn : Int) ≤ 64 := by omega
        have u1 : IntKind.u64.wrap (xn : Int) = (xn : Int) := by rw [IntKind.wrap_u64]; omega
        have hbit := bit_of M xn (by omega)
        rw [HU.out.2 xn hx7] at hbit
        have HS := Lib.hid (foldl_snoc hx HT.out)
        clear hx hcell5
        by_cases hP : P xn = true
        · rw [if_pos hP] at hbit
          have HS2 : Hid ((l.take (i + 1)).foldl (stepR rest P) m0 = t) := Lib.hid (by rw [HS.out, stepR_yes hP])
          clear hP
          go_wp2
          exact ⟨⟨i + 1, t, by omega, by omega, by go_num, rfl, HS2, (by first | rfl | trivial)⟩, by simp [intOf]; omega⟩
        · have hP : P xn = false := by simpa using hP
          rw [if_neg (by rw [hP]; simp)] at hbit
          have HS2 : Hid ((l.take (i + 1)).foldl (stepR rest P) m0 = max t (1 + mostR rest (updP P xn))) := Lib.hid (by rw [HS.out, stepR_no hP])
          have hbn := HBD.out (updP P xn)
          have hUn := usedM_or HU.out hx7
          have hcn := HIH.out _ _ wr hUn HR.out
          have hMn := hUn.1
          obtain ⟨r, hr⟩ : ∃ r, mostR rest (updP P xn) = r := ⟨_, rfl⟩
          rw [hr] at hbn hcn HS2
          obtain ⟨pw, hpw⟩ : ∃ pw : Nat, 2 ^ xn = pw := ⟨_, rfl⟩
          have hp7 : pw ≤ 64 := by rw [← hpw]; exact Nat.le_trans (Nat.pow_le_pow_right (by omega) (show xn ≤ 6 by omega)) (by decide)
          obtain ⟨M2, hM2⟩ : ∃ M2, M ||| 2 ^ xn = M2 := ⟨_, rfl⟩
          rw [hM2] at hcn hMn
          rw [hpw] at hM2
          have e1 : IntKind.i64.wrap ((2 : Int) ^ xn) = (pw : Int) := by
            have : (2 : Int) ^ xn = (pw : Int) := by rw [← hpw, Int.natCast_pow]; rfl
            rw [this, IntKind.wrap_i64]; omega
          have e3 : bits .or .i64 (M : Int) (pw : Int) = (M2 : Int) := by rw [bits_or_i64_nat M pw (by omega) (by omega), hM2]
          have HCN := Lib.hid hcn
          clear hP hr hpw hM2 hUn hcn
          go_wp2_with fail
          refine HCN.out.mono ?_; rintro e w2 ⟨rfl, rfl⟩
          have s2 : IntKind.i64.wrap (1 + (r : Int)) = 1 + (r : Int) := IntWalk.i64_in _ (by omega)
          go_wp2
          refine ⟨⟨i + 1, max t (1 + r), by omega, by omega, by go_num, ?_, HS2, (by first | rfl | trivial)⟩, by simp [intOf]; omega⟩
          refine congrArg (Value.int .i64) ?_
          (first | omega | (split <;> omega))
      · obtain rfl : i = l.length := by omega
        go_wp2
        go_ret
        have e := HT.out
        rw [List.take_length] at e
        rw [e]
        exact ⟨rfl, (by first | rfl | trivial)⟩
/-- A list whose members below 7 are P. -/
def UsedL (q : List Int) (P : Nat → Bool) : Prop := ∀ i : Nat, i < 7 → decide ((i : Int) ∈ q) = P i
theorem usedL_snoc {q : List Int} {P : Nat → Bool} {m : Nat} (h : UsedL q P) : UsedL (q ++ [(m : Int)]) (updP P m) := fun i hi => by
  unfold updP
  rw [← h i hi]
  by_cases h1 : (i : Int) ∈ q
  · rw [decide_eq_true h1, decide_eq_true (List.mem_append_left _ h1)]; rfl
  · rw [decide_eq_false h1, Bool.false_or, decide_eq_decide]
    refine ⟨fun e => ?_, fun e => by subst e; simp⟩
    rcases List.mem_append.1 e with e | e
    · exact absurd e h1
    · rw [List.mem_singleton] at e; omega

set_option maxRecDepth 100000 in
set_option maxHeartbeats 4000000 in
theorem mvMost_c (v : Value) (ls : List (List Int)) (ht : Tab ls) : ∀ (j k : Nat) (u : Value) (q : List Int) (P : Nat → Bool) (w : World), k + j = ls.length → q.length ≤ k → UsedL q P → RdSS w v ls → RdI w u q →
    Calls Tryz.prog 30 #[v, .int .i64 k, u] w fun e w' => e = .returned (.int .i64 (mostR (ls.drop k) P : Nat)) ∧ Below w.heap.size w w' := by
  intro j
  induction j with
  | zero =>
    intro k u q P w hk _ hU hr _
    obtain rfl : k = ls.length := by omega
    obtain ⟨vs, hv⟩ := hr
    obtain ⟨A, c, rfl, hc, hm, _⟩ := hv.outer
    rw [maxLen_eq] at hm
    have e0 : ((ls.length : Int) == (ls.length : Int)) = true := by simp
    have HF : Hid (mostR (ls.drop ls.length) P = 0) := Lib.hid (by rw [List.drop_length]; rfl)
    clear hv ht hU
    go_enter Tryz.func30, Tryz.ntmps30
    go_wp2
    go_ret
    rw [HF.out]
    exact ⟨rfl, Below.refl _ _⟩
  | succ j ih =>
    intro k u q P w hk hqk hU hr hq
    have hkl : k < ls.length := by omega
    obtain ⟨l, hl⟩ : ∃ l, ls[k]? = some l := ⟨_, List.getElem?_eq_getElem hkl⟩
    have hd : ls.drop k = l :: ls.drop (k + 1) := by
      rw [List.drop_eq_getElem_cons hkl]
      rw [List.getElem?_eq_getElem hkl] at hl
      rw [Option.some.inj hl]
    rw [hd, mostR_cons]
    obtain ⟨rest, hrest⟩ : ∃ rest, ls.drop (k + 1) = rest := ⟨_, rfl⟩
    have hrl : rest.length ≤ 5 := by rw [← hrest, List.length_drop]; have := ht.1; omega
    have hk5 : k ≤ 5 := by have := ht.1; omega
    have hbd := fun Q => mostR_le rest Q
    have hih := fun u q P W hqk hU hr hq => ih (k + 1) u q P W (by omega) hqk hU hr hq
    rw [hrest] at hih ⊢
    have e1 : ((k + 1 : Nat) : Int) = (k : Int) + 1 := by omega
    rw [e1] at hih
    obtain ⟨hl7, hle⟩ := ht.2 l (List.mem_of_getElem? hl)
    obtain ⟨i0, hi0, hz0, hz1, hz2⟩ := info_parts Tryz.infoInt
    have HR := Lib.hid hr
    have HQ := Lib.hid hq
    have HLE := Lib.hid hle
    have HBD := Lib.hid hbd
    have HIH := Lib.hid hih
    have HU := Lib.hid hU
    obtain ⟨vs, hv⟩ := hr
    have hvl := hv.len
    obtain ⟨A, c, rfl, hc, hm, hcl⟩ := hv.outer
    rw [maxLen_eq] at hm
    obtain ⟨b, off, rfl, hbl, hcell⟩ := hcl (by omega)
    obtain ⟨z, hu⟩ : ∃ z, vs[k]? = some z := ⟨_, List.getElem?_eq_getElem (by omega)⟩
    have c0 := hcell _ _ hu
    have C0 := Lib.hid c0
    obtain ⟨A5, c5, rfl, hc5, hm5, hr5⟩ := hv.inner k z l hu hl
    rw [maxLen_eq] at hm5
    have HR5 := Lib.hid hr5
    have hne : ((k : Int) == (ls.length : Int)) = false := by rw [beq_eq_false_iff_ne]; omega
    have k0 : (0 : Int) ≤ (k : Int) := by omega
    have k1 : (k : Int) < (ls.length : Int) := by omega
    have k2 : IntKind.i64.wrap ((k : Int) + 1) = (k : Int) + 1 := IntWalk.i64_in _ (by omega)
    have hcall := HIH.out u q P w (by omega) hU HR.out HQ.out
    have hb0 := HBD.out P
    obtain ⟨m0, hm0⟩ : ∃ m0, mostR rest P = m0 := ⟨_, rfl⟩
    rw [hm0] at hcall hb0 ⊢
    have HC := Lib.hid hcall
    clear hv hcl hcell hu hr5 hcall hU hih hbd hle hl hd hrest ht e1 ih hm0 c0 hq
    go_enter Tryz.func30, Tryz.ntmps30
    go_wp2_with fail
    refine HC.out.mono ?_; rintro e w1 ⟨rfl, hb1⟩
    have c1 := (hb1.cell (p := ⟨b, off + k, none⟩) hbl).trans C0.out
    have HB1 := Lib.hid hb1
    clear hb1
    go_wp2_with fail
    go_loopw [7, 24] (fun v7 v24 wr => ∃ (i t : Nat), i ≤ l.length ∧ t ≤ 6 ∧ v24 = .int .i64 i ∧ v7 = .int .i64 (t : Nat) ∧ Hid ((l.take i).foldl (stepR rest P) m0 = t) ∧ Hid (Below w.heap.size w wr)) (fun _ v24 _ => l.length - (intOf v24).toNat)
    case atStart => exact ⟨0, m0, Nat.zero_le _, by omega, rfl, rfl, Lib.hid rfl, HB1⟩
    case round =>
      obtain ⟨i, t, hi, ht6, rfl, rfl, HT, HB⟩ := hrel
      obtain ⟨wA, rfl⟩ : ∃ wA : World, wA = wr := ⟨_, rfl⟩
      by_cases hlt : i < l.length
      · obtain ⟨b5, off5, rfl, hbl5, hcell5⟩ := HR5.out (by omega)
        obtain ⟨x, hx⟩ : ∃ x, l[i]? = some x := ⟨_, List.getElem?_eq_getElem hlt⟩
        have d0 := cell_at hcell5 HB.out hbl5 (ints_get hx)
        obtain ⟨xn, rfl, hx7⟩ := HLE.out x (List.mem_of_getElem? hx)
        have j0 : (0 : Int) ≤ (xn : Int) := by omega
        have hin := HU.out xn hx7
        have HS := Lib.hid (foldl_snoc hx HT.out)
        clear hx hcell5
        by_cases hP : P xn = true
        · rw [hP] at hin
          have HIN := Lib.hid hin
          have HS2 : Hid ((l.take (i + 1)).foldl (stepR rest P) m0 = t) := Lib.hid (by rw [HS.out, stepR_yes hP])
          clear hP hin
          go_wp2_with (go_at_call 38; refine (l1Has_c _ (xn : Int) q _ (rdi_below HQ.out HB.out)).mono ?_; rw [HIN.out]; rintro e w2 ⟨rfl, rfl⟩)
          exact ⟨⟨i + 1, t, by omega, by omega, by go_num, rfl, HS2, HB⟩, by simp [intOf]; omega⟩
        · have hP : P xn = false := by simpa using hP
          rw [hP] at hin
          have HIN := Lib.hid hin
          have HS2 : Hid ((l.take (i + 1)).foldl (stepR rest P) m0 = max t (1 + mostR rest (updP P xn))) := Lib.hid (by rw [HS.out, stepR_no hP])
          have hbn := HBD.out (updP P xn)
          have HUN := Lib.hid (usedL_snoc (m := xn) HU.out)
          obtain ⟨r, hr⟩ : ∃ r, mostR rest (updP P xn) = r := ⟨_, rfl⟩
          rw [hr] at hbn HS2
          have HRR := Lib.hid hr
          clear hP hr hin
          go_wp2_with fail
          refine (l1Has_c _ (xn : Int) q _ (rdi_below HQ.out HB.out)).mono ?_; rw [HIN.out]; rintro e w2 ⟨rfl, rfl⟩
          go_wp2_with fail
          refine (l1Own_c _ q _ (rdi_below HQ.out HB.out) (by omega)).mono ?_; rintro e w3 ⟨v3, rfl, ho3, hb3⟩
          have HO3 := Lib.hid ho3
          have HB3 := Lib.hid (bel_then HB.out hb3)
          have hs3 := hb3.size
          clear ho3 hb3
          go_wp2_with (at_builtin; refine wpList_app_rd _ rfl _ _ 26 rfl wA.heap.size 3 i0 (.int .i64 0) 1 8 Tryz.underlying26 hi0 hz0 hz1 hz2 rfl (by decide) _ _ _ rfl (HO3.out.alloc _) _ 1 [.int .i64 xn] rfl (rd_new _ rfl (Nat.le_refl _) (by rw [maxLen_eq]; omega)) rfl (ints_one [(xn : Int)]) (by rw [maxLen_eq]; omega) (by omega) (by simp; omega) ?_; intro v' w7 hown' hgrow _)
          have HO7 : Hid (w7.ownsRow wA.heap.size 3 1 v' (q ++ [(xn : Int)]).length (ints (q ++ [(xn : Int)]))) := Lib.hid (by rw [ints_append, List.length_append]; exact hown')
          have HB7 : Hid (Below w.heap.size w w7) := Lib.hid (bel_grown (bel_al HB3.out _) hgrow (fun q e => by have := (HO3.out.lt q e).1; have := HB.out.size; omega))
          have hs7 := hgrow.size
          have hcn := HIH.out v' (q ++ [(xn : Int)]) (updP P xn) w7 (by simp; omega) HUN.out (HR.out.below HB7.out) (rdi_own HO7.out)
          rw [HRR.out] at hcn
          have HCN := Lib.hid hcn
          clear hown' hgrow hcn
          refine HCN.out.mono ?_; rintro e w8 ⟨rfl, hb8⟩
          have HB8 := Lib.hid (bel_then HB7.out hb8)
          have s2 : IntKind.i64.wrap (1 + (r : Int)) = 1 + (r : Int) := IntWalk.i64_in _ (by omega)
          clear hb8
          go_wp2_with (go_at_call 40; refine (l1Most_c _ _ _).mono ?_; rintro e w' ⟨rfl, rfl⟩)
          refine ⟨⟨i + 1, max t (1 + r), by omega, by omega, by go_num, ?_, HS2, HB8⟩, by simp [intOf]; omega⟩
          refine congrArg (Value.int .i64) ?_
          unfold maxI
          (first | omega | (split <;> omega))
      · obtain rfl : i = l.length := by omega
        go_wp2
        go_ret
        have e := HT.out
        rw [List.take_length] at e
        rw [e]
        exact ⟨rfl, HB.out⟩
end Go.Proofs.YtahehdgkbhjpoaaGreatDoor

namespace Go.Proofs.YtahehdgkbhjpoaaGreatDoor
set_option linter.unusedVariables false
set_option linter.unusedSimpArgs false
open Go.RowKit

def noneP : Nat → Bool := fun _ => false
theorem usedM_zero : UsedM 0 noneP := ⟨by omega, fun i _ => by simp [noneP]⟩
theorem usedL_nil : UsedL [] noneP := fun i _ => by simp [noneP]
theorem rdi_nil (w : World) : RdI w (.slice none 0 0) [] := ⟨none, 0, rfl, Nat.le_refl _, Nat.zero_le _, fun h => absurd h (by simp)⟩
theorem reachL_tab {m : Nat} {ar : List Arc} {p q : List Int} {a : Int} (h7 : p.length ≤ 7) (h6 : q.length ≤ 6) : Tab (reachL m ar p q a) := by
  refine ⟨by rw [reachL_len]; exact h6, fun r hr => ?_⟩
  unfold reachL at hr
  obtain ⟨x, _, rfl⟩ := List.mem_map.1 hr
  refine ⟨Nat.le_trans (selI_len _ _) h7, fun y hy => ?_⟩
  obtain ⟨i, h1, h2, _⟩ := selI_mem.1 hy
  exact ⟨i, h1, by omega⟩
set_option maxHeartbeats 1000000 in
theorem mostFilled_c (v : Value) (ls : List (List Int)) (w : World) (ht : Tab ls) (hr : RdSS w v ls) :
    Calls Tryz.prog 24 #[v] w fun e w' => e = .returned (.int .i64 (mostR ls noneP : Nat)) ∧ w = w' := by
  have h := mostFrom_c v ls ht ls.length 0 0 noneP w (by omega) usedM_zero hr
  have H := Lib.hid h
  clear h ht hr
  go_enter Tryz.func24, Tryz.ntmps24
  go_wp2_with (go_at_call 59; refine H.out.mono ?_; rintro e w' ⟨rfl, rfl⟩)
  go_ret
  exact ⟨rfl, rfl⟩

def mostFilledV (n : Int) (l : List St) (p q : List Int) (a : Int) : Int × Bool := if askM n l p q a = true then ((mostR (reachL n.toNat (arcs l) p q a) noneP : Nat), true) else (0, false)

set_option maxRecDepth 100000 in
set_option maxHeartbeats 4000000 in
theorem mostFilledI_c (n : Int) (s : Value) (l : List St) (v : Value) (p : List Int) (u : Value) (q : List Int) (a : Int) (w : World) (hr : Rd w s l.length (l.flatMap St.cells)) (hp : RdI w v p) (hq : RdI w u q) :
    Calls Tryz.prog 18 #[.agg #[.int .i64 n, s], v, u, .int .i64 a] w fun e w' => e = .returned (.tuple #[.int .i64 (mostFilledV n l p q a).1, .bool (mostFilledV n l p q a).2]) ∧ Below w.heap.size w w' := by
  have HR := Lib.hid hr
  have HQ := Lib.hid hq
  have HP := Lib.hid hp
  clear hr hp hq
  go_enter Tryz.func18, Tryz.ntmps18
  go_wp2_with fail
  generalize hW : World.alloc w _ = w0
  have t0 : w0.cell? ⟨w.heap.size, 0, none⟩ = some (.int .i64 n) := by subst hW; simp [go_sem]
  have t1 : w0.cell? ⟨w.heap.size, 1, none⟩ = some s := by subst hW; simp [go_sem]
  have hb0 : Below w.heap.size w w0 := by subst hW; exact bel_al (Below.refl _ _) _
  have z0 : w.heap.size < w0.heap.size := by subst hW; simp
  have HB := Lib.hid hb0
  clear hW hb0
  refine (moversFit_c n s l _ _ p q _ _ t0 t1 (rd_below HR.out HB.out) (rdi_below HP.out HB.out) (rdi_below HQ.out HB.out)).mono ?_; rintro e w1 ⟨rfl, hb1⟩
  have k0 := (hb1.cell (p := ⟨w.heap.size, 0, none⟩) z0).trans t0
  have k1 := (hb1.cell (p := ⟨w.heap.size, 1, none⟩) z0).trans t1
  have HB1 := Lib.hid (bel_then HB.out hb1)
  have hs1 := hb1.size
  clear t0 t1 hb1
  by_cases hok : goodMv n l p q = true
  · by_cases hlm : inB a 0 36000 = true
    · have hask : askM n l p q a = true := by unfold askM; rw [hok, hlm]; rfl
      have HASK := Lib.hid hask
      obtain ⟨g1, g2, g3, g4, g5⟩ := goodMv_true hok
      obtain ⟨m, rfl⟩ := nat_of (goodTown_true g1).1
      rw [hok]
      go_wp2_with fail
      refine (isLimit_c a _).mono ?_; rw [hlm]; rintro e w2 ⟨rfl, rfl⟩
      go_wp2_with fail
      refine (reachTable_c m s _ _ l p q a _ _ g1 g5 g2 g4 g3 k0 k1 (rd_below HR.out HB1.out) (rdi_below HP.out HB1.out) (rdi_below HQ.out HB1.out)).mono ?_; rintro e w3 ⟨v3, rfl, ho3, hb3⟩
      have HT : Hid (Tab (reachL m (arcs l) p q a)) := Lib.hid (reachL_tab g4 g3)
      have HO3 := Lib.hid ho3
      have HB3 := Lib.hid (bel_then HB1.out hb3)
      clear g1 g2 g5 hok hlm hask k0 k1 ho3 hb3
      have hlen := reachL_len m (arcs l) p q a
      obtain ⟨TB, hTB⟩ : ∃ TB, reachL m (arcs l) p q a = TB := ⟨_, rfl⟩
      rw [hTB] at hlen HT HO3
      have HTB := Lib.hid hTB
      have HLEN := Lib.hid hlen
      clear hlen hTB
      go_wp2_with fail
      refine (mostFilled_c _ TB _ HT.out HO3.out.rd).mono ?_; rintro e w4 ⟨rfl, rfl⟩
      go_wp2
      go_ret2
      unfold mostFilledV; rw [if_pos HASK.out, Int.toNat_natCast, HTB.out]
      exact ⟨rfl, HB3.out⟩
    · have hlm : inB a 0 36000 = false := by simpa using hlm
      have hask : ¬ (askM n l p q a = true) := by unfold askM; rw [hlm]; simp
      have HASK := Lib.hid hask
      rw [hok]
      go_wp2_with fail
      refine (isLimit_c a _).mono ?_; rw [hlm]; rintro e w2 ⟨rfl, rfl⟩
      go_wp2
      go_ret2
      unfold mostFilledV; rw [if_neg HASK.out]
      exact ⟨rfl, HB1.out⟩
  · have hok : goodMv n l p q = false := by simpa using hok
    have hask : ¬ (askM n l p q a = true) := by unfold askM; rw [hok]; simp
    have HASK := Lib.hid hask
    rw [hok]
    go_wp2
    go_ret2
    unfold mostFilledV; rw [if_neg HASK.out]
    exact ⟨rfl, HB1.out⟩

end Go.Proofs.YtahehdgkbhjpoaaGreatDoor

namespace Go.Proofs.YtahehdgkbhjpoaaGreatDoor
set_option linter.unusedVariables false
set_option linter.unusedSimpArgs false
open Go.RowKit

/-- Whether mover x may be chosen: free, and the rest can still be filled as often as wanted. -/
def mayP (rest : List (List Int)) (P : Nat → Bool) (left : Nat) (x : Int) : Bool := !(P x.toNat) && decide (1 + mostR rest (updP P x.toNat) = left)
def chooseR (rest : List (List Int)) (P : Nat → Bool) (left : Nat) : List Int → Int
  | [] => -1
  | x :: l => if mayP rest P left x = true then x else chooseR rest P left l
def fillR : List (List Int) → (Nat → Bool) → Nat → List Int
  | [], _, _ => []
  | l :: rest, P, left => if chooseR rest P left l < 0 then (-1) :: fillR rest P left else chooseR rest P left l :: fillR rest (updP P (chooseR rest P left l).toNat) (left - 1)
theorem fillR_len : ∀ (ls : List (List Int)) (P : Nat → Bool) (left : Nat), (fillR ls P left).length = ls.length := by
  intro ls
  induction ls with
  | nil => intro P left; rfl
  | cons l ls ih => intro P left; unfold fillR; split <;> simp [ih]
theorem choose_here {rest : List (List Int)} {P : Nat → Bool} {left : Nat} {l : List Int} {i : Nat} {x : Int} (h : l[i]? = some x) (hm : mayP rest P left x = true) : chooseR rest P left (l.drop i) = x := by
  have hi := (List.getElem?_eq_some_iff.1 h).1
  rw [List.drop_eq_getElem_cons hi]
  rw [List.getElem?_eq_getElem hi] at h
  rw [Option.some.inj h]
  simp only [chooseR]; rw [if_pos hm]
theorem choose_next {rest : List (List Int)} {P : Nat → Bool} {left : Nat} {l : List Int} {i : Nat} {x : Int} (h : l[i]? = some x) (hm : mayP rest P left x = false) : chooseR rest P left (l.drop i) = chooseR rest P left (l.drop (i + 1)) := by
  have hi := (List.getElem?_eq_some_iff.1 h).1
  rw [List.drop_eq_getElem_cons hi]
  rw [List.getElem?_eq_getElem hi] at h
  rw [Option.some.inj h]
  simp only [chooseR]; rw [if_neg (by rw [hm]; simp)]
theorem choose_end {rest : List (List Int)} {P : Nat → Bool} {left : Nat} {l : List Int} : chooseR rest P left (l.drop l.length) = -1 := by
  rw [List.drop_length]; rfl
/-- What is chosen is a mover, and one station less is wanted then. -/
theorem choose_some {rest : List (List Int)} {P : Nat → Bool} {left : Nat} : ∀ {l : List Int}, 0 ≤ chooseR rest P left l → chooseR rest P left l ∈ l ∧ 1 ≤ left := by
  intro l
  induction l with
  | nil => intro h; simp [chooseR] at h
  | cons x l ih =>
    intro h
    simp only [chooseR] at h ⊢
    by_cases hm : mayP rest P left x = true
    · rw [if_pos hm]
      refine ⟨by simp, ?_⟩
      unfold mayP at hm
      simp only [Bool.and_eq_true, decide_eq_true_eq] at hm
      omega
    · rw [if_neg hm] at h ⊢
      exact ⟨List.mem_cons_of_mem _ (ih h).1, (ih h).2⟩
theorem fillR_none {l : List Int} {rest : List (List Int)} {P : Nat → Bool} {left : Nat} (h : chooseR rest P left l = -1) : fillR (l :: rest) P left = (-1) :: fillR rest P left := by
  simp only [fillR]; rw [h]; rfl
theorem fillR_some {l : List Int} {rest : List (List Int)} {P : Nat → Bool} {left m : Nat} (h : chooseR rest P left l = (m : Int)) : fillR (l :: rest) P left = (m : Int) :: fillR rest (updP P m) (left - 1) := by
  simp only [fillR]; rw [h, if_neg (by omega), Int.toNat_natCast]
end Go.Proofs.YtahehdgkbhjpoaaGreatDoor

namespace Go.Proofs.YtahehdgkbhjpoaaGreatDoor
set_option linter.unusedVariables false
set_option linter.unusedSimpArgs false
open Go.RowKit

theorem may_free {rest : List (List Int)} {P : Nat → Bool} {left n : Nat} (h : P n = false) : mayP rest P left (n : Int) = decide (1 + mostR rest (updP P n) = left) := by unfold mayP; rw [Int.toNat_natCast, h]; rfl
theorem may_used {rest : List (List Int)} {P : Nat → Bool} {left n : Nat} (h : P n = true) : mayP rest P left (n : Int) = false := by unfold mayP; rw [Int.toNat_natCast, h]; rfl
theorem choose_neg {rest : List (List Int)} {P : Nat → Bool} {left : Nat} : ∀ {l : List Int}, (∀ x ∈ l, 0 ≤ x) → chooseR rest P left l < 0 → ∀ x ∈ l, mayP rest P left x = false := by
  intro l
  induction l with
  | nil => intro _ _ x hx; simp at hx
  | cons y l ih =>
    intro h0 h x hx
    simp only [chooseR] at h
    by_cases hm : mayP rest P left y = true
    · rw [if_pos hm] at h
      have := h0 y (by simp)
      omega
    · rw [if_neg hm] at h
      rcases List.mem_cons.1 hx with rfl | hx
      · simpa using hm
      · exact ih (fun z hz => h0 z (List.mem_cons_of_mem _ hz)) h x hx
theorem choose_m1 {rest : List (List Int)} {P : Nat → Bool} {left : Nat} : ∀ {l : List Int}, (∀ x ∈ l, 0 ≤ x) → chooseR rest P left l < 0 → chooseR rest P left l = -1 := by
  intro l
  induction l with
  | nil => intro _ _; rfl
  | cons y l ih =>
    intro h0 h
    simp only [chooseR] at h ⊢
    by_cases hm : mayP rest P left y = true
    · rw [if_pos hm] at h
      have := h0 y (by simp)
      omega
    · rw [if_neg hm] at h ⊢
      exact ih (fun z hz => h0 z (List.mem_cons_of_mem _ hz)) h
def IfM1 (t : Int) (X : Prop) : Prop := t = -1 → X
theorem IfM1.get {t : Int} {X : Prop} (h : IfM1 t X) (e : t = -1) : X := h e
theorem sep_grow {a : World} {v v' x : Value} (e : v'.ownBlock = v.ownBlock ∨ v'.ownBlock = some a.heap.size) (hx : Sep v x) (hlt : ∀ q, x.ownBlock = some q → q < a.heap.size) : Sep v' x := fun q q' e1 e2 => by
  rcases e with e | e
  · exact hx q q' (by rw [← e]; exact e1) e2
  · rw [e] at e1
    have h1 := Option.some.inj e1
    have h2 := hlt q' e2
    omega

set_option maxRecDepth 100000 in
set_option maxHeartbeats 4000000 in
theorem mvBest_c (v : Value) (ls : List (List Int)) (w : World) (ht : Tab ls) (hr : RdSS w v ls) :
    Calls Tryz.prog 34 #[v] w (OwnI (fillR ls noneP (mostR ls noneP)) w) := by
  have hmf := mvMost_c v ls ht ls.length 0 (.slice none 0 0) [] noneP w (by omega) (by simp) usedL_nil hr (rdi_nil _)
  rw [List.drop_zero] at hmf
  have hmf2 := mostR_le ls noneP
  have HMF := Lib.hid hmf
  have HT := Lib.hid ht
  have HR := Lib.hid hr
  obtain ⟨i0, hi, hz0, hz1, hz2⟩ := info_parts Tryz.infoInt
  obtain ⟨vs, hv⟩ := hr
  have hvl := hv.len
  have HV := Lib.hid hv
  have ht6 : ls.length ≤ 6 := ht.1
  obtain ⟨A, c, rfl, hc, hm, hcl⟩ := hv.outer
  rw [maxLen_eq] at hm
  have HCL := Lib.hid hcl
  obtain ⟨want, hwant⟩ : ∃ want, mostR ls noneP = want := ⟨_, rfl⟩
  have hih := fun (j : Nat) (hj : j ≤ ls.length) u q P W hq hU hr hq' => mvMost_c (.slice A ls.length c) ls ht (ls.length - j) j u q P W (by omega) hq hU hr hq'
  have HIHA := Lib.hid hih
  rw [hwant] at hmf2 HMF ⊢
  have HWA := Lib.hid hwant
  clear hv hcl ht hmf hwant hih
  go_enter Tryz.func34, Tryz.ntmps34
  go_wp2_with fail
  refine HMF.out.mono ?_; rintro e w2 ⟨rfl, hb2⟩
  have HB2 := Lib.hid hb2
  clear hb2
  go_wp2_with fail
  go_loopw [3, 4, 5, 14] (fun v3 v4 v5 v14 wr => ∃ (k left : Nat) (P : Nat → Bool) (q done : List Int), k ≤ ls.length ∧ left ≤ 6 ∧ done.length = k ∧ q.length ≤ k ∧ v14 = .int .i64 k ∧ v5 = .int .i64 (left : Nat) ∧ Hid (UsedL q P) ∧ Hid (done ++ fillR (ls.drop k) P left = fillR ls noneP want) ∧ Hid (wr.ownsRow w.heap.size 3 1 v3 done.length (ints done)) ∧ Hid (wr.ownsRow w.heap.size 3 1 v4 q.length (ints q)) ∧ Hid (Sep v3 v4) ∧ Hid (Below w.heap.size w wr)) (fun _ _ _ v14 _ => ls.length - (intOf v14).toNat)
  case atStart => exact ⟨0, want, noneP, [], [], Nat.zero_le _, by omega, rfl, Nat.le_refl _, rfl, rfl, Lib.hid usedL_nil, Lib.hid rfl, Lib.hid (show w2.ownsRow w.heap.size 3 1 (.slice none 0 0) 0 [] from World.ownsRow_nil _ _ _ _), Lib.hid (show w2.ownsRow w.heap.size 3 1 (.slice none 0 0) 0 [] from World.ownsRow_nil _ _ _ _), Lib.hid (fun q q' h => by cases h), HB2⟩
  case round =>
   obtain ⟨k, left, P, q, done, hk, hleft, hdl, hqk, rfl, rfl, HU, HF, HOW, HOQ, HSP, HB⟩ := hrel
   obtain ⟨wA, rfl⟩ : ∃ wA : World, wA = wr := ⟨_, rfl⟩
   have hsA := HB.out.size
   by_cases hlt : k < ls.length
   ·
    have hkl : k < ls.length := hlt
    obtain ⟨l, hl⟩ : ∃ l, ls[k]? = some l := ⟨_, List.getElem?_eq_getElem hkl⟩
    have hd : ls.drop k = l :: ls.drop (k + 1) := by
      rw [List.drop_eq_getElem_cons hkl]
      rw [List.getElem?_eq_getElem hkl] at hl
      rw [Option.some.inj hl]
    obtain ⟨rest, hrest⟩ : ∃ rest, ls.drop (k + 1) = rest := ⟨_, rfl⟩
    have hrl : rest.length ≤ 5 := by rw [← hrest, List.length_drop]; have := HT.out.1; omega
    have hk5 : k ≤ 5 := by have := HT.out.1; omega
    have hbd := fun Q => mostR_le rest Q
    have e1 : ((k + 1 : Nat) : Int) = (k : Int) + 1 := by omega
    obtain ⟨hl7, hle⟩ := HT.out.2 l (List.mem_of_getElem? hl)
    have hsuf := HF.out
    rw [hd, hrest] at hsuf
    obtain ⟨u, hu⟩ : ∃ u, vs[k]? = some u := ⟨_, List.getElem?_eq_getElem (by omega)⟩
    obtain ⟨b, off, rfl, hbl, hcell⟩ := HCL.out (by omega)
    have c0 := cell_at hcell HB.out hbl hu
    obtain ⟨A5, c5, rfl, hc5, hm5, hr5⟩ := HV.out.inner k u l hu hl
    rw [maxLen_eq] at hm5
    have HR5 := Lib.hid hr5
    have HLE := Lib.hid hle
    have HBD := Lib.hid hbd
    have k0 : (0 : Int) ≤ (k : Int) := by omega
    have k1 : (k : Int) < (ls.length : Int) := by omega
    have k2 : IntKind.i64.wrap ((k : Int) + 1) = (k : Int) + 1 := IntWalk.i64_in _ (by omega)
    have hlp : ∀ x ∈ l, 0 ≤ x := fun x hx => by obtain ⟨i, rfl, _⟩ := hle x hx; omega
    obtain ⟨R, hR⟩ : ∃ R, chooseR rest P left l = R := ⟨_, rfl⟩
    have hih := fun u q P W hq hU hr hq' => HIHA.out (k + 1) hkl u q P W hq hU hr hq'
    rw [hrest, e1] at hih
    have HIH := Lib.hid hih
    subst hdl
    have HQR := Lib.hid (rdi_own HOQ.out)
    obtain ⟨A4, c4, hx4, hc4, hm4, _⟩ := own_rd HOQ.out
    subst hx4
    rw [maxLen_eq] at hm4
    by_cases hRn : R < 0
    · have hno : ∀ x ∈ l, mayP rest P left x = false := choose_neg hlp (by rw [hR]; exact hRn)
      have HNO := Lib.hid hno
      have HSUF : Hid ((done ++ [(-1 : Int)]) ++ fillR rest P left = fillR ls noneP want) := Lib.hid (by
        rw [← hsuf, fillR_none (choose_m1 hlp (by rw [hR]; exact hRn)), List.append_assoc]; rfl)
      have HREST := Lib.hid hrest
      clear hno hsuf hR hRn hlp hih hbd hle hcell hu hr5 hl hd hrest e1 hkl
      go_wp2_with fail
      go_loopw [7, 22] (fun v7 v22 wr => ∃ (i : Nat), i ≤ l.length ∧ v22 = .int .i64 i ∧ v7 = .int .i64 (-1) ∧ Hid (Below wA.heap.size wA wr)) (fun _ v22 _ => l.length - (intOf v22).toNat)
      case atStart => exact ⟨0, Nat.zero_le _, rfl, rfl, Lib.hid (Below.refl _ _)⟩
      case round =>
       obtain ⟨i, hi', rfl, rfl, HBI⟩ := hrel
       obtain ⟨wB, rfl⟩ : ∃ wB : World, wB = wr := ⟨_, rfl⟩
       by_cases hli : i < l.length
       ·
        obtain ⟨b5, off5, rfl, hbl5, hcell5⟩ := HR5.out (by omega)
        obtain ⟨x, hx⟩ : ∃ x, l[i]? = some x := ⟨_, List.getElem?_eq_getElem hli⟩
        have d0 := cell_at hcell5 (bel_then HB.out HBI.out) hbl5 (ints_get hx)
        obtain ⟨xn, rfl, hx7⟩ := HLE.out x (List.mem_of_getElem? hx)
        have j0 : (0 : Int) ≤ (xn : Int) := by omega
        have j1 : (xn : Int) ≤ 64 := by omega
        have hmay := HNO.out _ (List.mem_of_getElem? hx)
        have hin := HU.out xn hx7
        clear hx hcell5
        by_cases hP : P xn = true
        · rw [hP] at hin
          have HIN := Lib.hid hin
          clear hP hmay hin
          go_wp2_with fail
          refine (l1Has_c _ (xn : Int) q _ (rdi_below HQR.out HBI.out)).mono ?_; rw [HIN.out]; rintro e w2 ⟨rfl, rfl⟩
          go_wp2
          exact ⟨⟨i + 1, by omega, by go_num, rfl, HBI⟩, by simp [intOf]; omega⟩
        · have hP : P xn = false := by simpa using hP
          rw [hP] at hin
          have HIN := Lib.hid hin
          have hbn := HBD.out (updP P xn)
          have HUN := Lib.hid (usedL_snoc (m := xn) HU.out)
          obtain ⟨r, hr⟩ : ∃ r, mostR rest (updP P xn) = r := ⟨_, rfl⟩
          rw [hr] at hbn
          have HRR2 := Lib.hid hr
          have s2 : IntKind.i64.wrap (1 + (r : Int)) = 1 + (r : Int) := IntWalk.i64_in _ (by omega)
          have e5 : ((1 + (r : Int)) == (left : Int)) = false := by
            rw [may_free hP, hr] at hmay
            rw [beq_eq_false_iff_ne]
            have := of_decide_eq_false hmay
            omega
          clear hP hr hin hmay
          go_wp2_with fail
          refine (l1Has_c _ (xn : Int) q _ (rdi_below HQR.out HBI.out)).mono ?_; rw [HIN.out]; rintro e w2 ⟨rfl, rfl⟩
          go_wp2_with fail
          refine (l1Own_c _ q _ (rdi_below HQR.out HBI.out) (by omega)).mono ?_; rintro e w3 ⟨v3', rfl, ho3, hb3⟩
          have HO3 := Lib.hid ho3
          have HB3 := Lib.hid (bel_then HBI.out hb3)
          have hs3 := hb3.size
          have hsB := HBI.out.size
          clear ho3 hb3
          go_wp2_with (at_builtin; refine wpList_app_rdg _ (by rfl) _ _ 26 rfl wB.heap.size 3 i0 (.int .i64 0) 1 8 Tryz.underlying26 hi hz0 hz1 hz2 rfl (by decide) _ _ _ rfl (HO3.out.alloc _) _ 1 [.int .i64 xn] rfl (rd_new _ rfl (Nat.le_refl _) (by rw [maxLen_eq]; omega)) rfl (ints_one [(xn : Int)]) (by rw [maxLen_eq]; omega) (by omega) (by simp; omega) ?_; intro v' w7 hown' hgrow _)
          have HO7 : Hid (w7.ownsRow wB.heap.size 3 1 v' (q ++ [(xn : Int)]).length (ints (q ++ [(xn : Int)]))) := Lib.hid (by rw [ints_append, List.length_append]; exact hown')
          have HB7 : Hid (Below wA.heap.size wA w7) := Lib.hid (bel_grown (bel_al HB3.out _) hgrow (fun q e => by have := (HO3.out.lt q e).1; omega))
          have hcn := HIH.out v' (q ++ [(xn : Int)]) (updP P xn) w7 (by simp; omega) HUN.out (HR.out.below (bel_then HB.out HB7.out)) (rdi_own HO7.out)
          rw [HRR2.out] at hcn
          have HCN := Lib.hid hcn
          clear hown' hgrow hcn
          refine HCN.out.mono ?_; rintro e w8 ⟨rfl, hb8⟩
          have HB8 := Lib.hid (bel_then HB7.out hb8)
          clear hb8
          go_wp2
          exact ⟨⟨i + 1, by omega, by go_num, rfl, HB8⟩, by simp [intOf]; omega⟩
       · obtain rfl : i = l.length := by omega
         have HOW2 := Lib.hid (own_below HOW.out HBI.out)
         have HBW := Lib.hid (bel_then HB.out HBI.out)
         have hsB := HBI.out.size
         go_wp2_with (at_builtin; refine wpList_app_rd _ rfl _ _ 26 rfl w.heap.size 3 i0 (.int .i64 0) 1 8 Tryz.underlying26 hi hz0 hz1 hz2 rfl (by decide) _ _ _ rfl (HOW2.out.alloc _) _ 1 [.int .i64 (-1)] rfl (rd_new _ rfl (Nat.le_refl _) (by rw [maxLen_eq]; omega)) rfl (ints_one [(-1)]) (by rw [maxLen_eq]; omega) (by omega) (by have := HBW.out.size; simp; omega) ?_; intro v' w7 hown' hgrow he)
         refine ⟨⟨done.length + 1, left, P, q, done ++ [-1], by omega, hleft, by simp, by omega, by go_num, rfl, HU, Lib.hid (by rw [HREST.out]; exact HSUF.out), Lib.hid ?_, Lib.hid ?_, Lib.hid ?_, Lib.hid (bel_grown (bel_al HBW.out _) hgrow (fun q e => (HOW.out.lt q e).1))⟩, by simp [intOf]; omega⟩
         · rw [ints_append, List.length_append]; exact hown'
         · exact kept2 ((own_below HOQ.out HBI.out).alloc _) hgrow HSP.out.symm
         · exact sep_grow he HSP.out (fun q e => by have := (HOQ.out.lt q e).2; simp; omega)
    · have hcs := choose_some (l := l) (rest := rest) (P := P) (left := left) (by rw [hR]; omega)
      rw [hR] at hcs
      obtain ⟨m, rfl, hm7⟩ := hle R hcs.1
      have hl1 := hcs.2
      have HSUF : Hid ((done ++ [(m : Int)]) ++ fillR rest (updP P m) (left - 1) = fillR ls noneP want) := Lib.hid (by
        rw [← hsuf, fillR_some hR, List.append_assoc]; rfl)
      have HREST := Lib.hid hrest
      have HRR := Lib.hid hR
      clear hcs hsuf hR hRn hlp hih hbd hle hcell hu hr5 hl hd hrest e1 hkl
      go_wp2_with fail
      go_loopw [7, 22] (fun v7 v22 wr => ∃ (i : Nat) (t : Int), i ≤ l.length ∧ v22 = .int .i64 i ∧ v7 = .int .i64 t ∧ (t = -1 ∨ t = (m : Int)) ∧ Hid (IfM1 t (chooseR rest P left (l.drop i) = (m : Int))) ∧ Hid (Below wA.heap.size wA wr)) (fun _ v22 _ => l.length - (intOf v22).toNat)
      case atStart => exact ⟨0, -1, Nat.zero_le _, rfl, rfl, .inl rfl, Lib.hid (fun _ => by rw [List.drop_zero]; exact HRR.out), Lib.hid (Below.refl _ _)⟩
      case round =>
       obtain ⟨i, t, hi', rfl, rfl, ht, HC, HBI⟩ := hrel
       obtain ⟨wB, rfl⟩ : ∃ wB : World, wB = wr := ⟨_, rfl⟩
       by_cases hli : i < l.length
       ·
        obtain ⟨b5, off5, rfl, hbl5, hcell5⟩ := HR5.out (by omega)
        obtain ⟨x, hx⟩ : ∃ x, l[i]? = some x := ⟨_, List.getElem?_eq_getElem hli⟩
        have d0 := cell_at hcell5 (bel_then HB.out HBI.out) hbl5 (ints_get hx)
        obtain ⟨xn, rfl, hx7⟩ := HLE.out x (List.mem_of_getElem? hx)
        have j0 : (0 : Int) ≤ (xn : Int) := by omega
        have j1 : (xn : Int) ≤ 64 := by omega
        have HX := Lib.hid hx
        have hin := HU.out xn hx7
        clear hx hcell5
        rcases ht with rfl | rfl
        · by_cases hP : P xn = true
          · rw [hP] at hin
            have HIN := Lib.hid hin
            have HC2 : Hid (IfM1 (-1) (chooseR rest P left (l.drop (i + 1)) = (m : Int))) := Lib.hid (fun _ => by rw [← choose_next HX.out (may_used hP)]; exact HC.out.get rfl)
            clear hP hin
            go_wp2_with fail
            refine (l1Has_c _ (xn : Int) q _ (rdi_below HQR.out HBI.out)).mono ?_; rw [HIN.out]; rintro e w2 ⟨rfl, rfl⟩
            go_wp2
            exact ⟨⟨i + 1, -1, by omega, by go_num, rfl, .inl rfl, HC2, HBI⟩, by simp [intOf]; omega⟩
          · have hP : P xn = false := by simpa using hP
            rw [hP] at hin
            have HIN := Lib.hid hin
            have hbn := HBD.out (updP P xn)
            have HUN := Lib.hid (usedL_snoc (m := xn) HU.out)
            obtain ⟨r, hr⟩ : ∃ r, mostR rest (updP P xn) = r := ⟨_, rfl⟩
            rw [hr] at hbn
            have HRR2 := Lib.hid hr
            have s2 : IntKind.i64.wrap (1 + (r : Int)) = 1 + (r : Int) := IntWalk.i64_in _ (by omega)
            by_cases hmay : 1 + r = left
            · have hyes : mayP rest P left (xn : Int) = true := by rw [may_free hP, hr]; exact decide_eq_true hmay
              have hxm := (choose_here HX.out hyes).symm.trans (HC.out.get rfl)
              have e5 : ((1 + (r : Int)) == (left : Int)) = true := by rw [beq_iff_eq]; omega
              obtain rfl : xn = m := by omega
              clear hP hr hin hmay hyes hxm
              go_wp2_with fail
              refine (l1Has_c _ (xn : Int) q _ (rdi_below HQR.out HBI.out)).mono ?_; rw [HIN.out]; rintro e w2 ⟨rfl, rfl⟩
              go_wp2_with fail
              refine (l1Own_c _ q _ (rdi_below HQR.out HBI.out) (by omega)).mono ?_; rintro e w3 ⟨v3', rfl, ho3, hb3⟩
              have HO3 := Lib.hid ho3
              have HB3 := Lib.hid (bel_then HBI.out hb3)
              have hs3 := hb3.size
              have hsB := HBI.out.size
              clear ho3 hb3
              go_wp2_with (at_builtin; refine wpList_app_rdg _ (by rfl) _ _ 26 rfl wB.heap.size 3 i0 (.int .i64 0) 1 8 Tryz.underlying26 hi hz0 hz1 hz2 rfl (by decide) _ _ _ rfl (HO3.out.alloc _) _ 1 [.int .i64 xn] rfl (rd_new _ rfl (Nat.le_refl _) (by rw [maxLen_eq]; omega)) rfl (ints_one [(xn : Int)]) (by rw [maxLen_eq]; omega) (by omega) (by simp; omega) ?_; intro v' w7 hown' hgrow _)
              have HO7 : Hid (w7.ownsRow wB.heap.size 3 1 v' (q ++ [(xn : Int)]).length (ints (q ++ [(xn : Int)]))) := Lib.hid (by rw [ints_append, List.length_append]; exact hown')
              have HB7 : Hid (Below wA.heap.size wA w7) := Lib.hid (bel_grown (bel_al HB3.out _) hgrow (fun q e => by have := (HO3.out.lt q e).1; omega))
              have hcn := HIH.out v' (q ++ [(xn : Int)]) (updP P xn) w7 (by simp; omega) HUN.out (HR.out.below (bel_then HB.out HB7.out)) (rdi_own HO7.out)
              rw [HRR2.out] at hcn
              have HCN := Lib.hid hcn
              clear hown' hgrow hcn
              refine HCN.out.mono ?_; rintro e w8 ⟨rfl, hb8⟩
              have HB8 := Lib.hid (bel_then HB7.out hb8)
              clear hb8
              go_wp2
              exact ⟨⟨i + 1, (xn : Int), by omega, by go_num, rfl, .inr rfl, Lib.hid (fun h => by omega), HB8⟩, by simp [intOf]; omega⟩
            · have hnot : mayP rest P left (xn : Int) = false := by rw [may_free hP, hr]; exact decide_eq_false hmay
              have HC2 : Hid (IfM1 (-1) (chooseR rest P left (l.drop (i + 1)) = (m : Int))) := Lib.hid (fun _ => by rw [← choose_next HX.out hnot]; exact HC.out.get rfl)
              have e5 : ((1 + (r : Int)) == (left : Int)) = false := by rw [beq_eq_false_iff_ne]; omega
              clear hP hr hin hmay hnot
              go_wp2_with fail
              refine (l1Has_c _ (xn : Int) q _ (rdi_below HQR.out HBI.out)).mono ?_; rw [HIN.out]; rintro e w2 ⟨rfl, rfl⟩
              go_wp2_with fail
              refine (l1Own_c _ q _ (rdi_below HQR.out HBI.out) (by omega)).mono ?_; rintro e w3 ⟨v3', rfl, ho3, hb3⟩
              have HO3 := Lib.hid ho3
              have HB3 := Lib.hid (bel_then HBI.out hb3)
              have hs3 := hb3.size
              have hsB := HBI.out.size
              clear ho3 hb3
              go_wp2_with (at_builtin; refine wpList_app_rdg _ (by rfl) _ _ 26 rfl wB.heap.size 3 i0 (.int .i64 0) 1 8 Tryz.underlying26 hi hz0 hz1 hz2 rfl (by decide) _ _ _ rfl (HO3.out.alloc _) _ 1 [.int .i64 xn] rfl (rd_new _ rfl (Nat.le_refl _) (by rw [maxLen_eq]; omega)) rfl (ints_one [(xn : Int)]) (by rw [maxLen_eq]; omega) (by omega) (by simp; omega) ?_; intro v' w7 hown' hgrow _)
              have HO7 : Hid (w7.ownsRow wB.heap.size 3 1 v' (q ++ [(xn : Int)]).length (ints (q ++ [(xn : Int)]))) := Lib.hid (by rw [ints_append, List.length_append]; exact hown')
              have HB7 : Hid (Below wA.heap.size wA w7) := Lib.hid (bel_grown (bel_al HB3.out _) hgrow (fun q e => by have := (HO3.out.lt q e).1; omega))
              have hcn := HIH.out v' (q ++ [(xn : Int)]) (updP P xn) w7 (by simp; omega) HUN.out (HR.out.below (bel_then HB.out HB7.out)) (rdi_own HO7.out)
              rw [HRR2.out] at hcn
              have HCN := Lib.hid hcn
              clear hown' hgrow hcn
              refine HCN.out.mono ?_; rintro e w8 ⟨rfl, hb8⟩
              have HB8 := Lib.hid (bel_then HB7.out hb8)
              clear hb8
              go_wp2
              exact ⟨⟨i + 1, -1, by omega, by go_num, rfl, .inl rfl, HC2, HB8⟩, by simp [intOf]; omega⟩
        · have hmn : (0 : Int) ≤ (m : Int) := by omega
          go_wp2
          exact ⟨⟨i + 1, (m : Int), by omega, by go_num, rfl, .inr rfl, Lib.hid (fun h => by omega), HBI⟩, by simp [intOf]; omega⟩
       · obtain rfl : i = l.length := by omega
         have htm : t = (m : Int) := by
          rcases ht with h | h
          · have := HC.out.get h
            rw [choose_end] at this
            omega
          · exact h
         subst htm
         have hmn : (0 : Int) ≤ (m : Int) := by omega
         have HOW2 := Lib.hid (own_below HOW.out HBI.out)
         have HOQ2 := Lib.hid (own_below HOQ.out HBI.out)
         have HBW := Lib.hid (bel_then HB.out HBI.out)
         have hsB := HBI.out.size
         clear ht
         go_wp2_with (first | (at_builtin; refine wpList_app_rd _ rfl _ _ 26 rfl w.heap.size 3 i0 (.int .i64 0) 1 8 Tryz.underlying26 hi hz0 hz1 hz2 rfl (by decide) _ _ _ rfl (HOQ2.out.alloc _) _ 1 [.int .i64 (m : Int)] rfl (rd_new _ rfl (Nat.le_refl _) (by rw [maxLen_eq]; omega)) rfl (ints_one [(m : Int)]) (by rw [maxLen_eq]; omega) (by omega) (by have := HBW.out.size; simp; omega) ?_; intro vq wq hownq hgrowq heq; have HQ9 : Hid (wq.ownsRow w.heap.size 3 1 vq (q ++ [(m : Int)]).length (ints (q ++ [(m : Int)]))) := Lib.hid (by rw [ints_append, List.length_append]; exact hownq); have HOW3 : Hid (wq.ownsRow w.heap.size 3 1 _ done.length (ints done)) := Lib.hid (kept2 (HOW2.out.alloc _) hgrowq HSP.out); have HSP3 : Hid (Sep vq _) := Lib.hid (sep_grow heq HSP.out.symm (fun q e => by have := (HOW.out.lt q e).2; simp; omega)); have HB9 : Hid (Below w.heap.size w wq) := Lib.hid (bel_grown (bel_al HBW.out _) hgrowq (fun q e => (HOQ.out.lt q e).1)); have hsQ := hgrowq.size; clear hownq hgrowq heq) | (at_builtin; refine wpList_app_rd _ rfl _ _ 26 rfl w.heap.size 3 i0 (.int .i64 0) 1 8 Tryz.underlying26 hi hz0 hz1 hz2 rfl (by decide) _ _ _ rfl (HOW3.out.alloc _) _ 1 [.int .i64 (m : Int)] rfl (rd_new _ rfl (Nat.le_refl _) (by rw [maxLen_eq]; omega)) rfl (ints_one [(m : Int)]) (by rw [maxLen_eq]; omega) (by omega) (by have := HB9.out.size; simp; omega) ?_; intro v' w7 hown' hgrow he))
         refine ⟨⟨done.length + 1, left - 1, updP P m, q ++ [(m : Int)], done ++ [(m : Int)], by omega, by omega, by simp, by simp; omega, by go_num, congrArg (Value.int .i64) (by omega), Lib.hid (usedL_snoc HU.out), Lib.hid (by rw [HREST.out]; exact HSUF.out), Lib.hid ?_, Lib.hid ?_, Lib.hid ?_, Lib.hid (bel_grown (bel_al HB9.out _) hgrow (fun q e => (HOW.out.lt q e).1))⟩, by simp [intOf]; omega⟩
         · rw [ints_append, List.length_append]; exact hown'
         · exact kept2 (HQ9.out.alloc _) hgrow HSP3.out
         · exact sep_grow he HSP3.out.symm (fun q e => by have := (HQ9.out.lt q e).2; simp; omega)
   · obtain rfl : k = ls.length := by omega
     go_wp2
     go_ret
     have e := HF.out
     rw [List.drop_length] at e
     have e2 : done = fillR ls noneP want := by rw [← e]; simp [fillR]
     rw [← e2]
     exact ⟨_, rfl, HOW.out, HB.out⟩
end Go.Proofs.YtahehdgkbhjpoaaGreatDoor

namespace Go.Proofs.YtahehdgkbhjpoaaGreatDoor
set_option linter.unusedVariables false
set_option linter.unusedSimpArgs false
open Go.RowKit

def fillStationsV (n : Int) (l : List St) (p q : List Int) (a : Int) : List Int × Bool := if askM n l p q a = true then (fillR (reachL n.toNat (arcs l) p q a) noneP (mostR (reachL n.toNat (arcs l) p q a) noneP), true) else ([], false)
theorem fillStationsV_len (n : Int) (l : List St) (p q : List Int) (a : Int) : (fillStationsV n l p q a).1.length ≤ 1000000 := by
  unfold fillStationsV
  split
  · rename_i h
    obtain ⟨hok, _⟩ := askM_true h
    obtain ⟨_, g2, g3, g4, g5⟩ := goodMv_true hok
    dsimp only
    rw [fillR_len, reachL_len]
    omega
  · simp

end Go.Proofs.YtahehdgkbhjpoaaGreatDoor

namespace Go.Proofs.YtahehdgkbhjpoaaGreatDoor
set_option linter.unusedVariables false
set_option linter.unusedSimpArgs false
open Go.RowKit

theorem inc_ext : ∀ {a b : List Int}, a.Pairwise (· < ·) → b.Pairwise (· < ·) → (∀ x, x ∈ a ↔ x ∈ b) → a = b := by
  intro a
  induction a with
  | nil =>
    intro b _ _ h
    cases b with
    | nil => rfl
    | cons y b => have := (h y).2 (by simp); simp at this
  | cons x a ih =>
    intro b ha hb h
    cases b with
    | nil => have := (h x).1 (by simp); simp at this
    | cons y b =>
      rw [List.pairwise_cons] at ha hb
      have hx := (h x).1 (by simp)
      have hy := (h y).2 (by simp)
      rw [List.mem_cons] at hx hy
      have e : x = y := by
        rcases hx with hx | hx
        · exact hx
        · rcases hy with hy | hy
          · exact hy.symm
          · have h1 := hb.1 x hx; have h2 := ha.1 y hy; omega
      subst e
      rw [ih ha.2 hb.2 (fun z => ?_)]
      have hz := h z
      rw [List.mem_cons, List.mem_cons] at hz
      constructor
      · intro hm
        rcases hz.1 (.inr hm) with h1 | h1
        · subst h1; have := ha.1 z hm; omega
        · exact h1
      · intro hm
        rcases hz.2 (.inr hm) with h1 | h1
        · subst h1; have := hb.1 z hm; omega
        · exact h1
theorem selI_inc (p : Nat → Bool) : ∀ n, (selI p n).Pairwise (· < ·) := by
  intro n
  induction n with
  | zero => simp [selI]
  | succ n ih =>
    cases h : p n with
    | true =>
      rw [selI_yes h, List.pairwise_append]
      refine ⟨ih, by simp, fun x hx y hy => ?_⟩
      rw [List.mem_singleton] at hy
      subst hy
      obtain ⟨i, rfl, hi, _⟩ := selI_mem.1 hx
      omega
    | false => rw [selI_no h]; exact ih
/-- How many numbers below 7 are in P. -/
def cntP (P : Nat → Bool) : Nat := (selI P 7).length
theorem cntP_congr {P Q : Nat → Bool} (h : ∀ i, i < 7 → P i = Q i) : cntP P = cntP Q := by unfold cntP; rw [selI_same h]
theorem cntP_le (P : Nat → Bool) : cntP P ≤ 7 := selI_len _ _
theorem cnt_upd (P : Nat → Bool) (m : Nat) : ∀ n, (selI (updP P m) n).length = (selI P n).length + if m < n ∧ P m = false then 1 else 0 := by
  intro n
  induction n with
  | zero => simp [selI]
  | succ n ih =>
    by_cases hm : n = m
    · subst hm
      have hu : updP P n n = true := by simp [updP]
      rw [selI_yes hu, List.length_append, ih, if_neg (by omega)]
      cases hP : P n with
      | true => rw [selI_yes hP]; simp
      | false => rw [selI_no hP]; simp
    · have hu : updP P m n = P n := by simp [updP, hm]
      have e : (m < n + 1 ∧ P m = false) ↔ (m < n ∧ P m = false) := by constructor <;> (rintro ⟨h1, h2⟩; exact ⟨by omega, h2⟩)
      cases hP : P n with
      | true => rw [selI_yes (hu.trans hP), selI_yes hP, List.length_append, List.length_append, ih]; simp only [e, List.length_singleton]; omega
      | false => rw [selI_no (hu.trans hP), selI_no hP, ih]; simp only [e]
theorem cntP_yes {P : Nat → Bool} {m : Nat} (h : P m = true) : cntP (updP P m) = cntP P := by unfold cntP; rw [cnt_upd, if_neg (by rw [h]; simp)]; rfl
theorem cntP_no {P : Nat → Bool} {m : Nat} (h : P m = false) (h7 : m < 7) : cntP (updP P m) = cntP P + 1 := by unfold cntP; rw [cnt_upd, if_pos ⟨h7, h⟩]
theorem len_cnt {q : List Int} {P : Nat → Bool} (hi : q.Pairwise (· < ·)) (hb : ∀ x ∈ q, ∃ i : Nat, x = (i : Int) ∧ i < 7) (hU : UsedL q P) : q.length = cntP P := by
  unfold cntP
  rw [inc_ext hi (selI_inc P 7) (fun x => ⟨fun hx => ?_, fun hx => ?_⟩)]
  · obtain ⟨i, rfl, h7⟩ := hb x hx
    exact selI_mem.2 ⟨i, rfl, h7, by rw [← hU i h7]; exact decide_eq_true hx⟩
  · obtain ⟨i, rfl, h7, hp⟩ := selI_mem.1 hx
    rw [← hU i h7] at hp
    exact of_decide_eq_true hp

/-- The movers that reach a station of S. -/
def hitL (ls : List (List Int)) (S : List Int) (i : Nat) : Bool := S.any fun k => decide ((i : Int) ∈ ls.getD k.toNat [])
def orP (P : Nat → Bool) (l : List Int) (i : Nat) : Bool := P i || decide ((i : Int) ∈ l)
def unP (P Q : Nat → Bool) (i : Nat) : Bool := P i || Q i
theorem hitL_snoc (ls : List (List Int)) (S : List Int) (k : Nat) (i : Nat) : hitL ls (S ++ [(k : Int)]) i = orP (hitL ls S) (ls.getD k []) i := by
  unfold hitL orP
  rw [List.any_append]; simp
theorem hitL_cons (ls : List (List Int)) (k : Nat) (S : List Int) (P : Nat → Bool) (i : Nat) : unP P (hitL ls ((k : Int) :: S)) i = unP (orP P (ls.getD k [])) (hitL ls S) i := by
  unfold unP hitL orP
  rw [List.any_cons]; simp [Bool.or_assoc]
def blkS (ls : List (List Int)) (S : List Int) : Bool := decide (cntP (hitL ls S) < S.length)
theorem blkS_ne {ls : List (List Int)} {S : List Int} (h : blkS ls S = true) : S ≠ [] := by
  rintro rfl
  unfold blkS at h
  simp at h

/-- The order of lists, as a number. -/
def cmpL : List Int → List Int → Int
  | [], [] => 0
  | [], _ :: _ => -1
  | _ :: _, [] => 1
  | x :: s, y :: t => if x < y then -1 else if y < x then 1 else cmpL s t
theorem cmpL_anti : ∀ s t, cmpL t s = - cmpL s t := by
  intro s
  induction s with
  | nil => intro t; cases t <;> simp [cmpL]
  | cons x s ih =>
    intro t
    cases t with
    | nil => simp [cmpL]
    | cons y t =>
      simp only [cmpL]
      rcases Int.lt_trichotomy x y with h | h | h
      · rw [if_neg (by omega), if_pos h, if_pos h]; rfl
      · subst h; simp [ih]
      · rw [if_pos h, if_neg (by omega), if_pos h]
theorem cmpL_zero : ∀ s t, cmpL s t = 0 → s = t := by
  intro s
  induction s with
  | nil => intro t h; cases t with
    | nil => rfl
    | cons y t => simp [cmpL] at h
  | cons x s ih =>
    intro t h
    cases t with
    | nil => simp [cmpL] at h
    | cons y t =>
      simp only [cmpL] at h
      rcases Int.lt_trichotomy x y with h1 | h1 | h1
      · rw [if_pos h1] at h; omega
      · subst h1; simp at h; rw [ih t h]
      · rw [if_neg (by omega), if_pos h1] at h; omega
theorem cmpL_trans : ∀ a b c, cmpL a b < 0 → cmpL b c < 0 → cmpL a c < 0 := by
  intro a
  induction a with
  | nil =>
    intro b c h1 h2
    cases b with
    | nil => simp [cmpL] at h1
    | cons y b => cases c with
      | nil => simp [cmpL] at h2
      | cons z c => simp [cmpL]
  | cons x a ih =>
    intro b c h1 h2
    cases b with
    | nil => simp [cmpL] at h1
    | cons y b => cases c with
      | nil => simp [cmpL] at h2
      | cons z c =>
        simp only [cmpL] at h1 h2 ⊢
        split at h1
        · split at h2
          · rw [if_pos (by omega)]; omega
          · split at h2
            · omega
            · rw [if_pos (by omega)]; omega
        · split at h1
          · omega
          · split at h2
            · rw [if_pos (by omega)]; omega
            · split at h2
              · omega
              · rw [if_neg (by omega), if_neg (by omega)]; exact ih b c h1 h2
theorem cmpL_01 : ∀ s t, -1 ≤ cmpL s t ∧ cmpL s t ≤ 1 := by
  intro s
  induction s with
  | nil => intro t; cases t <;> simp [cmpL]
  | cons x s ih =>
    intro t
    cases t with
    | nil => simp [cmpL]
    | cons y t =>
      simp only [cmpL]
      split
      · omega
      · split
        · omega
        · exact ih t
def cmpT (s t : List Int) : Int := if s.length < t.length then -1 else if t.length < s.length then 1 else cmpL s t
theorem cmpT_trans {a b c : List Int} (h1 : cmpT a b < 0) (h2 : cmpT b c < 0) : cmpT a c < 0 := by
  unfold cmpT at h1 h2 ⊢
  split at h1
  · split at h2
    · rw [if_pos (by omega)]; omega
    · split at h2
      · omega
      · rw [if_pos (by omega)]; omega
  · split at h1
    · omega
    · split at h2
      · rw [if_pos (by omega)]; omega
      · split at h2
        · omega
        · rw [if_neg (by omega), if_neg (by omega)]; exact cmpL_trans _ _ _ h1 h2

/-- The best blocked set among those with the numbers 1 to t; nothing if there is none. -/
def bestS (ls : List (List Int)) : Nat → List Int
  | 0 => []
  | t + 1 => if blkS ls (selI (t + 1).testBit ls.length) = true ∧ (bestS ls t = [] ∨ cmpT (selI (t + 1).testBit ls.length) (bestS ls t) < 0) then selI (t + 1).testBit ls.length else bestS ls t
theorem bestS_spec (ls : List (List Int)) : ∀ t, (bestS ls t = [] → ∀ s, 1 ≤ s → s ≤ t → blkS ls (selI s.testBit ls.length) = false) ∧
    (bestS ls t ≠ [] → (∃ s, 1 ≤ s ∧ s ≤ t ∧ bestS ls t = selI s.testBit ls.length) ∧ blkS ls (bestS ls t) = true ∧ ∀ s, 1 ≤ s → s ≤ t → blkS ls (selI s.testBit ls.length) = true → ¬ cmpT (selI s.testBit ls.length) (bestS ls t) < 0) := by
  intro t
  induction t with
  | zero => exact ⟨fun _ s h1 h2 => by omega, fun h => absurd rfl h⟩
  | succ t ih =>
    obtain ⟨i1, i2⟩ := ih
    simp only [bestS]
    generalize hS : selI (t + 1).testBit ls.length = S
    by_cases hc : blkS ls S = true ∧ (bestS ls t = [] ∨ cmpT S (bestS ls t) < 0)
    · rw [if_pos hc]
      refine ⟨fun h => absurd h (blkS_ne hc.1), fun _ => ⟨⟨t + 1, by omega, by omega, hS.symm⟩, hc.1, fun s h1 h2 h3 => ?_⟩⟩
      by_cases hs : s = t + 1
      · subst hs
        rw [hS]
        unfold cmpT
        rw [if_neg (by omega), if_neg (by omega)]
        have := cmpL_anti S S
        omega
      · rcases hc.2 with h4 | h4
        · have := i1 h4 s h1 (by omega)
          rw [this] at h3; cases h3
        · intro h5
          by_cases h6 : bestS ls t = []
          · have := i1 h6 s h1 (by omega)
            rw [this] at h3; cases h3
          · exact (i2 h6).2.2 s h1 (by omega) h3 (cmpT_trans h5 h4)
    · rw [if_neg hc]
      refine ⟨fun h s h1 h2 => ?_, fun h => ?_⟩
      · by_cases hs : s = t + 1
        · subst hs
          rw [hS]
          cases hb : blkS ls S with
          | false => rfl
          | true => exact absurd ⟨hb, .inl h⟩ hc
        · exact i1 h s h1 (by omega)
      · obtain ⟨⟨s0, a1, a2, a3⟩, a4, a5⟩ := i2 h
        refine ⟨⟨s0, a1, by omega, a3⟩, a4, fun s h1 h2 h3 => ?_⟩
        by_cases hs : s = t + 1
        · subst hs
          rw [hS] at h3 ⊢
          exact fun h4 => hc ⟨h3, .inr h4⟩
        · exact a5 s h1 (by omega) h3

/-- The first place k of j, from k on, with a rest. -/
def blkG (f : Nat → Option (List Int)) : Nat → Nat → Option (List Int)
  | _, 0 => none
  | k, j + 1 => match f k with
    | some T => some ((k : Int) :: T)
    | none => blkG f (k + 1) j
/-- The first set of n further stations from k on that, with those before, has fewer movers than N. -/
def blkT (ls : List (List Int)) (N : Nat) : Nat → Nat → (Nat → Bool) → Option (List Int)
  | 0, _, P => if cntP P < N then some [] else none
  | n + 1, k, P => blkG (fun i => blkT ls N n (i + 1) (orP P (ls.getD i []))) k (ls.length - k)
def Inc (lo hi : Nat) (T : List Int) : Prop := T.Pairwise (· < ·) ∧ ∀ x ∈ T, (lo : Int) ≤ x ∧ x < (hi : Int)
theorem inc_cons {lo hi : Nat} {x : Int} {T : List Int} (h : Inc lo hi (x :: T)) : ∃ k : Nat, x = (k : Int) ∧ lo ≤ k ∧ k < hi ∧ Inc (k + 1) hi T := by
  obtain ⟨h1, h2⟩ := h
  rw [List.pairwise_cons] at h1
  have hx := h2 x (by simp)
  refine ⟨x.toNat, by omega, by omega, by omega, h1.2, fun y hy => ?_⟩
  have a1 := h1.1 y hy
  have a2 := h2 y (List.mem_cons_of_mem _ hy)
  omega
theorem inc_mk {k lo hi : Nat} {T : List Int} (h : Inc (k + 1) hi T) (h1 : lo ≤ k) (h2 : k < hi) : Inc lo hi ((k : Int) :: T) := by
  refine ⟨List.pairwise_cons.2 ⟨fun y hy => ?_, h.1⟩, fun y hy => ?_⟩
  · have := h.2 y hy; omega
  · rcases List.mem_cons.1 hy with rfl | hy
    · omega
    · have := h.2 y hy; omega
theorem blkG_none {f : Nat → Option (List Int)} : ∀ j k, blkG f k j = none → ∀ i, k ≤ i → i < k + j → f i = none := by
  intro j
  induction j with
  | zero => intro k _ i h1 h2; omega
  | succ j ih =>
    intro k h i h1 h2
    simp only [blkG] at h
    split at h
    · cases h
    · rename_i hf
      by_cases hi : i = k
      · subst hi; exact hf
      · exact ih (k + 1) h i (by omega) (by omega)
theorem blkG_some {f : Nat → Option (List Int)} : ∀ j k T, blkG f k j = some T → ∃ i T', k ≤ i ∧ i < k + j ∧ T = (i : Int) :: T' ∧ f i = some T' ∧ ∀ i', k ≤ i' → i' < i → f i' = none := by
  intro j
  induction j with
  | zero => intro k T h; simp [blkG] at h
  | succ j ih =>
    intro k T h
    simp only [blkG] at h
    split at h
    · rename_i T' hf
      exact ⟨k, T', Nat.le_refl _, by omega, (Option.some.inj h).symm, hf, fun i' h1 h2 => by omega⟩
    · rename_i hf
      obtain ⟨i, T', a1, a2, a3, a4, a5⟩ := ih (k + 1) T h
      refine ⟨i, T', by omega, by omega, a3, a4, fun i' h1 h2 => ?_⟩
      by_cases hi : i' = k
      · subst hi; exact hf
      · exact a5 i' (by omega) h2
theorem blkT_none (ls : List (List Int)) (N : Nat) : ∀ n k P, blkT ls N n k P = none → ∀ T, T.length = n → Inc k ls.length T → ¬ cntP (unP P (hitL ls T)) < N := by
  intro n
  induction n with
  | zero =>
    intro k P h T hT _
    obtain rfl := List.eq_nil_of_length_eq_zero hT
    have e : cntP (unP P (hitL ls [])) = cntP P := cntP_congr (fun i _ => by simp [unP, hitL])
    rw [e]
    simp only [blkT] at h
    split at h
    · cases h
    · assumption
  | succ n ih =>
    intro k P h T hT hI
    cases T with
    | nil => simp at hT
    | cons x T =>
      obtain ⟨i, rfl, h1, h2, h3⟩ := inc_cons hI
      simp only [blkT] at h
      have h4 := blkG_none _ _ h i h1 (by omega)
      have h5 := ih _ _ h4 T (by simpa using hT) h3
      rw [cntP_congr (fun j _ => hitL_cons ls i T P j)]
      exact h5
theorem blkT_some (ls : List (List Int)) (N : Nat) : ∀ n k P T, blkT ls N n k P = some T → T.length = n ∧ Inc k ls.length T ∧ cntP (unP P (hitL ls T)) < N ∧
    ∀ T', T'.length = n → Inc k ls.length T' → cntP (unP P (hitL ls T')) < N → ¬ cmpL T' T < 0 := by
  intro n
  induction n with
  | zero =>
    intro k P T h
    simp only [blkT] at h
    split at h
    · rename_i hc
      obtain rfl := Option.some.inj h
      have e : cntP (unP P (hitL ls [])) = cntP P := cntP_congr (fun i _ => by simp [unP, hitL])
      refine ⟨rfl, ⟨List.Pairwise.nil, fun x hx => by simp at hx⟩, by rw [e]; exact hc, fun T' h1 _ _ => ?_⟩
      obtain rfl := List.eq_nil_of_length_eq_zero h1
      simp [cmpL]
    · cases h
  | succ n ih =>
    intro k P T h
    simp only [blkT] at h
    obtain ⟨i, T1, a1, a2, rfl, a4, a5⟩ := blkG_some _ _ _ h
    obtain ⟨b1, b2, b3, b4⟩ := ih _ _ _ a4
    refine ⟨by simp [b1], inc_mk b2 a1 (by omega), by rw [cntP_congr (fun j _ => hitL_cons ls i T1 P j)]; exact b3, fun T' h1 h2 h3 => ?_⟩
    cases T' with
    | nil => simp at h1
    | cons x T' =>
      obtain ⟨i', rfl, c1, c2, c3⟩ := inc_cons h2
      rw [cntP_congr (fun j _ => hitL_cons ls i' T' P j)] at h3
      simp only [cmpL]
      rcases Nat.lt_trichotomy i' i with hi | hi | hi
      · exact absurd h3 (blkT_none ls N n _ _ (a5 i' c1 hi) T' (by simpa using h1) c3)
      · subst hi
        rw [if_neg (by omega), if_neg (by omega)]
        exact b4 T' (by simpa using h1) c3 h3
      · rw [if_neg (by omega), if_pos (by omega)]; omega
/-- The first set of the least size from N on, in j sizes. -/
def blkN (ls : List (List Int)) : Nat → Nat → Option (List Int)
  | _, 0 => none
  | N, j + 1 => match blkT ls N N 0 noneP with
    | some T => some T
    | none => blkN ls (N + 1) j
theorem blkN_none {ls : List (List Int)} : ∀ j N, blkN ls N j = none → ∀ M, N ≤ M → M < N + j → blkT ls M M 0 noneP = none := by
  intro j
  induction j with
  | zero => intro N _ M h1 h2; omega
  | succ j ih =>
    intro N h M h1 h2
    simp only [blkN] at h
    split at h
    · cases h
    · rename_i hf
      by_cases hi : M = N
      · subst hi; exact hf
      · exact ih (N + 1) h M (by omega) (by omega)
theorem blkN_some {ls : List (List Int)} : ∀ j N T, blkN ls N j = some T → ∃ M, N ≤ M ∧ M < N + j ∧ blkT ls M M 0 noneP = some T ∧ ∀ M', N ≤ M' → M' < M → blkT ls M' M' 0 noneP = none := by
  intro j
  induction j with
  | zero => intro N T h; simp [blkN] at h
  | succ j ih =>
    intro N T h
    simp only [blkN] at h
    split at h
    · rename_i T' hf
      exact ⟨N, Nat.le_refl _, by omega, by rw [hf]; exact h, fun i' h1 h2 => by omega⟩
    · rename_i hf
      obtain ⟨M, a1, a2, a3, a4⟩ := ih (N + 1) T h
      refine ⟨M, by omega, by omega, a3, fun i' h1 h2 => ?_⟩
      by_cases hi : i' = N
      · subst hi; exact hf
      · exact a4 i' (by omega) h2
theorem bits_exist (L : Nat) : ∀ S : List Int, (∀ x ∈ S, 0 ≤ x ∧ x < (L : Int)) → ∃ M, M < 2 ^ L ∧ ∀ i : Nat, i < L → M.testBit i = decide ((i : Int) ∈ S) := by
  intro S
  induction S with
  | nil => intro _; exact ⟨0, Nat.two_pow_pos _, fun i _ => by simp⟩
  | cons x S ih =>
    intro h
    obtain ⟨M, h1, h2⟩ := ih (fun y hy => h y (List.mem_cons_of_mem _ hy))
    obtain ⟨k, rfl⟩ := Int.eq_ofNat_of_zero_le (h x (by simp)).1
    have hk := (h (k : Int) (by simp)).2
    refine ⟨M ||| 2 ^ k, Nat.or_lt_two_pow h1 (Nat.pow_lt_pow_right (by omega) (by omega)), fun i hi => ?_⟩
    rw [Nat.testBit_or, h2 i hi, Nat.testBit_two_pow]
    by_cases e : k = i
    · subst e; simp
    · have : ¬ ((i : Int) = (k : Int)) := by omega
      simp [e, this]
theorem inc_bits {L : Nat} {S : List Int} (h : Inc 0 L S) (hne : S ≠ []) : ∃ s, 1 ≤ s ∧ s ≤ 2 ^ L - 1 ∧ selI s.testBit L = S := by
  obtain ⟨M, h1, h2⟩ := bits_exist L S (fun x hx => h.2 x hx)
  have e : selI M.testBit L = S := by
    refine inc_ext (selI_inc _ _) h.1 (fun x => ⟨fun hx => ?_, fun hx => ?_⟩)
    · obtain ⟨i, rfl, hi, hb⟩ := selI_mem.1 hx
      rw [h2 i hi] at hb
      exact of_decide_eq_true hb
    · have hb := h.2 x hx
      obtain ⟨i, rfl⟩ := Int.eq_ofNat_of_zero_le hb.1
      exact selI_mem.2 ⟨i, rfl, by omega, by rw [h2 i (by omega)]; exact decide_eq_true hx⟩
  refine ⟨M, ?_, by omega, e⟩
  rcases Nat.eq_zero_or_pos M with h0 | h0
  · subst h0
    exfalso
    apply hne
    rw [← e]
    unfold selI
    simp
  · exact h0
theorem selI_Inc (p : Nat → Bool) (L : Nat) : Inc 0 L (selI p L) := ⟨selI_inc p L, fun x hx => by obtain ⟨i, rfl, hi, _⟩ := selI_mem.1 hx; omega⟩
theorem blk_of {ls : List (List Int)} {T : List Int} : cntP (unP noneP (hitL ls T)) = cntP (hitL ls T) := cntP_congr (fun i _ => by simp [unP, noneP])
def blockedR (ls : List (List Int)) : List Int := bestS ls (2 ^ ls.length - 1)
theorem blocked_none {ls : List (List Int)} (h : blkN ls 1 ls.length = none) : blockedR ls = [] := by
  rcases Decidable.em (blockedR ls = []) with h0 | h0
  · exact h0
  · exfalso
    obtain ⟨⟨s, _, _, hs⟩, hb, _⟩ := (bestS_spec ls _).2 h0
    have hI : Inc 0 ls.length (blockedR ls) := by rw [show blockedR ls = _ from hs]; exact selI_Inc _ _
    have hl : (blockedR ls).length ≤ ls.length := by rw [show blockedR ls = _ from hs]; exact selI_len _ _
    have hp := List.length_pos_iff.2 h0
    have hn := blkN_none _ _ h (blockedR ls).length (by omega) (by omega)
    have := blkT_none ls _ _ _ _ hn _ rfl hI
    rw [blk_of] at this
    exact this (of_decide_eq_true hb)
theorem blocked_some {ls : List (List Int)} {T : List Int} (h : blkN ls 1 ls.length = some T) : blockedR ls = T ∧ T ≠ [] := by
  obtain ⟨N, a1, a2, a3, a4⟩ := blkN_some _ _ _ h
  obtain ⟨b1, b2, b3, b4⟩ := blkT_some ls N _ _ _ _ a3
  have hT : T ≠ [] := by rintro rfl; simp at b1; omega
  refine ⟨?_, hT⟩
  rw [blk_of] at b3
  have hTb : blkS ls T = true := by unfold blkS; rw [b1]; exact decide_eq_true b3
  obtain ⟨s, s1, s2, s3⟩ := inc_bits b2 hT
  have h0 : blockedR ls ≠ [] := fun e => by
    have := (bestS_spec ls _).1 e s s1 s2
    rw [s3, hTb] at this
    cases this
  obtain ⟨⟨s', _, _, hs⟩, hb, hmin⟩ := (bestS_spec ls _).2 h0
  have hm := hmin s s1 s2 (by rw [s3]; exact hTb)
  rw [s3] at hm
  change ¬ cmpT T (blockedR ls) < 0 at hm
  have hI : Inc 0 ls.length (blockedR ls) := by rw [show blockedR ls = _ from hs]; exact selI_Inc _ _
  have hl : (blockedR ls).length ≤ ls.length := by rw [show blockedR ls = _ from hs]; exact selI_len _ _
  have hp := List.length_pos_iff.2 h0
  have hc := of_decide_eq_true (show decide (cntP (hitL ls (blockedR ls)) < (blockedR ls).length) = true from hb)
  have hge : N ≤ (blockedR ls).length := by
    rcases Nat.lt_or_ge (blockedR ls).length N with h1 | h1
    · exfalso
      have hn := a4 (blockedR ls).length (by omega) h1
      have := blkT_none ls _ _ _ _ hn _ rfl hI
      rw [blk_of] at this
      exact this hc
    · exact h1
  unfold cmpT at hm
  rw [b1] at hm
  by_cases he : N < (blockedR ls).length
  · rw [if_pos he] at hm; omega
  · rw [if_neg he, if_neg (by omega)] at hm
    have hN : (blockedR ls).length = N := by omega
    have h5 := b4 _ hN hI (by rw [blk_of]; rw [hN] at hc; exact hc)
    have h6 := cmpL_anti T (blockedR ls)
    exact (cmpL_zero _ _ (by omega)).symm
end Go.Proofs.YtahehdgkbhjpoaaGreatDoor

namespace Go.Proofs.YtahehdgkbhjpoaaGreatDoor
set_option linter.unusedVariables false
set_option linter.unusedSimpArgs false
open Go.RowKit

theorem cmpI_less {a b : Int} (h : a < b) : cmpI a b = -1 := by unfold cmpI; rw [if_pos h]
theorem cmpI_more {a b : Int} (h : b < a) : cmpI a b = 1 := by unfold cmpI; rw [if_neg (by omega), if_pos h]
theorem cmpI_same (a : Int) : cmpI a a = 0 := by unfold cmpI; rw [if_neg (by omega), if_neg (by omega)]
theorem cmpL_at {s t : List Int} {k : Nat} {x y : Int} (hx : s[k]? = some x) (hy : t[k]? = some y) : cmpL (s.drop k) (t.drop k) = if x < y then -1 else if y < x then 1 else cmpL (s.drop (k + 1)) (t.drop (k + 1)) := by
  have h1 := (List.getElem?_eq_some_iff.1 hx).1
  have h2 := (List.getElem?_eq_some_iff.1 hy).1
  rw [List.drop_eq_getElem_cons h1, List.drop_eq_getElem_cons h2]
  rw [List.getElem?_eq_getElem h1] at hx
  rw [List.getElem?_eq_getElem h2] at hy
  rw [Option.some.inj hx, Option.some.inj hy]; rfl
theorem cmpT_01 (s t : List Int) : -1 ≤ cmpT s t ∧ cmpT s t ≤ 1 := by
  unfold cmpT
  split
  · omega
  · split
    · omega
    · exact cmpL_01 s t
theorem orI_two (s t : List Int) : orI (cmpI (s.length : Int) (t.length : Int)) (cmpL s t) = cmpT s t := by
  unfold cmpT orI
  rcases Nat.lt_trichotomy s.length t.length with h | h | h
  · rw [cmpI_less (by omega), if_neg (by omega), if_pos h]
  · rw [show cmpI (s.length : Int) (t.length : Int) = 0 by rw [h]; exact cmpI_same _, if_pos rfl, if_neg (by omega), if_neg (by omega)]
  · rw [cmpI_more (by omega), if_neg (by omega), if_neg (by omega), if_pos h]
end Go.Proofs.YtahehdgkbhjpoaaGreatDoor

namespace Go.Proofs.YtahehdgkbhjpoaaGreatDoor
set_option linter.unusedVariables false
set_option linter.unusedSimpArgs false
open Go.RowKit

theorem find_min {G : Int → Bool} : ∀ {a : List Int}, a.Pairwise (· ≤ ·) → ∀ {x : Int}, a.find? G = some x → x ∈ a ∧ G x = true ∧ ∀ y ∈ a, G y = true → x ≤ y := by
  intro a
  induction a with
  | nil => intro _ x h; simp at h
  | cons z a ih =>
    intro hp x h
    rw [List.pairwise_cons] at hp
    cases hz : G z with
    | true =>
      rw [List.find?_cons_of_pos hz] at h
      obtain rfl := Option.some.inj h
      refine ⟨by simp, hz, fun y hy _ => ?_⟩
      rcases List.mem_cons.1 hy with rfl | hy
      · exact Int.le_refl _
      · exact hp.1 y hy
    | false =>
      rw [List.find?_cons_of_neg (by rw [hz]; simp)] at h
      obtain ⟨h1, h2, h3⟩ := ih hp.2 h
      refine ⟨List.mem_cons_of_mem _ h1, h2, fun y hy hg => ?_⟩
      rcases List.mem_cons.1 hy with rfl | hy
      · rw [hz] at hg; cases hg
      · exact h3 y hy hg
theorem find_same {G : Int → Bool} {a b : List Int} (ha : a.Pairwise (· ≤ ·)) (hb : b.Pairwise (· ≤ ·)) (h : ∀ x, G x = true → (x ∈ a ↔ x ∈ b)) : a.find? G = b.find? G := by
  cases h1 : a.find? G with
  | none =>
    rw [List.find?_eq_none] at h1
    refine (List.find?_eq_none.2 (fun x hx hg => ?_)).symm
    exact h1 x ((h x hg).2 hx) hg
  | some x =>
    obtain ⟨a1, a2, a3⟩ := find_min ha h1
    cases h2 : b.find? G with
    | none => exact absurd a2 (List.find?_eq_none.1 h2 x ((h x a2).1 a1))
    | some y =>
      obtain ⟨b1, b2, b3⟩ := find_min hb h2
      have e1 := a3 y ((h y b2).2 b1) b2
      have e2 := b3 x ((h x a2).1 a1) a2
      rw [show x = y by omega]
theorem find_drop_yes {G : Int → Bool} {l : List Int} {k : Nat} {x : Int} (h : l[k]? = some x) (hg : G x = true) : (l.drop k).find? G = some x := by
  have hk := (List.getElem?_eq_some_iff.1 h).1
  rw [List.drop_eq_getElem_cons hk]
  rw [List.getElem?_eq_getElem hk] at h
  rw [Option.some.inj h, List.find?_cons_of_pos hg]
theorem find_drop_no {G : Int → Bool} {l : List Int} {k : Nat} {x : Int} (h : l[k]? = some x) (hg : G x = false) : (l.drop k).find? G = (l.drop (k + 1)).find? G := by
  have hk := (List.getElem?_eq_some_iff.1 h).1
  rw [List.drop_eq_getElem_cons hk]
  rw [List.getElem?_eq_getElem hk] at h
  rw [Option.some.inj h, List.find?_cons_of_neg (by rw [hg]; simp)]

def gOK (n : Nat) (ar : List Arc) (p q : List Int) (x : Int) : Bool := inB x 0 36000 && decide (mostR (reachL n ar p q x) noneP = q.length)
/-- The times from a station to the movers. -/
def rowT (n : Nat) (ar : List Arc) (p : List Int) (s : Int) : List Int := p.map fun y => (distT n ar s.toNat).getD y.toNat 0
def limF (n : Nat) (ar : List Arc) (p q : List Int) : List Int := 0 :: q.flatMap (rowT n ar p)
def limS (n : Nat) (ar : List Arc) (p q : List Int) : List Int := (limF n ar p q).mergeSort fun x y => decide (x ≤ y)
def putAll (F : List Int) : List Int := F.foldl (fun r x => if inB x 0 36000 = true then putI r x else r) [0]
theorem putAll_snoc (F : List Int) (x : Int) : putAll (F ++ [x]) = if inB x 0 36000 = true then putI (putAll F) x else putAll F := by
  unfold putAll; rw [List.foldl_append]; rfl
theorem foldPut (F : List Int) : ∀ r : List Int, r.Pairwise (· < ·) → (F.foldl (fun r x => if inB x 0 36000 = true then putI r x else r) r).Pairwise (· < ·) ∧ ∀ y, y ∈ F.foldl (fun r x => if inB x 0 36000 = true then putI r x else r) r ↔ y ∈ r ∨ (inB y 0 36000 = true ∧ y ∈ F) := by
  induction F with
  | nil => intro r h; exact ⟨h, fun y => by simp⟩
  | cons x F ih =>
    intro r h
    rw [List.foldl_cons]
    by_cases hx : inB x 0 36000 = true
    · rw [if_pos hx]
      obtain ⟨h1, h2⟩ := ih _ (putI_inc r x h)
      refine ⟨h1, fun y => ?_⟩
      rw [h2, putI_mem, List.mem_cons]
      constructor
      · rintro ((rfl | h) | ⟨h3, h4⟩)
        · exact .inr ⟨hx, .inl rfl⟩
        · exact .inl h
        · exact .inr ⟨h3, .inr h4⟩
      · rintro (h | ⟨h3, rfl | h4⟩)
        · exact .inl (.inr h)
        · exact .inl (.inl rfl)
        · exact .inr ⟨h3, h4⟩
    · rw [if_neg hx]
      obtain ⟨h1, h2⟩ := ih r h
      refine ⟨h1, fun y => ?_⟩
      rw [h2, List.mem_cons]
      constructor
      · rintro (h | ⟨h3, h4⟩)
        · exact .inl h
        · exact .inr ⟨h3, .inr h4⟩
      · rintro (h | ⟨h3, rfl | h4⟩)
        · exact .inl h
        · exact absurd h3 hx
        · exact .inr ⟨h3, h4⟩
theorem putAll_spec (F : List Int) : (putAll F).Pairwise (· < ·) ∧ ∀ y, y ∈ putAll F ↔ y = 0 ∨ (inB y 0 36000 = true ∧ y ∈ F) := by
  obtain ⟨h1, h2⟩ := foldPut F [0] (by simp)
  exact ⟨h1, fun y => (h2 y).trans (by rw [List.mem_singleton])⟩
theorem lim_same {n : Nat} {l : List St} {p q : List Int} (hg : goodTown n l = true) (hp : ∀ x ∈ p, 0 ≤ x ∧ x ≤ (n : Int) - 1) (hq : ∀ x ∈ q, 0 ≤ x ∧ x ≤ (n : Int) - 1) :
    (limS n (arcs l) p q).find? (gOK n (arcs l) p q) = (putAll (timesL n (arcs l) p q).flatten).find? (gOK n (arcs l) p q) := by
  have hA := arcs_good hg
  rw [Int.toNat_natCast] at hA
  obtain ⟨h1, h2⟩ := putAll_spec (timesL n (arcs l) p q).flatten
  refine find_same ?_ (h1.imp (fun h => Int.le_of_lt h)) (fun x hx => ?_)
  · have := List.pairwise_mergeSort (le := fun (x y : Int) => decide (x ≤ y)) (fun a b c h1 h2 => by simp at h1 h2 ⊢; omega) (fun a b => by simp; omega) (limF n (arcs l) p q)
    exact this.imp (fun h => by simpa using h)
  · have hb : inB x 0 36000 = true := by unfold gOK at hx; rw [Bool.and_eq_true] at hx; exact hx.1
    rw [h2]
    unfold limS limF
    rw [List.mem_mergeSort, List.mem_cons, List.mem_flatMap, List.mem_flatten]
    constructor
    · rintro (h | ⟨s, hs, hm⟩)
      · exact .inl h
      · refine .inr ⟨hb, ?_⟩
        obtain ⟨y, hy, rfl⟩ := List.mem_map.1 hm
        refine ⟨q.map fun s => (distT n (arcs l) y.toNat).getD s.toNat 0, List.mem_map.2 ⟨y, hy, rfl⟩, List.mem_map.2 ⟨s, hs, ?_⟩⟩
        have a1 := hp y hy
        have a2 := hq s hs
        exact dist_sym hA (by omega) (by omega)
    · rintro (h | ⟨_, r, hr, hm⟩)
      · exact .inl h
      · refine .inr ?_
        obtain ⟨y, hy, rfl⟩ := List.mem_map.1 hr
        obtain ⟨s, hs, rfl⟩ := List.mem_map.1 hm
        refine ⟨s, hs, List.mem_map.2 ⟨y, hy, ?_⟩⟩
        have a1 := hp y hy
        have a2 := hq s hs
        exact dist_sym hA (by omega) (by omega)
def leastFillLimitV (n : Int) (l : List St) (p q : List Int) : Int × Bool := if goodMv n l p q = true then (match (limS n.toNat (arcs l) p q).find? (gOK n.toNat (arcs l) p q) with | some x => (x, true) | none => (0, false)) else (0, false)
theorem leastV_some {n : Nat} {l : List St} {p q : List Int} {x : Int} (h : goodMv n l p q = true) (e : (limS n (arcs l) p q).find? (gOK n (arcs l) p q) = some x) : leastFillLimitV n l p q = (x, true) := by unfold leastFillLimitV; rw [if_pos h, Int.toNat_natCast, e]
theorem leastV_none {n : Nat} {l : List St} {p q : List Int} (h : goodMv n l p q = true) (e : (limS n (arcs l) p q).find? (gOK n (arcs l) p q) = none) : leastFillLimitV n l p q = (0, false) := by unfold leastFillLimitV; rw [if_pos h, Int.toNat_natCast, e]
/-- A row of one element that the call has just laid. -/
theorem own_one (w : World) (x : Int) : (w.alloc (.cells #[.int .i64 x] 3)).ownsRow w.heap.size 3 1 (.slice (some ⟨w.heap.size, 0, none⟩) 1 1) 1 (ints [x]) :=
  ⟨rfl, .inr ⟨w.heap.size, 1, #[.int .i64 x], rfl, Nat.le_refl _, heap_alloc_new w _, Nat.le_refl _, by rw [maxLen_eq]; omega, rfl, rfl⟩⟩
theorem flat_take_succ {f : Int → List Int} {q : List Int} {k : Nat} {s : Int} (h : q[k]? = some s) : (q.take (k + 1)).flatMap f = (q.take k).flatMap f ++ f s := by
  rw [take_succ_of h, List.flatMap_append]; simp
theorem flatten_take_succ {t : List (List Int)} {k : Nat} {r : List Int} (h : t[k]? = some r) : (t.take (k + 1)).flatten = (t.take k).flatten ++ r := by
  rw [take_succ_of h, List.flatten_append]; simp
end Go.Proofs.YtahehdgkbhjpoaaGreatDoor

namespace Go.Proofs.YtahehdgkbhjpoaaGreatDoor
set_option linter.unusedVariables false
set_option linter.unusedSimpArgs false
open Go.RowKit

set_option maxRecDepth 100000 in
set_option maxHeartbeats 2000000 in
theorem leastFillLimitS_c (n : Int) (s : Value) (l : List St) (v : Value) (p : List Int) (u : Value) (q : List Int) (w : World) (hr : Rd w s l.length (l.flatMap St.cells)) (hp : RdI w v p) (hq : RdI w u q) :
    Calls Tryz.prog 6 #[.agg #[.int .i64 n, s], v, u] w fun e w' => e = .returned (.tuple #[.int .i64 (leastFillLimitV n l p q).1, .bool (leastFillLimitV n l p q).2]) ∧ Below w.heap.size w w' := by
  have HR := Lib.hid hr
  have HP := Lib.hid hp
  have HQ := Lib.hid hq
  obtain ⟨Aq, cq, rfl, hcq, hmq, _⟩ := hq
  rw [maxLen_eq] at hmq
  obtain ⟨i0, hi, hz0, hz1, hz2⟩ := info_parts Tryz.infoInt
  clear hr hp
  go_enter Tryz.func6, Tryz.ntmps6
  go_wp2_with fail
  generalize hW : World.alloc w _ = w0
  have t0 : w0.cell? ⟨w.heap.size, 0, none⟩ = some (.int .i64 n) := by subst hW; simp [go_sem]
  have t1 : w0.cell? ⟨w.heap.size, 1, none⟩ = some s := by subst hW; simp [go_sem]
  have hb0 : Below w.heap.size w w0 := by subst hW; exact bel_al (Below.refl _ _) _
  have z0 : w.heap.size < w0.heap.size := by subst hW; simp
  have HB := Lib.hid hb0
  clear hW hb0
  go_wp2_with fail
  refine (mvAsked_c n s l _ _ p q _ (rd_below HR.out HB.out) (rdi_below HP.out HB.out) (rdi_below HQ.out HB.out)).mono ?_; rintro e w1 ⟨rfl, hb1⟩
  have k0 := (hb1.cell (p := ⟨w.heap.size, 0, none⟩) z0).trans t0
  have k1 := (hb1.cell (p := ⟨w.heap.size, 1, none⟩) z0).trans t1
  have HB1 := Lib.hid (bel_then HB.out hb1)
  have hs1 := hb1.size
  clear t0 t1 hb1
  by_cases hok : goodMv n l p q = true
  ·
    have HOK := Lib.hid hok
    obtain ⟨g1, g2, g3, g4, g5⟩ := goodMv_true hok
    obtain ⟨m, rfl⟩ := nat_of (goodTown_true g1).1
    have hm14 := (goodTown_true g1).2.1
    rw [hok]
    have HG1 := Lib.hid g1
    have HG2 := Lib.hid g2
    have HG5 := Lib.hid g5
    clear hok
    go_wp2_with fail
    refine (mvTimes_c m s _ _ l p q _ g1 g5 g2 g4 g3 (rd_below HR.out HB1.out) (rdi_below HP.out HB1.out) (rdi_below HQ.out HB1.out)).mono ?_; rintro e w3 ⟨v3, rfl, ho3, hb3⟩
    have hrows := timesL_rows (n := m) (ar := arcs l) (p := p) (q := q)
    have htl := timesL_len m (arcs l) p q
    have hrt := fun a => reachT_eq (a := a) g1 g5 g2
    obtain ⟨t, ht⟩ : ∃ t, timesL m (arcs l) p q = t := ⟨_, rfl⟩
    have HLIM := Lib.hid (lim_same g1 g5 g2)
    rw [ht] at ho3 hrows htl hrt HLIM
    have HROWS := Lib.hid hrows
    have ht7 : t.length ≤ 7 := by omega
    have HRT := Lib.hid hrt
    have HO3 := Lib.hid ho3.rd
    have HB3 := Lib.hid (bel_then HB1.out hb3)
    obtain ⟨vs, hv⟩ := ho3.rd
    have HV := Lib.hid hv
    have HVL := Lib.hid hv.len
    obtain ⟨At, ct, rfl, hct, hmt, hcl⟩ := hv.outer
    rw [maxLen_eq] at hmt
    have HCL := Lib.hid hcl
    clear hrows hrt ho3 hb3 ht hv hcl g1 g2 g5 k0 k1 htl
    go_wp2_with fail
    generalize hW : World.alloc w3 _ = wL
    have hoL : Hid (RdI wL (.slice (some ⟨w3.heap.size, 0, none⟩) 1 1) [0]) := Lib.hid (by subst hW; exact rdi_own (own_one w3 0))
    have hbL : Hid (Below w3.heap.size w3 wL) := Lib.hid (by subst hW; exact bel_al (Below.refl _ _) _)
    clear hW
    go_loopw [9, 28] (fun v9 v28 wr => ∃ (k : Nat) (r : List Int), k ≤ t.length ∧ r.length ≤ 1 + 6 * k ∧ v28 = .int .i64 k ∧ Hid (putAll (t.take k).flatten = r) ∧ Hid (RdI wr v9 r) ∧ Hid (Below w3.heap.size w3 wr)) (fun _ v28 _ => t.length - (intOf v28).toNat)
    case atStart => exact ⟨0, [0], Nat.zero_le _, by simp, rfl, Lib.hid rfl, hoL, hbL⟩
    case round =>
     obtain ⟨k, r, hk, hrl, rfl, HE, HX, HBL⟩ := hrel
     obtain ⟨wA, rfl⟩ : ∃ wA : World, wA = wr := ⟨_, rfl⟩
     by_cases hlt : k < t.length
     ·
      obtain ⟨row, hrow⟩ : ∃ row, t[k]? = some row := ⟨_, List.getElem?_eq_getElem hlt⟩
      have hrow6 : row.length ≤ 6 := by have := HROWS.out row (List.mem_of_getElem? hrow); omega
      obtain ⟨z, hz⟩ : ∃ z, vs[k]? = some z := ⟨_, List.getElem?_eq_getElem (by have := HVL.out; omega)⟩
      obtain ⟨b, off, rfl, hbl, hcell⟩ := HCL.out (by omega)
      have c0 := cell_at hcell HBL.out hbl hz
      obtain ⟨A5, c5, rfl, hc5, hm5, hr5⟩ := HV.out.inner k z row hz hrow
      rw [maxLen_eq] at hm5
      have HR5 := Lib.hid hr5
      have HFL := Lib.hid (flatten_take_succ hrow)
      clear hcell hz hr5 hrow
      go_wp2_with fail
      go_loopw [9, 34] (fun v9 v34 wr => ∃ (j : Nat) (r2 : List Int), j ≤ row.length ∧ r2.length ≤ 1 + 6 * k + j ∧ v34 = .int .i64 j ∧ Hid (putAll ((t.take k).flatten ++ row.take j) = r2) ∧ Hid (RdI wr v9 r2) ∧ Hid (Below w3.heap.size w3 wr)) (fun _ v34 _ => row.length - (intOf v34).toNat)
      case atStart => exact ⟨0, r, Nat.zero_le _, by omega, rfl, Lib.hid (by rw [List.take_zero, List.append_nil]; exact HE.out), HX, HBL⟩
      case round =>
       obtain ⟨j, r2, hj, hrl2, rfl, HE2, HX2, HB2⟩ := hrel
       obtain ⟨wB, rfl⟩ : ∃ wB : World, wB = wr := ⟨_, rfl⟩
       by_cases hjl : j < row.length
       ·
        obtain ⟨b5, off5, rfl, hbl5, hcell5⟩ := HR5.out (by omega)
        obtain ⟨y, hy⟩ : ∃ y, row[j]? = some y := ⟨_, List.getElem?_eq_getElem hjl⟩
        have d0 := cell_at hcell5 HB2.out hbl5 (ints_get hy)
        have HST : Hid (putAll ((t.take k).flatten ++ row.take (j + 1)) = if inB y 0 36000 = true then putI r2 y else r2) := Lib.hid (by rw [take_succ_of hy, ← List.append_assoc, putAll_snoc, HE2.out])
        have hpl := putI_len r2 y
        clear hy hcell5
        go_wp2_with fail
        refine (dsLimit_c y _).mono ?_; rintro e w2 ⟨rfl, rfl⟩
        by_cases hin : inB y 0 36000 = true
        · rw [hin]
          have HE3 : Hid (putAll ((t.take k).flatten ++ row.take (j + 1)) = putI r2 y) := Lib.hid (by rw [HST.out, if_pos hin])
          go_wp2_with fail
          refine (l1Put_c _ r2 y _ HX2.out (by omega)).mono ?_; rintro e w5 ⟨v5, rfl, hx5, hb5⟩
          have HX5 := Lib.hid hx5
          have HB5 := Lib.hid (bel_then HB2.out hb5)
          clear hx5 hb5 hin
          go_wp2
          exact ⟨⟨j + 1, _, by omega, by omega, by go_num, HE3, HX5, HB5⟩, by simp [intOf]; omega⟩
        · have hin' : inB y 0 36000 = false := by simpa using hin
          have HE3 : Hid (putAll ((t.take k).flatten ++ row.take (j + 1)) = r2) := Lib.hid (by rw [HST.out, if_neg hin])
          rw [hin']
          clear hin hin'
          go_wp2
          exact ⟨⟨j + 1, r2, by omega, by omega, by go_num, HE3, HX2, HB2⟩, by simp [intOf]; omega⟩
       · obtain rfl : j = row.length := by omega
         have HE3 : Hid (putAll (t.take (k + 1)).flatten = r2) := Lib.hid (by rw [HFL.out, ← HE2.out, List.take_length])
         go_wp2
         exact ⟨⟨k + 1, r2, by omega, by omega, by go_num, HE3, HX2, HB2⟩, by simp [intOf]; omega⟩
     · obtain rfl : k = t.length := by omega
       have hS : (limS m (arcs l) p q).find? (gOK m (arcs l) p q) = r.find? (gOK m (arcs l) p q) := by
         rw [HLIM.out, ← HE.out, List.take_length]
       have HS := Lib.hid hS
       obtain ⟨Ar, cr, rfl, hcr, hmr, hcellr⟩ := HX.out
       rw [maxLen_eq] at hmr
       have HCR := Lib.hid hcellr
       clear hS hcellr
       go_wp2_with fail
       go_loopw [47] (fun v47 wr => ∃ k : Nat, k ≤ r.length ∧ v47 = .int .i64 k ∧ Hid ((r.drop k).find? (gOK m (arcs l) p q) = r.find? (gOK m (arcs l) p q)) ∧ Hid (Below wA.heap.size wA wr)) (fun v47 _ => r.length - (intOf v47).toNat)
       case atStart => exact ⟨0, Nat.zero_le _, rfl, Lib.hid rfl, Lib.hid (Below.refl _ _)⟩
       case round =>
        obtain ⟨k, hk, rfl, HFD, HB7⟩ := hrel
        obtain ⟨wC, rfl⟩ : ∃ wC : World, wC = wr := ⟨_, rfl⟩
        by_cases hlt : k < r.length
        ·
         obtain ⟨b, off, rfl, hbl, hcell⟩ := HCR.out (by omega)
         obtain ⟨x, hx⟩ : ∃ x, r[k]? = some x := ⟨_, List.getElem?_eq_getElem hlt⟩
         have c0 := cell_at hcell HB7.out hbl (ints_get hx)
         have HX := Lib.hid hx
         have HBC := Lib.hid (bel_then HB3.out (bel_then HBL.out HB7.out))
         have HO9 := Lib.hid (HO3.out.below (bel_then HBL.out HB7.out))
         clear hx hcell
         go_wp2_with fail
         refine (dsLimit_c x _).mono ?_; rintro e w2 ⟨rfl, rfl⟩
         by_cases hin : inB x 0 36000 = true
         · rw [hin]
           have HIN := Lib.hid hin
           have hT : Tab (reachL m (arcs l) p q x) := reachL_tab g4 g3
           obtain ⟨TB, hTB⟩ : ∃ TB, reachL m (arcs l) p q x = TB := ⟨_, rfl⟩
           have hle := mostR_le TB noneP
           have hlen : TB.length ≤ 6 := by rw [← hTB, reachL_len]; exact g3
           have hcall := mvReach_c (.slice At t.length ct) t q.length x wC ht7 g3 HROWS.out HO9.out
           rw [HRT.out] at hcall
           obtain ⟨rr, hr⟩ : ∃ r, mostR TB noneP = r := ⟨_, rfl⟩
           have HGX : Hid (gOK m (arcs l) p q x = decide (rr = q.length)) := Lib.hid (by unfold gOK; rw [HIN.out, hTB, hr]; rfl)
           rw [hTB] at hcall hT
           rw [hr] at hle
           have HC2 := Lib.hid hcall
           have HT := Lib.hid hT
           have HRR := Lib.hid hr
           clear hin hTB hcall hT hr
           go_wp2_with fail
           refine HC2.out.mono ?_; rintro e w8 ⟨v8, rfl, ho8, hb8⟩
           have hcall := mvMost_c v8 TB HT.out TB.length 0 (.slice none 0 0) [] noneP w8 (by omega) (by simp) usedL_nil ho8.rd (rdi_nil _)
           rw [List.drop_zero, HRR.out] at hcall
           have HC3 := Lib.hid hcall
           have HB8 := Lib.hid (bel_then HB7.out hb8)
           clear ho8 hb8 hcall
           go_wp2_with fail
           refine HC3.out.mono ?_; rintro e w9 ⟨rfl, hb9⟩
           have HB9 := Lib.hid (bel_then HB8.out hb9)
           clear hb9
           by_cases hyes : rr = q.length
           · have e5 : ((rr : Int) == (q.length : Int)) = true := by rw [beq_iff_eq]; omega
             have HF := Lib.hid (leastV_some HOK.out (show _ = some x by rw [HS.out, ← HFD.out]; exact find_drop_yes HX.out (by rw [HGX.out]; exact decide_eq_true hyes)))
             clear hyes
             go_wp2
             go_ret2
             rw [HF.out]
             exact ⟨rfl, bel_then HB3.out (bel_then HBL.out HB9.out)⟩
           · have e5 : ((rr : Int) == (q.length : Int)) = false := by rw [beq_eq_false_iff_ne]; omega
             have HFD2 : Hid ((r.drop (k + 1)).find? (gOK m (arcs l) p q) = r.find? (gOK m (arcs l) p q)) := Lib.hid (by rw [← HFD.out]; exact (find_drop_no HX.out (by rw [HGX.out]; exact decide_eq_false hyes)).symm)
             clear hyes
             go_wp2
             exact ⟨⟨k + 1, by omega, by go_num, HFD2, HB9⟩, by simp [intOf]; omega⟩
         · have hin' : inB x 0 36000 = false := by simpa using hin
           rw [hin']
           have HFD2 : Hid ((r.drop (k + 1)).find? (gOK m (arcs l) p q) = r.find? (gOK m (arcs l) p q)) := Lib.hid (by rw [← HFD.out]; exact (find_drop_no HX.out (by unfold gOK; rw [hin']; rfl)).symm)
           clear hin hin'
           go_wp2
           exact ⟨⟨k + 1, by omega, by go_num, HFD2, HB7⟩, by simp [intOf]; omega⟩
        · obtain rfl : k = r.length := by omega
          have HF := Lib.hid (leastV_none HOK.out (show _ = none by rw [HS.out, ← HFD.out, List.drop_length]; rfl))
          go_wp2
          go_ret2
          rw [HF.out]
          exact ⟨rfl, bel_then HB3.out (bel_then HBL.out HB7.out)⟩
  · have hok : goodMv n l p q = false := by simpa using hok
    have HF : Hid (leastFillLimitV n l p q = (0, false)) := Lib.hid (by unfold leastFillLimitV; rw [hok]; rfl)
    rw [hok]
    go_wp2
    go_ret2
    rw [HF.out]
    exact ⟨rfl, HB1.out⟩
end Go.Proofs.YtahehdgkbhjpoaaGreatDoor
