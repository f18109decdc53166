/-
  The most stations that can be filled: the program's search over a set of bits, the reference's over a list.
-/
import Derived.Test.YtgdigcnpjkkmfaaMvS
import Derived.Test.YtgdigcnpjkkmfaaBitw
import Derived.Test.YtgdigcnpjkkmfaaMost
namespace Go.Proofs.Ytgdigcnpjkkmfaa
open Go.RowKit

def updP (P : Nat → Bool) (m : Nat) : Nat → Bool := fun i => P i || decide (i = m)
def mostR : List (List Int) → (Nat → Bool) → Nat
  | [], _ => 0
  | l :: ls, P => l.foldl (fun b x => if P x.toNat = true then b else max b (1 + mostR ls (updP P x.toNat))) (mostR ls P)
theorem foldl_le {f : Nat → Int → Nat} {N : Nat} (hf : ∀ b x, b ≤ N → f b x ≤ N) : ∀ (l : List Int) (b : Nat), b ≤ N → l.foldl f b ≤ N := by
  intro l
  induction l with
  | nil => intro b h; exact h
  | cons x l ih => intro b h; exact ih _ (hf b x h)
theorem mostR_le : ∀ (ls : List (List Int)) (P : Nat → Bool), mostR ls P ≤ ls.length := by
  intro ls
  induction ls with
  | nil => intro P; simp [mostR]
  | cons l ls ih =>
    intro P
    unfold mostR
    refine foldl_le (fun b x hb => ?_) l _ (by have := ih P; simp; omega)
    split
    · exact hb
    · have := ih (updP P x.toNat)
      rw [List.length_cons] at hb ⊢
      omega
def stepR (ls : List (List Int)) (P : Nat → Bool) (b : Nat) (x : Int) : Nat := if P x.toNat = true then b else max b (1 + mostR ls (updP P x.toNat))
theorem mostR_cons (l : List Int) (ls : List (List Int)) (P : Nat → Bool) : mostR (l :: ls) P = l.foldl (stepR ls P) (mostR ls P) := rfl
theorem foldl_snoc {f : Nat → Int → Nat} {l : List Int} {i : Nat} {x : Int} {b c : Nat} (h : l[i]? = some x) (hb : (l.take i).foldl f b = c) : (l.take (i + 1)).foldl f b = f c x := by
  rw [take_succ_of h, List.foldl_append, hb]; rfl
theorem stepR_yes {ls : List (List Int)} {P : Nat → Bool} {b m : Nat} (h : P m = true) : stepR ls P b (m : Int) = b := by unfold stepR; rw [Int.toNat_natCast, if_pos h]
theorem stepR_no {ls : List (List Int)} {P : Nat → Bool} {b m : Nat} (h : P m = false) : stepR ls P b (m : Int) = max b (1 + mostR ls (updP P m)) := by unfold stepR; rw [Int.toNat_natCast, if_neg (by rw [h]; simp)]

/-- A number whose bits below 7 are P. -/
def UsedM (M : Nat) (P : Nat → Bool) : Prop := M < 128 ∧ ∀ i, i < 7 → M.testBit i = P i
theorem usedM_or {M m : Nat} {P : Nat → Bool} (h : UsedM M P) (hm : m < 7) : UsedM (M ||| 2 ^ m) (updP P m) := by
  refine ⟨Nat.or_lt_two_pow (n := 7) h.1 (Nat.pow_lt_pow_right (by omega) hm), fun i hi => ?_⟩
  rw [Nat.testBit_or, h.2 i hi, Nat.testBit_two_pow]
  unfold updP
  congr 1
  rw [decide_eq_decide]; exact ⟨fun e => e.symm, fun e => e.symm⟩
/-- A table of movers. -/
def Tab (ls : List (List Int)) : Prop := ls.length ≤ 6 ∧ ∀ l ∈ ls, l.length ≤ 7 ∧ ∀ x ∈ l, ∃ i : Nat, x = (i : Int) ∧ i < 7

set_option maxRecDepth 100000 in
set_option maxHeartbeats 4000000 in
theorem mostFrom_c (v : Value) (ls : List (List Int)) (ht : Tab ls) : ∀ (j k M : Nat) (P : Nat → Bool) (w : World), k + j = ls.length → UsedM M P → RdSS w v ls →
    Calls Try.prog 79 #[v, .int .i64 k, .int .i64 M] w fun e w' => e = .returned (.int .i64 (mostR (ls.drop k) P : Nat)) ∧ w = w' := by
  intro j
  induction j with
  | zero =>
    intro k M P w hk hU hr
    obtain rfl : k = ls.length := by omega
    obtain ⟨vs, hv⟩ := hr
    obtain ⟨A, c, rfl, hc, hm, _⟩ := hv.outer
    rw [maxLen_eq] at hm
    have e0 : ((ls.length : Int) == (ls.length : Int)) = true := by simp
    have HF : Hid (mostR (ls.drop ls.length) P = 0) := Lib.hid (by rw [List.drop_length]; rfl)
    clear hv ht hU
    go_enter Try.func79, Try.ntmps79
    go_wp2
    go_ret
    rw [HF.out]
    exact ⟨rfl, rfl⟩
  | succ j ih =>
    intro k M P w hk hU hr
    have hkl : k < ls.length := by omega
    obtain ⟨l, hl⟩ : ∃ l, ls[k]? = some l := ⟨_, List.getElem?_eq_getElem hkl⟩
    have hd : ls.drop k = l :: ls.drop (k + 1) := by
      rw [List.drop_eq_getElem_cons hkl]
      rw [List.getElem?_eq_getElem hkl] at hl
      rw [Option.some.inj hl]
    rw [hd, mostR_cons]
    obtain ⟨rest, hrest⟩ : ∃ rest, ls.drop (k + 1) = rest := ⟨_, rfl⟩
    have hrl : rest.length ≤ 5 := by rw [← hrest, List.length_drop]; have := ht.1; omega
    have hk5 : k ≤ 5 := by have := ht.1; omega
    have hbd := fun Q => mostR_le rest Q
    have hih := fun M P W hU hr => ih (k + 1) M P W (by omega) hU hr
    rw [hrest] at hih ⊢
    have e1 : ((k + 1 : Nat) : Int) = (k : Int) + 1 := by omega
    rw [e1] at hih
    obtain ⟨hl7, hle⟩ := ht.2 l (List.mem_of_getElem? hl)
    have HR := Lib.hid hr
    have HLE := Lib.hid hle
    have HBD := Lib.hid hbd
    have HIH := Lib.hid hih
    have HU := Lib.hid hU
    obtain ⟨vs, hv⟩ := hr
    have hvl := hv.len
    obtain ⟨A, c, rfl, hc, hm, hcl⟩ := hv.outer
    rw [maxLen_eq] at hm
    obtain ⟨b, off, rfl, hbl, hcell⟩ := hcl (by omega)
    obtain ⟨u, hu⟩ : ∃ u, vs[k]? = some u := ⟨_, List.getElem?_eq_getElem (by omega)⟩
    have c0 := hcell _ _ hu
    obtain ⟨A5, c5, rfl, hc5, hm5, hr5⟩ := hv.inner k u l hu hl
    rw [maxLen_eq] at hm5
    have HR5 := Lib.hid hr5
    have hne : ((k : Int) == (ls.length : Int)) = false := by rw [beq_eq_false_iff_ne]; omega
    have k0 : (0 : Int) ≤ (k : Int) := by omega
    have k1 : (k : Int) < (ls.length : Int) := by omega
    have k2 : IntKind.i64.wrap ((k : Int) + 1) = (k : Int) + 1 := IntWalk.i64_in _ (by omega)
    have hM := hU.1
    have hcall := HIH.out M P w hU HR.out
    have hb0 := HBD.out P
    obtain ⟨m0, hm0⟩ : ∃ m0, mostR rest P = m0 := ⟨_, rfl⟩
    rw [hm0] at hcall hb0 ⊢
    have HC := Lib.hid hcall
    clear hv hcl hcell hu hr5 hcall hU hih hbd hle hl hd hrest ht e1 ih hm0
    go_enter Try.func79, Try.ntmps79
    go_wp2_with fail
    refine HC.out.mono ?_; rintro e w2 ⟨rfl, rfl⟩
    go_wp2_with fail
    go_loopw [7, 24] (fun v7 v24 wr => ∃ (i t : Nat), i ≤ l.length ∧ t ≤ 6 ∧ v24 = .int .i64 i ∧ v7 = .int .i64 (t : Nat) ∧ Hid ((l.take i).foldl (stepR rest P) m0 = t) ∧ wr = w) (fun _ v24 _ => l.length - (intOf v24).toNat)
    case atStart => exact ⟨0, m0, Nat.zero_le _, by omega, rfl, rfl, Lib.hid rfl, rfl⟩
    case round =>
      obtain ⟨i, t, hi, ht6, rfl, rfl, HT, rfl⟩ := hrel
      by_cases hlt : i < l.length
      · obtain ⟨b5, off5, rfl, hbl5, hcell5⟩ := HR5.out (by omega)
        obtain ⟨x, hx⟩ : ∃ x, l[i]? = some x := ⟨_, List.getElem?_eq_getElem hlt⟩
        have d0 := hcell5 _ _ (ints_get hx)
        obtain ⟨xn, rfl, hx7⟩ := HLE.out x (List.mem_of_getElem? hx)
        have j0 : (0 : Int) ≤ (xn : Int) := by omega
        have j1 : (xn : Int) ≤ 64 := by omega
        have u1 : IntKind.u64.wrap (xn : Int) = (xn : Int) := by rw [IntKind.wrap_u64]; omega
        have hbit := bit_of M xn (by omega)
        rw [HU.out.2 xn hx7] at hbit
        have HS := Lib.hid (foldl_snoc hx HT.out)
        clear hx hcell5
        by_cases hP : P xn = true
        · rw [if_pos hP] at hbit
          have HS2 : Hid ((l.take (i + 1)).foldl (stepR rest P) m0 = t) := Lib.hid (by rw [HS.out, stepR_yes hP])
          clear hP
          go_wp2
          exact ⟨⟨i + 1, t, by omega, by omega, by go_num, rfl, HS2, (by first | rfl | trivial)⟩, by simp [intOf]; omega⟩
        · have hP : P xn = false := by simpa using hP
          rw [if_neg (by rw [hP]; simp)] at hbit
          have HS2 : Hid ((l.take (i + 1)).foldl (stepR rest P) m0 = max t (1 + mostR rest (updP P xn))) := Lib.hid (by rw [HS.out, stepR_no hP])
          have hbn := HBD.out (updP P xn)
          have hUn := usedM_or HU.out hx7
          have hcn := HIH.out _ _ wr hUn HR.out
          have hMn := hUn.1
          obtain ⟨r, hr⟩ : ∃ r, mostR rest (updP P xn) = r := ⟨_, rfl⟩
          rw [hr] at hbn hcn HS2
          obtain ⟨pw, hpw⟩ : ∃ pw : Nat, 2 ^ xn = pw := ⟨_, rfl⟩
          have hp7 : pw ≤ 64 := by rw [← hpw]; exact Nat.le_trans (Nat.pow_le_pow_right (by omega) (show xn ≤ 6 by omega)) (by decide)
          obtain ⟨M2, hM2⟩ : ∃ M2, M ||| 2 ^ xn = M2 := ⟨_, rfl⟩
          rw [hM2] at hcn hMn
          rw [hpw] at hM2
          have e1 : IntKind.i64.wrap ((2 : Int) ^ xn) = (pw : Int) := by
            have : (2 : Int) ^ xn = (pw : Int) := by rw [← hpw, Int.natCast_pow]; rfl
            rw [this, IntKind.wrap_i64]; omega
          have e3 : bits .or .i64 (M : Int) (pw : Int) = (M2 : Int) := by rw [bits_or_i64_nat M pw (by omega) (by omega), hM2]
          have HCN := Lib.hid hcn
          clear hP hr hpw hM2 hUn hcn
          go_wp2_with fail
          refine HCN.out.mono ?_; rintro e w2 ⟨rfl, rfl⟩
          have s2 : IntKind.i64.wrap (1 + (r : Int)) = 1 + (r : Int) := IntWalk.i64_in _ (by omega)
          go_wp2
          refine ⟨⟨i + 1, max t (1 + r), by omega, by omega, by go_num, ?_, HS2, (by first | rfl | trivial)⟩, by simp [intOf]; omega⟩
          refine congrArg (Value.int .i64) ?_
          (first | omega | (split <;> omega))
      · obtain rfl : i = l.length := by omega
        go_wp2
        go_ret
        have e := HT.out
        rw [List.take_length] at e
        rw [e]
        exact ⟨rfl, (by first | rfl | trivial)⟩
/-- A list whose members below 7 are P. -/
def UsedL (q : List Int) (P : Nat → Bool) : Prop := ∀ i : Nat, i < 7 → decide ((i : Int) ∈ q) = P i
theorem usedL_snoc {q : List Int} {P : Nat → Bool} {m : Nat} (h : UsedL q P) : UsedL (q ++ [(m : Int)]) (updP P m) := fun i hi => by
  unfold updP
  rw [← h i hi]
  by_cases h1 : (i : Int) ∈ q
  · rw [decide_eq_true h1, decide_eq_true (List.mem_append_left _ h1)]; rfl
  · rw [decide_eq_false h1, Bool.false_or, decide_eq_decide]
    refine ⟨fun e => ?_, fun e => by subst e; simp⟩
    rcases List.mem_append.1 e with e | e
    · exact absurd e h1
    · rw [List.mem_singleton] at e; omega

set_option maxRecDepth 100000 in
set_option maxHeartbeats 4000000 in
theorem mvMost_c (v : Value) (ls : List (List Int)) (ht : Tab ls) : ∀ (j k : Nat) (u : Value) (q : List Int) (P : Nat → Bool) (w : World), k + j = ls.length → q.length ≤ k → UsedL q P → RdSS w v ls → RdI w u q →
    Calls Try.prog 48 #[v, .int .i64 k, u] w fun e w' => e = .returned (.int .i64 (mostR (ls.drop k) P : Nat)) ∧ Below w.heap.size w w' := by
  intro j
  induction j with
  | zero =>
    intro k u q P w hk _ hU hr _
    obtain rfl : k = ls.length := by omega
    obtain ⟨vs, hv⟩ := hr
    obtain ⟨A, c, rfl, hc, hm, _⟩ := hv.outer
    rw [maxLen_eq] at hm
    have e0 : ((ls.length : Int) == (ls.length : Int)) = true := by simp
    have HF : Hid (mostR (ls.drop ls.length) P = 0) := Lib.hid (by rw [List.drop_length]; rfl)
    clear hv ht hU
    go_enter Try.func48, Try.ntmps48
    go_wp2
    go_ret
    rw [HF.out]
    exact ⟨rfl, Below.refl _ _⟩
  | succ j ih =>
    intro k u q P w hk hqk hU hr hq
    have hkl : k < ls.length := by omega
    obtain ⟨l, hl⟩ : ∃ l, ls[k]? = some l := ⟨_, List.getElem?_eq_getElem hkl⟩
    have hd : ls.drop k = l :: ls.drop (k + 1) := by
      rw [List.drop_eq_getElem_cons hkl]
      rw [List.getElem?_eq_getElem hkl] at hl
      rw [Option.some.inj hl]
    rw [hd, mostR_cons]
    obtain ⟨rest, hrest⟩ : ∃ rest, ls.drop (k + 1) = rest := ⟨_, rfl⟩
    have hrl : rest.length ≤ 5 := by rw [← hrest, List.length_drop]; have := ht.1; omega
    have hk5 : k ≤ 5 := by have := ht.1; omega
    have hbd := fun Q => mostR_le rest Q
    have hih := fun u q P W hqk hU hr hq => ih (k + 1) u q P W (by omega) hqk hU hr hq
    rw [hrest] at hih ⊢
    have e1 : ((k + 1 : Nat) : Int) = (k : Int) + 1 := by omega
    rw [e1] at hih
    obtain ⟨hl7, hle⟩ := ht.2 l (List.mem_of_getElem? hl)
    obtain ⟨i0, hi0, hz0, hz1, hz2⟩ := info_parts Try.infoInt
    have HR := Lib.hid hr
    have HQ := Lib.hid hq
    have HLE := Lib.hid hle
    have HBD := Lib.hid hbd
    have HIH := Lib.hid hih
    have HU := Lib.hid hU
    obtain ⟨vs, hv⟩ := hr
    have hvl := hv.len
    obtain ⟨A, c, rfl, hc, hm, hcl⟩ := hv.outer
    rw [maxLen_eq] at hm
    obtain ⟨b, off, rfl, hbl, hcell⟩ := hcl (by omega)
    obtain ⟨z, hu⟩ : ∃ z, vs[k]? = some z := ⟨_, List.getElem?_eq_getElem (by omega)⟩
    have c0 := hcell _ _ hu
    have C0 := Lib.hid c0
    obtain ⟨A5, c5, rfl, hc5, hm5, hr5⟩ := hv.inner k z l hu hl
    rw [maxLen_eq] at hm5
    have HR5 := Lib.hid hr5
    have hne : ((k : Int) == (ls.length : Int)) = false := by rw [beq_eq_false_iff_ne]; omega
    have k0 : (0 : Int) ≤ (k : Int) := by omega
    have k1 : (k : Int) < (ls.length : Int) := by omega
    have k2 : IntKind.i64.wrap ((k : Int) + 1) = (k : Int) + 1 := IntWalk.i64_in _ (by omega)
    have hcall := HIH.out u q P w (by omega) hU HR.out HQ.out
    have hb0 := HBD.out P
    obtain ⟨m0, hm0⟩ : ∃ m0, mostR rest P = m0 := ⟨_, rfl⟩
    rw [hm0] at hcall hb0 ⊢
    have HC := Lib.hid hcall
    clear hv hcl hcell hu hr5 hcall hU hih hbd hle hl hd hrest ht e1 ih hm0 c0 hq
    go_enter Try.func48, Try.ntmps48
    go_wp2_with fail
    refine HC.out.mono ?_; rintro e w1 ⟨rfl, hb1⟩
    have c1 := (hb1.cell (p := ⟨b, off + k, none⟩) hbl).trans C0.out
    have HB1 := Lib.hid hb1
    clear hb1
    go_wp2_with fail
    go_loopw [7, 24] (fun v7 v24 wr => ∃ (i t : Nat), i ≤ l.length ∧ t ≤ 6 ∧ v24 = .int .i64 i ∧ v7 = .int .i64 (t : Nat) ∧ Hid ((l.take i).foldl (stepR rest P) m0 = t) ∧ Hid (Below w.heap.size w wr)) (fun _ v24 _ => l.length - (intOf v24).toNat)
    case atStart => exact ⟨0, m0, Nat.zero_le _, by omega, rfl, rfl, Lib.hid rfl, HB1⟩
    case round =>
      obtain ⟨i, t, hi, ht6, rfl, rfl, HT, HB⟩ := hrel
      obtain ⟨wA, rfl⟩ : ∃ wA : World, wA = wr := ⟨_, rfl⟩
      by_cases hlt : i < l.length
      · obtain ⟨b5, off5, rfl, hbl5, hcell5⟩ := HR5.out (by omega)
        obtain ⟨x, hx⟩ : ∃ x, l[i]? = some x := ⟨_, List.getElem?_eq_getElem hlt⟩
        have d0 := cell_at hcell5 HB.out hbl5 (ints_get hx)
        obtain ⟨xn, rfl, hx7⟩ := HLE.out x (List.mem_of_getElem? hx)
        have j0 : (0 : Int) ≤ (xn : Int) := by omega
        have hin := HU.out xn hx7
        have HS := Lib.hid (foldl_snoc hx HT.out)
        clear hx hcell5
        by_cases hP : P xn = true
        · rw [hP] at hin
          have HIN := Lib.hid hin
          have HS2 : Hid ((l.take (i + 1)).foldl (stepR rest P) m0 = t) := Lib.hid (by rw [HS.out, stepR_yes hP])
          clear hP hin
          go_wp2_with (go_at_call 55; refine (l1Has_c _ (xn : Int) q _ (rdi_below HQ.out HB.out)).mono ?_; rw [HIN.out]; rintro e w2 ⟨rfl, rfl⟩)
          exact ⟨⟨i + 1, t, by omega, by omega, by go_num, rfl, HS2, HB⟩, by simp [intOf]; omega⟩
        · have hP : P xn = false := by simpa using hP
          rw [hP] at hin
          have HIN := Lib.hid hin
          have HS2 : Hid ((l.take (i + 1)).foldl (stepR rest P) m0 = max t (1 + mostR rest (updP P xn))) := Lib.hid (by rw [HS.out, stepR_no hP])
          have hbn := HBD.out (updP P xn)
          have HUN := Lib.hid (usedL_snoc (m := xn) HU.out)
          obtain ⟨r, hr⟩ : ∃ r, mostR rest (updP P xn) = r := ⟨_, rfl⟩
          rw [hr] at hbn HS2
          have HRR := Lib.hid hr
          clear hP hr hin
          go_wp2_with fail
          refine (l1Has_c _ (xn : Int) q _ (rdi_below HQ.out HB.out)).mono ?_; rw [HIN.out]; rintro e w2 ⟨rfl, rfl⟩
          go_wp2_with fail
          refine (l1Own_c _ q _ (rdi_below HQ.out HB.out) (by omega)).mono ?_; rintro e w3 ⟨v3, rfl, ho3, hb3⟩
          have HO3 := Lib.hid ho3
          have HB3 := Lib.hid (bel_then HB.out hb3)
          have hs3 := hb3.size
          clear ho3 hb3
          go_wp2_with (at_builtin; refine wpList_app_rd _ rfl _ _ 25 rfl wA.heap.size 3 i0 (.int .i64 0) 1 8 Try.underlying25 hi0 hz0 hz1 hz2 rfl (by decide) _ _ _ rfl (HO3.out.alloc _) _ 1 [.int .i64 xn] rfl (rd_new _ rfl (Nat.le_refl _) (by rw [maxLen_eq]; omega)) rfl (ints_one [(xn : Int)]) (by rw [maxLen_eq]; omega) (by omega) (by simp; omega) ?_; intro v' w7 hown' hgrow _)
          have HO7 : Hid (w7.ownsRow wA.heap.size 3 1 v' (q ++ [(xn : Int)]).length (ints (q ++ [(xn : Int)]))) := Lib.hid (by rw [ints_append, List.length_append]; exact hown')
          have HB7 : Hid (Below w.heap.size w w7) := Lib.hid (bel_grown (bel_al HB3.out _) hgrow (fun q e => by have := (HO3.out.lt q e).1; have := HB.out.size; omega))
          have hs7 := hgrow.size
          have hcn := HIH.out v' (q ++ [(xn : Int)]) (updP P xn) w7 (by simp; omega) HUN.out (HR.out.below HB7.out) (rdi_own HO7.out)
          rw [HRR.out] at hcn
          have HCN := Lib.hid hcn
          clear hown' hgrow hcn
          refine HCN.out.mono ?_; rintro e w8 ⟨rfl, hb8⟩
          have HB8 := Lib.hid (bel_then HB7.out hb8)
          have s2 : IntKind.i64.wrap (1 + (r : Int)) = 1 + (r : Int) := IntWalk.i64_in _ (by omega)
          clear hb8
          go_wp2_with (go_at_call 42; refine (l1Most_c _ _ _).mono ?_; rintro e w' ⟨rfl, rfl⟩)
          refine ⟨⟨i + 1, max t (1 + r), by omega, by omega, by go_num, ?_, HS2, HB8⟩, by simp [intOf]; omega⟩
          refine congrArg (Value.int .i64) ?_
          unfold maxI
          (first | omega | (split <;> omega))
      · obtain rfl : i = l.length := by omega
        go_wp2
        go_ret
        have e := HT.out
        rw [List.take_length] at e
        rw [e]
        exact ⟨rfl, HB.out⟩
end Go.Proofs.Ytgdigcnpjkkmfaa
