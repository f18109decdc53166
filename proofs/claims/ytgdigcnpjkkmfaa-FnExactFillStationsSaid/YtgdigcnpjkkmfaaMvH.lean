/-
  FillStations: the walks of both sides (printed by gen_fill.py).
-/
import Derived.Test.YtgdigcnpjkkmfaaMvG
namespace Go.Proofs.Ytgdigcnpjkkmfaa
open Go.RowKit

theorem may_free {rest : List (List Int)} {P : Nat → Bool} {left n : Nat} (h : P n = false) : mayP rest P left (n : Int) = decide (1 + mostR rest (updP P n) = left) := by unfold mayP; rw [Int.toNat_natCast, h]; rfl
theorem may_used {rest : List (List Int)} {P : Nat → Bool} {left n : Nat} (h : P n = true) : mayP rest P left (n : Int) = false := by unfold mayP; rw [Int.toNat_natCast, h]; rfl
theorem choose_neg {rest : List (List Int)} {P : Nat → Bool} {left : Nat} : ∀ {l : List Int}, (∀ x ∈ l, 0 ≤ x) → chooseR rest P left l < 0 → ∀ x ∈ l, mayP rest P left x = false := by
  intro l
  induction l with
  | nil => intro _ _ x hx; simp at hx
  | cons y l ih =>
    intro h0 h x hx
    simp only [chooseR] at h
    by_cases hm : mayP rest P left y = true
    · rw [if_pos hm] at h
      have := h0 y (by simp)
      omega
    · rw [if_neg hm] at h
      rcases List.mem_cons.1 hx with rfl | hx
      · simpa using hm
      · exact ih (fun z hz => h0 z (List.mem_cons_of_mem _ hz)) h x hx
theorem choose_m1 {rest : List (List Int)} {P : Nat → Bool} {left : Nat} : ∀ {l : List Int}, (∀ x ∈ l, 0 ≤ x) → chooseR rest P left l < 0 → chooseR rest P left l = -1 := by
  intro l
  induction l with
  | nil => intro _ _; rfl
  | cons y l ih =>
    intro h0 h
    simp only [chooseR] at h ⊢
    by_cases hm : mayP rest P left y = true
    · rw [if_pos hm] at h
      have := h0 y (by simp)
      omega
    · rw [if_neg hm] at h ⊢
      exact ih (fun z hz => h0 z (List.mem_cons_of_mem _ hz)) h
def IfM1 (t : Int) (X : Prop) : Prop := t = -1 → X
theorem IfM1.get {t : Int} {X : Prop} (h : IfM1 t X) (e : t = -1) : X := h e
theorem sep_grow {a : World} {v v' x : Value} (e : v'.ownBlock = v.ownBlock ∨ v'.ownBlock = some a.heap.size) (hx : Sep v x) (hlt : ∀ q, x.ownBlock = some q → q < a.heap.size) : Sep v' x := fun q q' e1 e2 => by
  rcases e with e | e
  · exact hx q q' (by rw [← e]; exact e1) e2
  · rw [e] at e1
    have h1 := Option.some.inj e1
    have h2 := hlt q' e2
    omega

set_option maxRecDepth 100000 in
set_option maxHeartbeats 4000000 in
theorem fillStations_c (v : Value) (ls : List (List Int)) (w : World) (ht : Tab ls) (hr : RdSS w v ls) :
    Calls Try.prog 60 #[v] w (OwnI (fillR ls noneP (mostR ls noneP)) w) := by
  have hmf := mostFilled_c v ls w ht hr
  have hmf2 := mostR_le ls noneP
  have HMF := Lib.hid hmf
  have HT := Lib.hid ht
  have HR := Lib.hid hr
  obtain ⟨i0, hi, hz0, hz1, hz2⟩ := info_parts Try.infoInt
  obtain ⟨vs, hv⟩ := hr
  have hvl := hv.len
  have HV := Lib.hid hv
  have ht6 : ls.length ≤ 6 := ht.1
  obtain ⟨A, c, rfl, hc, hm, hcl⟩ := hv.outer
  rw [maxLen_eq] at hm
  have HCL := Lib.hid hcl
  obtain ⟨want, hwant⟩ : ∃ want, mostR ls noneP = want := ⟨_, rfl⟩
  have hih := fun (j : Nat) (hj : j ≤ ls.length) M P W hU hr => mostFrom_c (.slice A ls.length c) ls ht (ls.length - j) j M P W (by omega) hU hr
  have HIHA := Lib.hid hih
  rw [hwant] at hmf2 HMF ⊢
  have HWA := Lib.hid hwant
  clear hv hcl ht hmf hwant hih
  go_enter Try.func60, Try.ntmps60
  go_wp2_with fail
  refine HMF.out.mono ?_; rintro e w2 ⟨rfl, rfl⟩
  go_wp2_with fail
  go_loopw [3, 4, 5, 15] (fun v3 v4 v5 v15 wr => ∃ (k left M : Nat) (P : Nat → Bool) (done : List Int), k ≤ ls.length ∧ left ≤ 6 ∧ done.length = k ∧ v15 = .int .i64 k ∧ v3 = .int .i64 (left : Nat) ∧ v4 = .int .i64 (M : Nat) ∧ Hid (UsedM M P) ∧ Hid (done ++ fillR (ls.drop k) P left = fillR ls noneP want) ∧ Hid (wr.ownsRow w.heap.size 3 1 v5 done.length (ints done)) ∧ Hid (Below w.heap.size w wr)) (fun _ _ _ v15 _ => ls.length - (intOf v15).toNat)
  case atStart => exact ⟨0, want, 0, noneP, [], Nat.zero_le _, by omega, rfl, rfl, rfl, rfl, Lib.hid usedM_zero, Lib.hid rfl, Lib.hid (show w.ownsRow w.heap.size 3 1 (.slice none 0 0) 0 [] from World.ownsRow_nil _ _ _ _), Lib.hid (Below.refl _ _)⟩
  case round =>
   obtain ⟨k, left, M, P, done, hk, hleft, hdl, rfl, rfl, rfl, HU, HF, HOW, HB⟩ := hrel
   obtain ⟨wA, rfl⟩ : ∃ wA : World, wA = wr := ⟨_, rfl⟩
   by_cases hlt : k < ls.length
   ·
    have hkl : k < ls.length := hlt
    obtain ⟨l, hl⟩ : ∃ l, ls[k]? = some l := ⟨_, List.getElem?_eq_getElem hkl⟩
    have hd : ls.drop k = l :: ls.drop (k + 1) := by
      rw [List.drop_eq_getElem_cons hkl]
      rw [List.getElem?_eq_getElem hkl] at hl
      rw [Option.some.inj hl]
    obtain ⟨rest, hrest⟩ : ∃ rest, ls.drop (k + 1) = rest := ⟨_, rfl⟩
    have hrl : rest.length ≤ 5 := by rw [← hrest, List.length_drop]; have := HT.out.1; omega
    have hk5 : k ≤ 5 := by have := HT.out.1; omega
    have hbd := fun Q => mostR_le rest Q
    have e1 : ((k + 1 : Nat) : Int) = (k : Int) + 1 := by omega
    obtain ⟨hl7, hle⟩ := HT.out.2 l (List.mem_of_getElem? hl)
    have hsuf := HF.out
    rw [hd, hrest] at hsuf
    obtain ⟨u, hu⟩ : ∃ u, vs[k]? = some u := ⟨_, List.getElem?_eq_getElem (by omega)⟩
    obtain ⟨b, off, rfl, hbl, hcell⟩ := HCL.out (by omega)
    have c0 := cell_at hcell HB.out hbl hu
    obtain ⟨A5, c5, rfl, hc5, hm5, hr5⟩ := HV.out.inner k u l hu hl
    rw [maxLen_eq] at hm5
    have HR5 := Lib.hid hr5
    have HLE := Lib.hid hle
    have HBD := Lib.hid hbd
    have k0 : (0 : Int) ≤ (k : Int) := by omega
    have k1 : (k : Int) < (ls.length : Int) := by omega
    have k2 : IntKind.i64.wrap ((k : Int) + 1) = (k : Int) + 1 := IntWalk.i64_in _ (by omega)
    have hlp : ∀ x ∈ l, 0 ≤ x := fun x hx => by obtain ⟨i, rfl, _⟩ := hle x hx; omega
    obtain ⟨R, hR⟩ : ∃ R, chooseR rest P left l = R := ⟨_, rfl⟩
    have hih := fun M P W hU hr => HIHA.out (k + 1) hkl M P W hU hr
    rw [hrest, e1] at hih
    have HIH := Lib.hid hih
    subst hdl
    by_cases hRn : R < 0
    · have hno : ∀ x ∈ l, mayP rest P left x = false := choose_neg hlp (by rw [hR]; exact hRn)
      have HNO := Lib.hid hno
      have HSUF : Hid ((done ++ [(-1 : Int)]) ++ fillR rest P left = fillR ls noneP want) := Lib.hid (by
        rw [← hsuf, fillR_none (choose_m1 hlp (by rw [hR]; exact hRn)), List.append_assoc]; rfl)
      have HREST := Lib.hid hrest
      clear hno hsuf hR hRn hlp hih hbd hle hcell hu hr5 hl hd hrest e1 hkl
      go_wp2_with fail
      go_loopw [8, 22] (fun v8 v22 wr => ∃ (i : Nat), i ≤ l.length ∧ v22 = .int .i64 i ∧ v8 = .int .i64 (-1) ∧ wA = wr) (fun _ v22 _ => l.length - (intOf v22).toNat)
      case atStart => exact ⟨0, Nat.zero_le _, rfl, rfl, rfl⟩
      case round =>
       obtain ⟨i, hi', rfl, rfl, rfl⟩ := hrel
       by_cases hli : i < l.length
       ·
        obtain ⟨b5, off5, rfl, hbl5, hcell5⟩ := HR5.out (by omega)
        obtain ⟨x, hx⟩ : ∃ x, l[i]? = some x := ⟨_, List.getElem?_eq_getElem hli⟩
        have d0 := cell_at hcell5 HB.out hbl5 (ints_get hx)
        obtain ⟨xn, rfl, hx7⟩ := HLE.out x (List.mem_of_getElem? hx)
        have j0 : (0 : Int) ≤ (xn : Int) := by omega
        have j1 : (xn : Int) ≤ 64 := by omega
        have u1 : IntKind.u64.wrap (xn : Int) = (xn : Int) := by rw [IntKind.wrap_u64]; omega
        have hM := HU.out.1
        have hbit := bit_of M xn (by omega)
        rw [HU.out.2 xn hx7] at hbit
        have hmay := HNO.out _ (List.mem_of_getElem? hx)
        clear hx hcell5
        by_cases hP : P xn = true
        · rw [if_pos hP] at hbit
          clear hP hmay
          go_wp2
          exact ⟨⟨i + 1, by omega, by go_num, rfl, (by first | rfl | trivial)⟩, by simp [intOf]; omega⟩
        · have hP : P xn = false := by simpa using hP
          rw [if_neg (by rw [hP]; simp)] at hbit
          have hbn := HBD.out (updP P xn)
          have hUn := usedM_or HU.out hx7
          obtain ⟨r, hr⟩ : ∃ r, mostR rest (updP P xn) = r := ⟨_, rfl⟩
          have hcn := HIH.out _ _ wA hUn (HR.out.below HB.out)
          have hMn := hUn.1
          rw [hr] at hbn hcn
          obtain ⟨pw, hpw⟩ : ∃ pw : Nat, 2 ^ xn = pw := ⟨_, rfl⟩
          have hp7 : pw ≤ 64 := by rw [← hpw]; exact Nat.le_trans (Nat.pow_le_pow_right (by omega) (show xn ≤ 6 by omega)) (by decide)
          obtain ⟨M2, hM2⟩ : ∃ M2, M ||| 2 ^ xn = M2 := ⟨_, rfl⟩
          rw [hM2] at hcn hMn hUn
          rw [hpw] at hM2
          have e2 : IntKind.i64.wrap ((2 : Int) ^ xn) = (pw : Int) := by
            have : (2 : Int) ^ xn = (pw : Int) := by rw [← hpw, Int.natCast_pow]; rfl
            rw [this, IntKind.wrap_i64]; omega
          have e3 : bits .or .i64 (M : Int) (pw : Int) = (M2 : Int) := by rw [bits_or_i64_nat M pw (by omega) (by omega), hM2]
          have HCN := Lib.hid hcn
          have HUN := Lib.hid hUn
          have s2 : IntKind.i64.wrap (1 + (r : Int)) = 1 + (r : Int) := IntWalk.i64_in _ (by omega)
          have e5 : ((1 + (r : Int)) == (left : Int)) = false := by
            rw [may_free hP, hr] at hmay
            rw [beq_eq_false_iff_ne]
            have := of_decide_eq_false hmay
            omega
          clear hP hr hpw hM2 hUn hcn hmay
          go_wp2_with fail
          refine HCN.out.mono ?_; rintro e w2 ⟨rfl, rfl⟩
          go_wp2
          exact ⟨⟨i + 1, by omega, by go_num, rfl, (by first | rfl | trivial)⟩, by simp [intOf]; omega⟩
       · obtain rfl : i = l.length := by omega
         go_wp2_with (at_builtin; refine wpList_app_rd _ rfl _ _ 25 rfl w.heap.size 3 i0 (.int .i64 0) 1 8 Try.underlying25 hi hz0 hz1 hz2 rfl (by decide) _ _ _ rfl (HOW.out.alloc _) _ 1 [.int .i64 (-1)] rfl (rd_new _ rfl (Nat.le_refl _) (by rw [maxLen_eq]; omega)) rfl (ints_one [(-1)]) (by rw [maxLen_eq]; omega) (by omega) (by have := HB.out.size; simp; omega) ?_; intro v' w7 hown' hgrow he)
         refine ⟨⟨done.length + 1, left, M, P, done ++ [-1], by omega, hleft, by simp, by go_num, rfl, rfl, HU, Lib.hid (by rw [HREST.out]; exact HSUF.out), Lib.hid ?_, Lib.hid (bel_grown (bel_al HB.out _) hgrow (fun q e => (HOW.out.lt q e).1))⟩, by simp [intOf]; omega⟩
         rw [ints_append, List.length_append]; exact hown'
    · have hcs := choose_some (l := l) (rest := rest) (P := P) (left := left) (by rw [hR]; omega)
      rw [hR] at hcs
      obtain ⟨m, rfl, hm7⟩ := hle R hcs.1
      have hl1 := hcs.2
      have HSUF : Hid ((done ++ [(m : Int)]) ++ fillR rest (updP P m) (left - 1) = fillR ls noneP want) := Lib.hid (by
        rw [← hsuf, fillR_some hR, List.append_assoc]; rfl)
      have HREST := Lib.hid hrest
      have HRR := Lib.hid hR
      clear hcs hsuf hR hRn hlp hih hbd hle hcell hu hr5 hl hd hrest e1 hkl
      go_wp2_with fail
      go_loopw [8, 22] (fun v8 v22 wr => ∃ (i : Nat), i ≤ l.length ∧ v22 = .int .i64 i ∧ v8 = .int .i64 (-1) ∧ Hid (chooseR rest P left (l.drop i) = (m : Int)) ∧ wA = wr) (fun _ v22 _ => l.length - (intOf v22).toNat)
      case atStart => exact ⟨0, Nat.zero_le _, rfl, rfl, Lib.hid (by rw [List.drop_zero]; exact HRR.out), rfl⟩
      case round =>
       obtain ⟨i, hi', rfl, rfl, HC, rfl⟩ := hrel
       by_cases hli : i < l.length
       ·
        obtain ⟨b5, off5, rfl, hbl5, hcell5⟩ := HR5.out (by omega)
        obtain ⟨x, hx⟩ : ∃ x, l[i]? = some x := ⟨_, List.getElem?_eq_getElem hli⟩
        have d0 := cell_at hcell5 HB.out hbl5 (ints_get hx)
        obtain ⟨xn, rfl, hx7⟩ := HLE.out x (List.mem_of_getElem? hx)
        have j0 : (0 : Int) ≤ (xn : Int) := by omega
        have j1 : (xn : Int) ≤ 64 := by omega
        have u1 : IntKind.u64.wrap (xn : Int) = (xn : Int) := by rw [IntKind.wrap_u64]; omega
        have hM := HU.out.1
        have hbit := bit_of M xn (by omega)
        rw [HU.out.2 xn hx7] at hbit
        have HX := Lib.hid hx
        clear hx hcell5
        by_cases hP : P xn = true
        · rw [if_pos hP] at hbit
          have HC2 : Hid (chooseR rest P left (l.drop (i + 1)) = (m : Int)) := Lib.hid (by rw [← choose_next HX.out (may_used hP)]; exact HC.out)
          clear hP
          go_wp2
          exact ⟨⟨i + 1, by omega, by go_num, rfl, HC2, (by first | rfl | trivial)⟩, by simp [intOf]; omega⟩
        · have hP : P xn = false := by simpa using hP
          rw [if_neg (by rw [hP]; simp)] at hbit
          have hbn := HBD.out (updP P xn)
          have hUn := usedM_or HU.out hx7
          obtain ⟨r, hr⟩ : ∃ r, mostR rest (updP P xn) = r := ⟨_, rfl⟩
          have hcn := HIH.out _ _ wA hUn (HR.out.below HB.out)
          have hMn := hUn.1
          rw [hr] at hbn hcn
          obtain ⟨pw, hpw⟩ : ∃ pw : Nat, 2 ^ xn = pw := ⟨_, rfl⟩
          have hp7 : pw ≤ 64 := by rw [← hpw]; exact Nat.le_trans (Nat.pow_le_pow_right (by omega) (show xn ≤ 6 by omega)) (by decide)
          obtain ⟨M2, hM2⟩ : ∃ M2, M ||| 2 ^ xn = M2 := ⟨_, rfl⟩
          rw [hM2] at hcn hMn hUn
          rw [hpw] at hM2
          have e2 : IntKind.i64.wrap ((2 : Int) ^ xn) = (pw : Int) := by
            have : (2 : Int) ^ xn = (pw : Int) := by rw [← hpw, Int.natCast_pow]; rfl
            rw [this, IntKind.wrap_i64]; omega
          have e3 : bits .or .i64 (M : Int) (pw : Int) = (M2 : Int) := by rw [bits_or_i64_nat M pw (by omega) (by omega), hM2]
          have HCN := Lib.hid hcn
          have HUN := Lib.hid hUn
          have s2 : IntKind.i64.wrap (1 + (r : Int)) = 1 + (r : Int) := IntWalk.i64_in _ (by omega)
          by_cases hmay : 1 + r = left
          · have hyes : mayP rest P left (xn : Int) = true := by rw [may_free hP, hr]; exact decide_eq_true hmay
            have hxm := (choose_here HX.out hyes).symm.trans HC.out
            have e5 : ((1 + (r : Int)) == (left : Int)) = true := by rw [beq_iff_eq]; omega
            obtain rfl : xn = m := by omega
            clear hP hr hpw hM2 hUn hcn hmay hyes hxm
            go_wp2_with fail
            refine HCN.out.mono ?_; rintro e w2 ⟨rfl, rfl⟩
            go_wp2_with (at_builtin; refine wpList_app_rd _ rfl _ _ 25 rfl w.heap.size 3 i0 (.int .i64 0) 1 8 Try.underlying25 hi hz0 hz1 hz2 rfl (by decide) _ _ _ rfl (HOW.out.alloc _) _ 1 [.int .i64 (xn : Int)] rfl (rd_new _ rfl (Nat.le_refl _) (by rw [maxLen_eq]; omega)) rfl (ints_one [(xn : Int)]) (by rw [maxLen_eq]; omega) (by omega) (by have := HB.out.size; simp; omega) ?_; intro v' w7 hown' hgrow he)
            refine ⟨⟨done.length + 1, left - 1, M2, updP P xn, done ++ [(xn : Int)], by omega, by omega, by simp, by go_num, congrArg (Value.int .i64) (by omega), rfl, HUN, Lib.hid (by rw [HREST.out]; exact HSUF.out), Lib.hid ?_, Lib.hid (bel_grown (bel_al HB.out _) hgrow (fun q e => (HOW.out.lt q e).1))⟩, by simp [intOf]; omega⟩
            rw [ints_append, List.length_append]; exact hown'
          · have hnot : mayP rest P left (xn : Int) = false := by rw [may_free hP, hr]; exact decide_eq_false hmay
            have HC2 : Hid (chooseR rest P left (l.drop (i + 1)) = (m : Int)) := Lib.hid (by rw [← choose_next HX.out hnot]; exact HC.out)
            have e5 : ((1 + (r : Int)) == (left : Int)) = false := by rw [beq_eq_false_iff_ne]; omega
            clear hP hr hpw hM2 hUn hcn hmay hnot
            go_wp2_with fail
            refine HCN.out.mono ?_; rintro e w2 ⟨rfl, rfl⟩
            go_wp2
            exact ⟨⟨i + 1, by omega, by go_num, rfl, HC2, (by first | rfl | trivial)⟩, by simp [intOf]; omega⟩
       · exfalso
         obtain rfl : i = l.length := by omega
         have := HC.out
         rw [choose_end] at this
         omega
   · obtain rfl : k = ls.length := by omega
     go_wp2
     go_ret
     have e := HF.out
     rw [List.drop_length] at e
     have e2 : done = fillR ls noneP want := by rw [← e]; simp [fillR]
     rw [← e2]
     exact ⟨_, rfl, HOW.out, HB.out⟩

set_option maxRecDepth 100000 in
set_option maxHeartbeats 4000000 in
theorem mvBest_c (v : Value) (ls : List (List Int)) (w : World) (ht : Tab ls) (hr : RdSS w v ls) :
    Calls Try.prog 59 #[v] w (OwnI (fillR ls noneP (mostR ls noneP)) w) := by
  have hmf := mvMost_c v ls ht ls.length 0 (.slice none 0 0) [] noneP w (by omega) (by simp) usedL_nil hr (rdi_nil _)
  rw [List.drop_zero] at hmf
  have hmf2 := mostR_le ls noneP
  have HMF := Lib.hid hmf
  have HT := Lib.hid ht
  have HR := Lib.hid hr
  obtain ⟨i0, hi, hz0, hz1, hz2⟩ := info_parts Try.infoInt
  obtain ⟨vs, hv⟩ := hr
  have hvl := hv.len
  have HV := Lib.hid hv
  have ht6 : ls.length ≤ 6 := ht.1
  obtain ⟨A, c, rfl, hc, hm, hcl⟩ := hv.outer
  rw [maxLen_eq] at hm
  have HCL := Lib.hid hcl
  obtain ⟨want, hwant⟩ : ∃ want, mostR ls noneP = want := ⟨_, rfl⟩
  have hih := fun (j : Nat) (hj : j ≤ ls.length) u q P W hq hU hr hq' => mvMost_c (.slice A ls.length c) ls ht (ls.length - j) j u q P W (by omega) hq hU hr hq'
  have HIHA := Lib.hid hih
  rw [hwant] at hmf2 HMF ⊢
  have HWA := Lib.hid hwant
  clear hv hcl ht hmf hwant hih
  go_enter Try.func59, Try.ntmps59
  go_wp2_with fail
  refine HMF.out.mono ?_; rintro e w2 ⟨rfl, hb2⟩
  have HB2 := Lib.hid hb2
  clear hb2
  go_wp2_with fail
  go_loopw [3, 4, 5, 14] (fun v3 v4 v5 v14 wr => ∃ (k left : Nat) (P : Nat → Bool) (q done : List Int), k ≤ ls.length ∧ left ≤ 6 ∧ done.length = k ∧ q.length ≤ k ∧ v14 = .int .i64 k ∧ v5 = .int .i64 (left : Nat) ∧ Hid (UsedL q P) ∧ Hid (done ++ fillR (ls.drop k) P left = fillR ls noneP want) ∧ Hid (wr.ownsRow w.heap.size 3 1 v3 done.length (ints done)) ∧ Hid (wr.ownsRow w.heap.size 3 1 v4 q.length (ints q)) ∧ Hid (Sep v3 v4) ∧ Hid (Below w.heap.size w wr)) (fun _ _ _ v14 _ => ls.length - (intOf v14).toNat)
  case atStart => exact ⟨0, want, noneP, [], [], Nat.zero_le _, by omega, rfl, Nat.le_refl _, rfl, rfl, Lib.hid usedL_nil, Lib.hid rfl, Lib.hid (show w2.ownsRow w.heap.size 3 1 (.slice none 0 0) 0 [] from World.ownsRow_nil _ _ _ _), Lib.hid (show w2.ownsRow w.heap.size 3 1 (.slice none 0 0) 0 [] from World.ownsRow_nil _ _ _ _), Lib.hid (fun q q' h => by cases h), HB2⟩
  case round =>
   obtain ⟨k, left, P, q, done, hk, hleft, hdl, hqk, rfl, rfl, HU, HF, HOW, HOQ, HSP, HB⟩ := hrel
   obtain ⟨wA, rfl⟩ : ∃ wA : World, wA = wr := ⟨_, rfl⟩
   have hsA := HB.out.size
   by_cases hlt : k < ls.length
   ·
    have hkl : k < ls.length := hlt
    obtain ⟨l, hl⟩ : ∃ l, ls[k]? = some l := ⟨_, List.getElem?_eq_getElem hkl⟩
    have hd : ls.drop k = l :: ls.drop (k + 1) := by
      rw [List.drop_eq_getElem_cons hkl]
      rw [List.getElem?_eq_getElem hkl] at hl
      rw [Option.some.inj hl]
    obtain ⟨rest, hrest⟩ : ∃ rest, ls.drop (k + 1) = rest := ⟨_, rfl⟩
    have hrl : rest.length ≤ 5 := by rw [← hrest, List.length_drop]; have := HT.out.1; omega
    have hk5 : k ≤ 5 := by have := HT.out.1; omega
    have hbd := fun Q => mostR_le rest Q
    have e1 : ((k + 1 : Nat) : Int) = (k : Int) + 1 := by omega
    obtain ⟨hl7, hle⟩ := HT.out.2 l (List.mem_of_getElem? hl)
    have hsuf := HF.out
    rw [hd, hrest] at hsuf
    obtain ⟨u, hu⟩ : ∃ u, vs[k]? = some u := ⟨_, List.getElem?_eq_getElem (by omega)⟩
    obtain ⟨b, off, rfl, hbl, hcell⟩ := HCL.out (by omega)
    have c0 := cell_at hcell HB.out hbl hu
    obtain ⟨A5, c5, rfl, hc5, hm5, hr5⟩ := HV.out.inner k u l hu hl
    rw [maxLen_eq] at hm5
    have HR5 := Lib.hid hr5
    have HLE := Lib.hid hle
    have HBD := Lib.hid hbd
    have k0 : (0 : Int) ≤ (k : Int) := by omega
    have k1 : (k : Int) < (ls.length : Int) := by omega
    have k2 : IntKind.i64.wrap ((k : Int) + 1) = (k : Int) + 1 := IntWalk.i64_in _ (by omega)
    have hlp : ∀ x ∈ l, 0 ≤ x := fun x hx => by obtain ⟨i, rfl, _⟩ := hle x hx; omega
    obtain ⟨R, hR⟩ : ∃ R, chooseR rest P left l = R := ⟨_, rfl⟩
    have hih := fun u q P W hq hU hr hq' => HIHA.out (k + 1) hkl u q P W hq hU hr hq'
    rw [hrest, e1] at hih
    have HIH := Lib.hid hih
    subst hdl
    have HQR := Lib.hid (rdi_own HOQ.out)
    obtain ⟨A4, c4, hx4, hc4, hm4, _⟩ := own_rd HOQ.out
    subst hx4
    rw [maxLen_eq] at hm4
    by_cases hRn : R < 0
    · have hno : ∀ x ∈ l, mayP rest P left x = false := choose_neg hlp (by rw [hR]; exact hRn)
      have HNO := Lib.hid hno
      have HSUF : Hid ((done ++ [(-1 : Int)]) ++ fillR rest P left = fillR ls noneP want) := Lib.hid (by
        rw [← hsuf, fillR_none (choose_m1 hlp (by rw [hR]; exact hRn)), List.append_assoc]; rfl)
      have HREST := Lib.hid hrest
      clear hno hsuf hR hRn hlp hih hbd hle hcell hu hr5 hl hd hrest e1 hkl
      go_wp2_with fail
      go_loopw [7, 22] (fun v7 v22 wr => ∃ (i : Nat), i ≤ l.length ∧ v22 = .int .i64 i ∧ v7 = .int .i64 (-1) ∧ Hid (Below wA.heap.size wA wr)) (fun _ v22 _ => l.length - (intOf v22).toNat)
      case atStart => exact ⟨0, Nat.zero_le _, rfl, rfl, Lib.hid (Below.refl _ _)⟩
      case round =>
       obtain ⟨i, hi', rfl, rfl, HBI⟩ := hrel
       obtain ⟨wB, rfl⟩ : ∃ wB : World, wB = wr := ⟨_, rfl⟩
       by_cases hli : i < l.length
       ·
        obtain ⟨b5, off5, rfl, hbl5, hcell5⟩ := HR5.out (by omega)
        obtain ⟨x, hx⟩ : ∃ x, l[i]? = some x := ⟨_, List.getElem?_eq_getElem hli⟩
        have d0 := cell_at hcell5 (bel_then HB.out HBI.out) hbl5 (ints_get hx)
        obtain ⟨xn, rfl, hx7⟩ := HLE.out x (List.mem_of_getElem? hx)
        have j0 : (0 : Int) ≤ (xn : Int) := by omega
        have j1 : (xn : Int) ≤ 64 := by omega
        have hmay := HNO.out _ (List.mem_of_getElem? hx)
        have hin := HU.out xn hx7
        clear hx hcell5
        by_cases hP : P xn = true
        · rw [hP] at hin
          have HIN := Lib.hid hin
          clear hP hmay hin
          go_wp2_with fail
          refine (l1Has_c _ (xn : Int) q _ (rdi_below HQR.out HBI.out)).mono ?_; rw [HIN.out]; rintro e w2 ⟨rfl, rfl⟩
          go_wp2
          exact ⟨⟨i + 1, by omega, by go_num, rfl, HBI⟩, by simp [intOf]; omega⟩
        · have hP : P xn = false := by simpa using hP
          rw [hP] at hin
          have HIN := Lib.hid hin
          have hbn := HBD.out (updP P xn)
          have HUN := Lib.hid (usedL_snoc (m := xn) HU.out)
          obtain ⟨r, hr⟩ : ∃ r, mostR rest (updP P xn) = r := ⟨_, rfl⟩
          rw [hr] at hbn
          have HRR2 := Lib.hid hr
          have s2 : IntKind.i64.wrap (1 + (r : Int)) = 1 + (r : Int) := IntWalk.i64_in _ (by omega)
          have e5 : ((1 + (r : Int)) == (left : Int)) = false := by
            rw [may_free hP, hr] at hmay
            rw [beq_eq_false_iff_ne]
            have := of_decide_eq_false hmay
            omega
          clear hP hr hin hmay
          go_wp2_with fail
          refine (l1Has_c _ (xn : Int) q _ (rdi_below HQR.out HBI.out)).mono ?_; rw [HIN.out]; rintro e w2 ⟨rfl, rfl⟩
          go_wp2_with fail
          refine (l1Own_c _ q _ (rdi_below HQR.out HBI.out) (by omega)).mono ?_; rintro e w3 ⟨v3', rfl, ho3, hb3⟩
          have HO3 := Lib.hid ho3
          have HB3 := Lib.hid (bel_then HBI.out hb3)
          have hs3 := hb3.size
          have hsB := HBI.out.size
          clear ho3 hb3
          go_wp2_with (at_builtin; refine wpList_app_rdg _ (by rfl) _ _ 25 rfl wB.heap.size 3 i0 (.int .i64 0) 1 8 Try.underlying25 hi hz0 hz1 hz2 rfl (by decide) _ _ _ rfl (HO3.out.alloc _) _ 1 [.int .i64 xn] rfl (rd_new _ rfl (Nat.le_refl _) (by rw [maxLen_eq]; omega)) rfl (ints_one [(xn : Int)]) (by rw [maxLen_eq]; omega) (by omega) (by simp; omega) ?_; intro v' w7 hown' hgrow _)
          have HO7 : Hid (w7.ownsRow wB.heap.size 3 1 v' (q ++ [(xn : Int)]).length (ints (q ++ [(xn : Int)]))) := Lib.hid (by rw [ints_append, List.length_append]; exact hown')
          have HB7 : Hid (Below wA.heap.size wA w7) := Lib.hid (bel_grown (bel_al HB3.out _) hgrow (fun q e => by have := (HO3.out.lt q e).1; omega))
          have hcn := HIH.out v' (q ++ [(xn : Int)]) (updP P xn) w7 (by simp; omega) HUN.out (HR.out.below (bel_then HB.out HB7.out)) (rdi_own HO7.out)
          rw [HRR2.out] at hcn
          have HCN := Lib.hid hcn
          clear hown' hgrow hcn
          refine HCN.out.mono ?_; rintro e w8 ⟨rfl, hb8⟩
          have HB8 := Lib.hid (bel_then HB7.out hb8)
          clear hb8
          go_wp2
          exact ⟨⟨i + 1, by omega, by go_num, rfl, HB8⟩, by simp [intOf]; omega⟩
       · obtain rfl : i = l.length := by omega
         have HOW2 := Lib.hid (own_below HOW.out HBI.out)
         have HBW := Lib.hid (bel_then HB.out HBI.out)
         have hsB := HBI.out.size
         go_wp2_with (at_builtin; refine wpList_app_rd _ rfl _ _ 25 rfl w.heap.size 3 i0 (.int .i64 0) 1 8 Try.underlying25 hi hz0 hz1 hz2 rfl (by decide) _ _ _ rfl (HOW2.out.alloc _) _ 1 [.int .i64 (-1)] rfl (rd_new _ rfl (Nat.le_refl _) (by rw [maxLen_eq]; omega)) rfl (ints_one [(-1)]) (by rw [maxLen_eq]; omega) (by omega) (by have := HBW.out.size; simp; omega) ?_; intro v' w7 hown' hgrow he)
         refine ⟨⟨done.length + 1, left, P, q, done ++ [-1], by omega, hleft, by simp, by omega, by go_num, rfl, HU, Lib.hid (by rw [HREST.out]; exact HSUF.out), Lib.hid ?_, Lib.hid ?_, Lib.hid ?_, Lib.hid (bel_grown (bel_al HBW.out _) hgrow (fun q e => (HOW.out.lt q e).1))⟩, by simp [intOf]; omega⟩
         · rw [ints_append, List.length_append]; exact hown'
         · exact kept2 ((own_below HOQ.out HBI.out).alloc _) hgrow HSP.out.symm
         · exact sep_grow he HSP.out (fun q e => by have := (HOQ.out.lt q e).2; simp; omega)
    · have hcs := choose_some (l := l) (rest := rest) (P := P) (left := left) (by rw [hR]; omega)
      rw [hR] at hcs
      obtain ⟨m, rfl, hm7⟩ := hle R hcs.1
      have hl1 := hcs.2
      have HSUF : Hid ((done ++ [(m : Int)]) ++ fillR rest (updP P m) (left - 1) = fillR ls noneP want) := Lib.hid (by
        rw [← hsuf, fillR_some hR, List.append_assoc]; rfl)
      have HREST := Lib.hid hrest
      have HRR := Lib.hid hR
      clear hcs hsuf hR hRn hlp hih hbd hle hcell hu hr5 hl hd hrest e1 hkl
      go_wp2_with fail
      go_loopw [7, 22] (fun v7 v22 wr => ∃ (i : Nat) (t : Int), i ≤ l.length ∧ v22 = .int .i64 i ∧ v7 = .int .i64 t ∧ (t = -1 ∨ t = (m : Int)) ∧ Hid (IfM1 t (chooseR rest P left (l.drop i) = (m : Int))) ∧ Hid (Below wA.heap.size wA wr)) (fun _ v22 _ => l.length - (intOf v22).toNat)
      case atStart => exact ⟨0, -1, Nat.zero_le _, rfl, rfl, .inl rfl, Lib.hid (fun _ => by rw [List.drop_zero]; exact HRR.out), Lib.hid (Below.refl _ _)⟩
      case round =>
       obtain ⟨i, t, hi', rfl, rfl, ht, HC, HBI⟩ := hrel
       obtain ⟨wB, rfl⟩ : ∃ wB : World, wB = wr := ⟨_, rfl⟩
       by_cases hli : i < l.length
       ·
        obtain ⟨b5, off5, rfl, hbl5, hcell5⟩ := HR5.out (by omega)
        obtain ⟨x, hx⟩ : ∃ x, l[i]? = some x := ⟨_, List.getElem?_eq_getElem hli⟩
        have d0 := cell_at hcell5 (bel_then HB.out HBI.out) hbl5 (ints_get hx)
        obtain ⟨xn, rfl, hx7⟩ := HLE.out x (List.mem_of_getElem? hx)
        have j0 : (0 : Int) ≤ (xn : Int) := by omega
        have j1 : (xn : Int) ≤ 64 := by omega
        have HX := Lib.hid hx
        have hin := HU.out xn hx7
        clear hx hcell5
        rcases ht with rfl | rfl
        · by_cases hP : P xn = true
          · rw [hP] at hin
            have HIN := Lib.hid hin
            have HC2 : Hid (IfM1 (-1) (chooseR rest P left (l.drop (i + 1)) = (m : Int))) := Lib.hid (fun _ => by rw [← choose_next HX.out (may_used hP)]; exact HC.out.get rfl)
            clear hP hin
            go_wp2_with fail
            refine (l1Has_c _ (xn : Int) q _ (rdi_below HQR.out HBI.out)).mono ?_; rw [HIN.out]; rintro e w2 ⟨rfl, rfl⟩
            go_wp2
            exact ⟨⟨i + 1, -1, by omega, by go_num, rfl, .inl rfl, HC2, HBI⟩, by simp [intOf]; omega⟩
          · have hP : P xn = false := by simpa using hP
            rw [hP] at hin
            have HIN := Lib.hid hin
            have hbn := HBD.out (updP P xn)
            have HUN := Lib.hid (usedL_snoc (m := xn) HU.out)
            obtain ⟨r, hr⟩ : ∃ r, mostR rest (updP P xn) = r := ⟨_, rfl⟩
            rw [hr] at hbn
            have HRR2 := Lib.hid hr
            have s2 : IntKind.i64.wrap (1 + (r : Int)) = 1 + (r : Int) := IntWalk.i64_in _ (by omega)
            by_cases hmay : 1 + r = left
            · have hyes : mayP rest P left (xn : Int) = true := by rw [may_free hP, hr]; exact decide_eq_true hmay
              have hxm := (choose_here HX.out hyes).symm.trans (HC.out.get rfl)
              have e5 : ((1 + (r : Int)) == (left : Int)) = true := by rw [beq_iff_eq]; omega
              obtain rfl : xn = m := by omega
              clear hP hr hin hmay hyes hxm
              go_wp2_with fail
              refine (l1Has_c _ (xn : Int) q _ (rdi_below HQR.out HBI.out)).mono ?_; rw [HIN.out]; rintro e w2 ⟨rfl, rfl⟩
              go_wp2_with fail
              refine (l1Own_c _ q _ (rdi_below HQR.out HBI.out) (by omega)).mono ?_; rintro e w3 ⟨v3', rfl, ho3, hb3⟩
              have HO3 := Lib.hid ho3
              have HB3 := Lib.hid (bel_then HBI.out hb3)
              have hs3 := hb3.size
              have hsB := HBI.out.size
              clear ho3 hb3
              go_wp2_with (at_builtin; refine wpList_app_rdg _ (by rfl) _ _ 25 rfl wB.heap.size 3 i0 (.int .i64 0) 1 8 Try.underlying25 hi hz0 hz1 hz2 rfl (by decide) _ _ _ rfl (HO3.out.alloc _) _ 1 [.int .i64 xn] rfl (rd_new _ rfl (Nat.le_refl _) (by rw [maxLen_eq]; omega)) rfl (ints_one [(xn : Int)]) (by rw [maxLen_eq]; omega) (by omega) (by simp; omega) ?_; intro v' w7 hown' hgrow _)
              have HO7 : Hid (w7.ownsRow wB.heap.size 3 1 v' (q ++ [(xn : Int)]).length (ints (q ++ [(xn : Int)]))) := Lib.hid (by rw [ints_append, List.length_append]; exact hown')
              have HB7 : Hid (Below wA.heap.size wA w7) := Lib.hid (bel_grown (bel_al HB3.out _) hgrow (fun q e => by have := (HO3.out.lt q e).1; omega))
              have hcn := HIH.out v' (q ++ [(xn : Int)]) (updP P xn) w7 (by simp; omega) HUN.out (HR.out.below (bel_then HB.out HB7.out)) (rdi_own HO7.out)
              rw [HRR2.out] at hcn
              have HCN := Lib.hid hcn
              clear hown' hgrow hcn
              refine HCN.out.mono ?_; rintro e w8 ⟨rfl, hb8⟩
              have HB8 := Lib.hid (bel_then HB7.out hb8)
              clear hb8
              go_wp2
              exact ⟨⟨i + 1, (xn : Int), by omega, by go_num, rfl, .inr rfl, Lib.hid (fun h => by omega), HB8⟩, by simp [intOf]; omega⟩
            · have hnot : mayP rest P left (xn : Int) = false := by rw [may_free hP, hr]; exact decide_eq_false hmay
              have HC2 : Hid (IfM1 (-1) (chooseR rest P left (l.drop (i + 1)) = (m : Int))) := Lib.hid (fun _ => by rw [← choose_next HX.out hnot]; exact HC.out.get rfl)
              have e5 : ((1 + (r : Int)) == (left : Int)) = false := by rw [beq_eq_false_iff_ne]; omega
              clear hP hr hin hmay hnot
              go_wp2_with fail
              refine (l1Has_c _ (xn : Int) q _ (rdi_below HQR.out HBI.out)).mono ?_; rw [HIN.out]; rintro e w2 ⟨rfl, rfl⟩
              go_wp2_with fail
              refine (l1Own_c _ q _ (rdi_below HQR.out HBI.out) (by omega)).mono ?_; rintro e w3 ⟨v3', rfl, ho3, hb3⟩
              have HO3 := Lib.hid ho3
              have HB3 := Lib.hid (bel_then HBI.out hb3)
              have hs3 := hb3.size
              have hsB := HBI.out.size
              clear ho3 hb3
              go_wp2_with (at_builtin; refine wpList_app_rdg _ (by rfl) _ _ 25 rfl wB.heap.size 3 i0 (.int .i64 0) 1 8 Try.underlying25 hi hz0 hz1 hz2 rfl (by decide) _ _ _ rfl (HO3.out.alloc _) _ 1 [.int .i64 xn] rfl (rd_new _ rfl (Nat.le_refl _) (by rw [maxLen_eq]; omega)) rfl (ints_one [(xn : Int)]) (by rw [maxLen_eq]; omega) (by omega) (by simp; omega) ?_; intro v' w7 hown' hgrow _)
              have HO7 : Hid (w7.ownsRow wB.heap.size 3 1 v' (q ++ [(xn : Int)]).length (ints (q ++ [(xn : Int)]))) := Lib.hid (by rw [ints_append, List.length_append]; exact hown')
              have HB7 : Hid (Below wA.heap.size wA w7) := Lib.hid (bel_grown (bel_al HB3.out _) hgrow (fun q e => by have := (HO3.out.lt q e).1; omega))
              have hcn := HIH.out v' (q ++ [(xn : Int)]) (updP P xn) w7 (by simp; omega) HUN.out (HR.out.below (bel_then HB.out HB7.out)) (rdi_own HO7.out)
              rw [HRR2.out] at hcn
              have HCN := Lib.hid hcn
              clear hown' hgrow hcn
              refine HCN.out.mono ?_; rintro e w8 ⟨rfl, hb8⟩
              have HB8 := Lib.hid (bel_then HB7.out hb8)
              clear hb8
              go_wp2
              exact ⟨⟨i + 1, -1, by omega, by go_num, rfl, .inl rfl, HC2, HB8⟩, by simp [intOf]; omega⟩
        · have hmn : (0 : Int) ≤ (m : Int) := by omega
          go_wp2
          exact ⟨⟨i + 1, (m : Int), by omega, by go_num, rfl, .inr rfl, Lib.hid (fun h => by omega), HBI⟩, by simp [intOf]; omega⟩
       · obtain rfl : i = l.length := by omega
         have htm : t = (m : Int) := by
          rcases ht with h | h
          · have := HC.out.get h
            rw [choose_end] at this
            omega
          · exact h
         subst htm
         have hmn : (0 : Int) ≤ (m : Int) := by omega
         have HOW2 := Lib.hid (own_below HOW.out HBI.out)
         have HOQ2 := Lib.hid (own_below HOQ.out HBI.out)
         have HBW := Lib.hid (bel_then HB.out HBI.out)
         have hsB := HBI.out.size
         clear ht
         go_wp2_with (first | (at_builtin; refine wpList_app_rd _ rfl _ _ 25 rfl w.heap.size 3 i0 (.int .i64 0) 1 8 Try.underlying25 hi hz0 hz1 hz2 rfl (by decide) _ _ _ rfl (HOQ2.out.alloc _) _ 1 [.int .i64 (m : Int)] rfl (rd_new _ rfl (Nat.le_refl _) (by rw [maxLen_eq]; omega)) rfl (ints_one [(m : Int)]) (by rw [maxLen_eq]; omega) (by omega) (by have := HBW.out.size; simp; omega) ?_; intro vq wq hownq hgrowq heq; have HQ9 : Hid (wq.ownsRow w.heap.size 3 1 vq (q ++ [(m : Int)]).length (ints (q ++ [(m : Int)]))) := Lib.hid (by rw [ints_append, List.length_append]; exact hownq); have HOW3 : Hid (wq.ownsRow w.heap.size 3 1 _ done.length (ints done)) := Lib.hid (kept2 (HOW2.out.alloc _) hgrowq HSP.out); have HSP3 : Hid (Sep vq _) := Lib.hid (sep_grow heq HSP.out.symm (fun q e => by have := (HOW.out.lt q e).2; simp; omega)); have HB9 : Hid (Below w.heap.size w wq) := Lib.hid (bel_grown (bel_al HBW.out _) hgrowq (fun q e => (HOQ.out.lt q e).1)); have hsQ := hgrowq.size; clear hownq hgrowq heq) | (at_builtin; refine wpList_app_rd _ rfl _ _ 25 rfl w.heap.size 3 i0 (.int .i64 0) 1 8 Try.underlying25 hi hz0 hz1 hz2 rfl (by decide) _ _ _ rfl (HOW3.out.alloc _) _ 1 [.int .i64 (m : Int)] rfl (rd_new _ rfl (Nat.le_refl _) (by rw [maxLen_eq]; omega)) rfl (ints_one [(m : Int)]) (by rw [maxLen_eq]; omega) (by omega) (by have := HB9.out.size; simp; omega) ?_; intro v' w7 hown' hgrow he))
         refine ⟨⟨done.length + 1, left - 1, updP P m, q ++ [(m : Int)], done ++ [(m : Int)], by omega, by omega, by simp, by simp; omega, by go_num, congrArg (Value.int .i64) (by omega), Lib.hid (usedL_snoc HU.out), Lib.hid (by rw [HREST.out]; exact HSUF.out), Lib.hid ?_, Lib.hid ?_, Lib.hid ?_, Lib.hid (bel_grown (bel_al HB9.out _) hgrow (fun q e => (HOW.out.lt q e).1))⟩, by simp [intOf]; omega⟩
         · rw [ints_append, List.length_append]; exact hown'
         · exact kept2 (HQ9.out.alloc _) hgrow HSP3.out
         · exact sep_grow he HSP3.out.symm (fun q e => by have := (HQ9.out.lt q e).2; simp; omega)
   · obtain rfl : k = ls.length := by omega
     go_wp2
     go_ret
     have e := HF.out
     rw [List.drop_length] at e
     have e2 : done = fillR ls noneP want := by rw [← e]; simp [fillR]
     rw [← e2]
     exact ⟨_, rfl, HOW.out, HB.out⟩
end Go.Proofs.Ytgdigcnpjkkmfaa
