/-
  The walk of FnCover (printed by gen_cvw.py). (joined by pack.py: CoverW)
-/
import Derived.Test.YtahehdgkbhjpoaaK15
import Derived.Test.YtahehdgkbhjpoaaK23
import Derived.Test.YtahehdgkbhjpoaaK5
import Derived.Test.YtahehdgkbhjpoaaK17
import Derived.Test.YtahehdgkbhjpoaaK7
import Derived.Test.YtahehdgkbhjpoaaK24
import Derived.Test.YtahehdgkbhjpoaaK14
import Derived.BigRegion
import Derived.Deep.CutRange
namespace Go.Proofs.Ytahehdgkbhjpoaa
set_option linter.unusedVariables false
set_option linter.unusedSimpArgs false
open Go.RowKit

theorem str_get {L : List UInt8} {S : ByteArray} (e : S = strB L) {k : Nat} (h : k < S.size) {x : UInt8} (hx : L[k]? = some x) : S[k]'h = x := by
  subst e
  have h2 : k < L.length := by rw [strB_size] at h; exact h
  rw [List.getElem?_eq_getElem h2] at hx
  have h3 := Option.some.inj hx
  rw [← h3]
  rfl
theorem few_apart {n : Int} {l : List St} {a : Int} (h : (fewestStationsV n l a).2 = true) : (apartNodesV n l a).2 = true := by
  unfold fewestStationsV at h
  split at h
  · rename_i hk; unfold apartNodesV; rw [if_pos hk]; rfl
  · cases h
theorem few_nat {n : Int} {l : List St} {a : Int} (h : (fewestStationsV n l a).2 = true) : ∃ m : Nat, n = (m : Int) := by
  unfold fewestStationsV at h
  split at h
  · rename_i hk
    simp only [Bool.and_eq_true] at hk
    exact nat_of (goodTown_true hk.1).1
  · cases h
theorem txt_get (d q : List Int) (a : Int) {m k : Nat} (h : k < m) : (textC d q a m)[k]? = some (letC d q a k) := by simp [textC, h]
theorem cov_snd (n : Int) (l : List St) (q : List Int) (a : Int) : (coveredNodesV n l q a).2 = askC n l q a := by
  unfold coveredNodesV; split <;> rename_i h
  · rw [h]; rfl
  · simp at h; rw [h]
theorem unc_snd (n : Int) (l : List St) (q : List Int) (a : Int) : (uncoveredNodesV n l q a).2 = askC n l q a := by
  unfold uncoveredNodesV; split <;> rename_i h
  · rw [h]; rfl
  · simp at h; rw [h]
theorem txt_snd (n : Int) (l : List St) (q : List Int) (a : Int) : (coverTextV n l q a).2 = askC n l q a := by
  unfold coverTextV; split <;> rename_i h
  · rw [h]; rfl
  · simp at h; rw [h]
set_option maxRecDepth 100000 in
set_option maxHeartbeats 4000000 in
theorem walk_FnCover (w : World) (v0 : Value) (l0 : List Int) (hr0 : Rd w v0 l0.length (bys l0)) (hw0 : BytesOk l0 ∧ l0.length ≤ 9223372036854775807) (v1 : Value) (l1 : List Int) (hr1 : Rd w v1 l1.length (bys l1)) (hw1 : BytesOk l1 ∧ l1.length ≤ 9223372036854775807) :
    Calls Try.prog 3 #[v0, v1] w fun en w' => en = .returned (.bool true) ∧ Below w.heap.size w w' := by
  obtain ⟨ho0, hn0⟩ := hw0
  obtain ⟨ho1, hn1⟩ := hw1
  have HR0 := Lib.hid hr0
  have HR1 := Lib.hid hr1
  have HO0 := Lib.hid ho0
  have HO1 := Lib.hid ho1
  have HB := Lib.hid (Below.refl w.heap.size w)
  obtain ⟨A0, c0, rfl, -⟩ := hr0
  obtain ⟨A1, c1, rfl, -⟩ := hr1
  clear ho0 ho1
  go_enter Try.func3, Try.ntmps3
  go_wp2_with fail
  refine (big_c _ _ _ _ _ _ _).mono ?_; rintro e w' ⟨rfl, hw⟩; subst hw
  cases bigB l0.length l1.length with
  | true =>
    go_wp2
    go_ret
    exact ⟨rfl, Below.refl _ _⟩
  | false =>
    go_wp2_with fail
    refine (drawCoveredNodes_c _ l0 hn0 HO0.out _ (rd_below HR0.out HB.out)).mono ?_; rintro e w1 ⟨⟨n1, s1, T1, vQ1, Q1, a1, rfl, hT1, hQ1⟩, hb⟩
    replace HB := Lib.hid (bel_then HB.out hb)
    clear hb
    have HT1 := Lib.hid hT1
    clear hT1
    have HQ1 := Lib.hid hQ1
    clear hQ1
    obtain ⟨As1, cs1, rfl, -⟩ := HT1.out
    go_upto_region 4 with fail
    generalize hW : World.alloc w1 _ = w2
    have hr0 : w2.ownsRow w1.heap.size 26 2 (.slice (some ⟨w1.heap.size, 0, none⟩) 1 1) 1 [.int .i64 n1, .slice As1 T1.length cs1] := by subst hW; exact row_new w1 [.int .i64 n1, .slice As1 T1.length cs1] _ 1 2 rfl (by omega) (by omega)
    have hb : Below w1.heap.size w1 w2 := by subst hW; exact bel_al (Below.refl _ _) _
    clear hW
    replace HB := Lib.hid (bel_then HB.out hb)
    replace HT1 := Lib.hid (rd_below HT1.out hb)
    replace HQ1 := Lib.hid (rdi_below HQ1.out hb)
    clear hb
    obtain ⟨RK1, hRK1⟩ : ∃ R, w1.heap.size = R := ⟨_, rfl⟩
    rw [hRK1] at hr0 ⊢
    clear hRK1
    have K1 := Lib.hid hr0
    clear hr0
    obtain ⟨ok, hok⟩ : ∃ b, askC n1 T1 Q1 a1 = b := ⟨_, rfl⟩
    obtain ⟨C, hC⟩ : ∃ z, (coveredNodesV n1 T1 Q1 a1).1 = z := ⟨_, rfl⟩
    have hC2 : (coveredNodesV n1 T1 Q1 a1).2 = ok := by rw [cov_snd, hok]
    obtain ⟨U, hU⟩ : ∃ z, (uncoveredNodesV n1 T1 Q1 a1).1 = z := ⟨_, rfl⟩
    have hU2 : (uncoveredNodesV n1 T1 Q1 a1).2 = ok := by rw [unc_snd, hok]
    obtain ⟨S, hS⟩ : ∃ z, (coverTextV n1 T1 Q1 a1).1 = z := ⟨_, rfl⟩
    have hS2 : (coverTextV n1 T1 Q1 a1).2 = ok := by rw [txt_snd, hok]
    have t0 := K1.out.cellAt 0 (by omega)
    have t1 := K1.out.cellAt 1 (by omega)
    dsimp only [List.getElem?_cons_zero, List.getElem?_cons_succ] at t0 t1
    go_wp2_with fail
    refine (coveredNodesI_c n1 _ T1 vQ1 Q1 a1 _ HT1.out HQ1.out).mono ?_; unfold OwnIB; rw [hC, hC2]; rintro e w3 ⟨vHCI, rfl, ho, hb⟩
    clear t0 t1
    replace HB := Lib.hid (bel_then HB.out hb)
    replace HT1 := Lib.hid (rd_below HT1.out hb)
    replace HQ1 := Lib.hid (rdi_below HQ1.out hb)
    replace K1 := Lib.hid (own_below K1.out hb)
    clear hb
    have HCI := Lib.hid (rdi_own ho)
    clear ho
    have t0 := K1.out.cellAt 0 (by omega)
    have t1 := K1.out.cellAt 1 (by omega)
    dsimp only [List.getElem?_cons_zero, List.getElem?_cons_succ] at t0 t1
    go_wp2_with fail
    refine (coveredNodesS_c n1 _ T1 vQ1 Q1 a1 _ HT1.out HQ1.out).mono ?_; unfold OwnIB; rw [hC, hC2]; rintro e w4 ⟨vHCS, rfl, ho, hb⟩
    clear t0 t1
    replace HB := Lib.hid (bel_then HB.out hb)
    replace HT1 := Lib.hid (rd_below HT1.out hb)
    replace HQ1 := Lib.hid (rdi_below HQ1.out hb)
    replace K1 := Lib.hid (own_below K1.out hb)
    replace HCI := Lib.hid (rdi_below HCI.out hb)
    clear hb
    have HCS := Lib.hid (rdi_own ho)
    clear ho
    have t0 := K1.out.cellAt 0 (by omega)
    have t1 := K1.out.cellAt 1 (by omega)
    dsimp only [List.getElem?_cons_zero, List.getElem?_cons_succ] at t0 t1
    go_wp2_with fail
    refine (uncoveredNodesI_c n1 _ T1 vQ1 Q1 a1 _ HT1.out HQ1.out).mono ?_; unfold OwnIB; rw [hU, hU2]; rintro e w5 ⟨vHUI, rfl, ho, hb⟩
    clear t0 t1
    replace HB := Lib.hid (bel_then HB.out hb)
    replace HT1 := Lib.hid (rd_below HT1.out hb)
    replace HQ1 := Lib.hid (rdi_below HQ1.out hb)
    replace K1 := Lib.hid (own_below K1.out hb)
    replace HCI := Lib.hid (rdi_below HCI.out hb)
    replace HCS := Lib.hid (rdi_below HCS.out hb)
    clear hb
    have HUI := Lib.hid (rdi_own ho)
    clear ho
    have t0 := K1.out.cellAt 0 (by omega)
    have t1 := K1.out.cellAt 1 (by omega)
    dsimp only [List.getElem?_cons_zero, List.getElem?_cons_succ] at t0 t1
    go_wp2_with fail
    refine (uncoveredNodesS_c n1 _ T1 vQ1 Q1 a1 _ HT1.out HQ1.out).mono ?_; unfold OwnIB; rw [hU, hU2]; rintro e w6 ⟨vHUS, rfl, ho, hb⟩
    clear t0 t1
    replace HB := Lib.hid (bel_then HB.out hb)
    replace HT1 := Lib.hid (rd_below HT1.out hb)
    replace HQ1 := Lib.hid (rdi_below HQ1.out hb)
    replace K1 := Lib.hid (own_below K1.out hb)
    replace HCI := Lib.hid (rdi_below HCI.out hb)
    replace HCS := Lib.hid (rdi_below HCS.out hb)
    replace HUI := Lib.hid (rdi_below HUI.out hb)
    clear hb
    have HUS := Lib.hid (rdi_own ho)
    clear ho
    have t0 := K1.out.cellAt 0 (by omega)
    have t1 := K1.out.cellAt 1 (by omega)
    dsimp only [List.getElem?_cons_zero, List.getElem?_cons_succ] at t0 t1
    go_wp2_with fail
    refine (coverTextI_c n1 _ T1 vQ1 Q1 a1 _ HT1.out HQ1.out).mono ?_; rw [hS, hS2]; rintro e w7 ⟨rfl, hb⟩
    clear t0 t1
    replace HB := Lib.hid (bel_then HB.out hb)
    replace HT1 := Lib.hid (rd_below HT1.out hb)
    replace HQ1 := Lib.hid (rdi_below HQ1.out hb)
    replace K1 := Lib.hid (own_below K1.out hb)
    replace HCI := Lib.hid (rdi_below HCI.out hb)
    replace HCS := Lib.hid (rdi_below HCS.out hb)
    replace HUI := Lib.hid (rdi_below HUI.out hb)
    replace HUS := Lib.hid (rdi_below HUS.out hb)
    clear hb
    have t0 := K1.out.cellAt 0 (by omega)
    have t1 := K1.out.cellAt 1 (by omega)
    dsimp only [List.getElem?_cons_zero, List.getElem?_cons_succ] at t0 t1
    go_wp2_with fail
    refine (coverTextS_c n1 _ T1 vQ1 Q1 a1 _ HT1.out HQ1.out).mono ?_; rw [hS, hS2]; rintro e w8 ⟨rfl, hb⟩
    clear t0 t1
    replace HB := Lib.hid (bel_then HB.out hb)
    replace HT1 := Lib.hid (rd_below HT1.out hb)
    replace HQ1 := Lib.hid (rdi_below HQ1.out hb)
    replace K1 := Lib.hid (own_below K1.out hb)
    replace HCI := Lib.hid (rdi_below HCI.out hb)
    replace HCS := Lib.hid (rdi_below HCS.out hb)
    replace HUI := Lib.hid (rdi_below HUI.out hb)
    replace HUS := Lib.hid (rdi_below HUS.out hb)
    clear hb
    have HC := Lib.hid hC
    have HU := Lib.hid hU
    have HTX := Lib.hid hS
    have HOK := Lib.hid hok
    clear hC hU hS hC2 hU2 hS2 hok
    have n1x : ∀ b : Bool, (b != b) = false := by simp
    have n2 := n1x ok
    clear n1x
    obtain ⟨wN, rfl⟩ : ∃ x : World, x = w8 := ⟨_, rfl⟩
    go_upto_region 10 with fail
    go_cut [134] from 86 to 134 (fun v wx => v = .bool false ∧ Below wN.heap.size wN wx)
    case first =>
      have HZ := Lib.hid (Below.refl wN.heap.size wN)
      go_wp2_with fail
      refine (sameInts_c _ _ C C _ HCI.out HCS.out).mono ?_; rw [decide_eq_true rfl]; rintro e w9 ⟨rfl, hb⟩
      replace HZ := Lib.hid (bel_then HZ.out hb)
      replace HB := Lib.hid (bel_then HB.out hb)
      replace HT1 := Lib.hid (rd_below HT1.out hb)
      replace HQ1 := Lib.hid (rdi_below HQ1.out hb)
      replace K1 := Lib.hid (own_below K1.out hb)
      replace HCI := Lib.hid (rdi_below HCI.out hb)
      replace HCS := Lib.hid (rdi_below HCS.out hb)
      replace HUI := Lib.hid (rdi_below HUI.out hb)
      replace HUS := Lib.hid (rdi_below HUS.out hb)
      clear hb
      go_wp2_with fail
      refine (sameInts_c _ _ U U _ HUI.out HUS.out).mono ?_; rw [decide_eq_true rfl]; rintro e w10 ⟨rfl, hb⟩
      replace HZ := Lib.hid (bel_then HZ.out hb)
      replace HB := Lib.hid (bel_then HB.out hb)
      replace HT1 := Lib.hid (rd_below HT1.out hb)
      replace HQ1 := Lib.hid (rdi_below HQ1.out hb)
      replace K1 := Lib.hid (own_below K1.out hb)
      replace HCI := Lib.hid (rdi_below HCI.out hb)
      replace HCS := Lib.hid (rdi_below HCS.out hb)
      replace HUI := Lib.hid (rdi_below HUI.out hb)
      replace HUS := Lib.hid (rdi_below HUS.out hb)
      clear hb
      cases ok with
      | false => go_wp2_with fail; go_meet; exact ⟨rfl, HZ.out⟩
      | true =>
        have hst := (askC_true HOK.out).1
        have t0 := K1.out.cellAt 0 (by omega)
        have t1 := K1.out.cellAt 1 (by omega)
        dsimp only [List.getElem?_cons_zero, List.getElem?_cons_succ] at t0 t1
        go_wp2_with fail
        refine (areStaI_c n1 _ _ T1 Q1 _ HT1.out HQ1.out).mono ?_; rw [hst]; rintro e w11 ⟨rfl, hb⟩
        clear t0 t1
        replace HZ := Lib.hid (bel_then HZ.out hb)
        replace HB := Lib.hid (bel_then HB.out hb)
        replace HT1 := Lib.hid (rd_below HT1.out hb)
        replace HQ1 := Lib.hid (rdi_below HQ1.out hb)
        replace K1 := Lib.hid (own_below K1.out hb)
        replace HCI := Lib.hid (rdi_below HCI.out hb)
        replace HCS := Lib.hid (rdi_below HCS.out hb)
        replace HUI := Lib.hid (rdi_below HUI.out hb)
        replace HUS := Lib.hid (rdi_below HUS.out hb)
        clear hb
        go_wp2_with fail
        go_meet
        exact ⟨rfl, HZ.out⟩
    case rest => as_aux_lemma =>
      obtain ⟨rfl, hb⟩ := hcut
      clear HCI HUI n2
      replace HB := Lib.hid (bel_then HB.out hb)
      replace HT1 := Lib.hid (rd_below HT1.out hb)
      replace HQ1 := Lib.hid (rdi_below HQ1.out hb)
      replace K1 := Lib.hid (own_below K1.out hb)
      replace HCS := Lib.hid (rdi_below HCS.out hb)
      replace HUS := Lib.hid (rdi_below HUS.out hb)
      clear hb
      obtain ⟨wY, rfl⟩ : ∃ x : World, x = wc := ⟨_, rfl⟩
      go_upto_if 135 with fail
      go_cut [173] from 20 to 173 (fun v wx => Below wY.heap.size wY wx)
      case first =>
        cases ok with
        | false => go_wp2_with fail; go_meet; exact Below.refl _ _
        | true =>
          obtain ⟨hst, hla, hgt, hqb, hq6⟩ := askC_true HOK.out
          obtain ⟨hn1, hn2, -, -⟩ := goodTown_true hgt
          obtain ⟨m, rfl⟩ := nat_of (show 1 ≤ n1 from hn1)
          have ha0 := (inB_true hla).1
          have hC : C = covIdx (coverL m (arcs T1) Q1) a1 true m := by rw [← HC.out]; unfold coveredNodesV; rw [if_pos HOK.out]; rfl
          have hU : U = covIdx (coverL m (arcs T1) Q1) a1 false m := by rw [← HU.out]; unfold uncoveredNodesV; rw [if_pos HOK.out]; rfl
          have hS : S = strB (textC (coverL m (arcs T1) Q1) Q1 a1 m) := by rw [← HTX.out]; unfold coverTextV; rw [if_pos HOK.out]; rfl
          have hsum := cov_sum (coverL m (arcs T1) Q1) a1 m
          rw [← hC, ← hU] at hsum
          have e1 : (((C.length : Int) + (U.length : Int)) != (m : Int)) = false := by rw [show (C.length : Int) + (U.length : Int) = (m : Int) by omega]; simp
          have hSz : S.size = m := by rw [hS, strB_size, textC_len]
          have e2 : (((S.size : Nat) : Int) != (m : Int)) = false := by rw [hSz]; simp
          have hc14 : C.length ≤ 14 := by omega
          have hu14 : U.length ≤ 14 := by omega
          have HSZ := Lib.hid hSz
          have HCM : Hid (∀ k : Nat, k < m → decide ((k : Int) ∈ C) = !decide ((k : Int) ∈ U)) := Lib.hid (fun k hk => by
            rw [hC, hU]
            cases hq : Q1.any fun s => reachP m (arcs T1) a1 s.toNat k with
            | true =>
              rw [decide_eq_true (cov_true.2 ⟨hk, hq⟩), decide_eq_false (fun h => by have := (cov_false.1 h).2; rw [hq] at this; cases this)]; rfl
            | false =>
              rw [decide_eq_true (cov_false.2 ⟨hk, hq⟩), decide_eq_false (fun h => by have := (cov_true.1 h).2; rw [hq] at this; cases this)]; rfl)
          have HLT : Hid (∀ k : Nat, k < m → (letC (coverL m (arcs T1) Q1) Q1 a1 k = 45 ↔ (k : Int) ∈ U)) := Lib.hid (fun k hk => by rw [hU]; exact let_open hgt ha0 hqb hk)
          have HSS := Lib.hid hS
          obtain ⟨Ac, cc, rfl, _, _, -⟩ := HCS.out
          obtain ⟨Au, cu, rfl, _, _, -⟩ := HUS.out
          clear hsum hSz hC hU hS hqb hla hst hgt
          have t0 := K1.out.cellAt 0 (by omega)
          have t1 := K1.out.cellAt 1 (by omega)
          dsimp only [List.getElem?_cons_zero, List.getElem?_cons_succ] at t0 t1
          go_upto_region 15 with fail
          clear t0 t1 e1 e2
          go_wp2_with fail
          go_loopw [20] (fun vi wr => ∃ k : Nat, k ≤ m ∧ vi = .int .i64 k ∧ Hid (Below wY.heap.size wY wr)) (fun vi _ => m - (intOf vi).toNat)
          case atStart => exact ⟨0, Nat.zero_le _, rfl, Lib.hid (Below.refl _ _)⟩
          case round =>
            obtain ⟨k, hk, rfl, HBL⟩ := hrel
            obtain ⟨wA, rfl⟩ : ∃ wA : World, wA = wr := ⟨_, rfl⟩
            have KA := Lib.hid (own_below K1.out HBL.out)
            have t0 := KA.out.cellAt 0 (by omega)
            dsimp only [List.getElem?_cons_zero, List.getElem?_cons_succ] at t0
            have i0 : (0 : Int) ≤ (k : Int) := by omega
            by_cases hlt : k < m
            · have i1 : (k : Int) < (m : Int) := by omega
              have i2 : (k : Int) < ((S.size : Nat) : Int) := by have := HSZ.out; omega
              have i3 : k < S.size := by omega
              have HCA := Lib.hid (rdi_below HCS.out HBL.out)
              have HUA := Lib.hid (rdi_below HUS.out HBL.out)
              have h1 := HCM.out k hlt
              have h2 := HLT.out k hlt
              by_cases hm : (k : Int) ∈ U
              · have hq1 := decide_eq_true hm
                have hq2 : decide ((k : Int) ∈ C) = false := by rw [h1, hq1]; rfl
                have hb45 := h2.2 hm
                have HQ1 := Lib.hid hq1
                have HQ2 := Lib.hid hq2
                have e3 : (((S[k]'i3).toNat : Int) == 45) = true := by rw [str_get HSS.out i3 (txt_get _ _ _ hlt), hb45]; rfl
                have HB45 := Lib.hid hb45
                clear hq1 hq2 h1 h2 hm hb45
                go_wp2_with fail
                go_region_held3 (fun W' => Below wA.heap.size wA W') (first | assumption | exact bel_then ‹_› hb7 | exact bel_then ‹_› hb6 | exact bel_then ‹_› hb5 | exact bel_dr (Below.refl _ _)) (first | (have _q := hb6; go_at_call 16; refine (pIn_c _ U (k : Int) _ (rdi_below HUA.out ‹Below wA.heap.size wA _›)).mono ?_; rw [HQ1.out]; rintro e w7 ⟨rfl, hb7⟩) | (have _q := hb5; go_at_call 16; refine (pIn_c _ U (k : Int) _ (rdi_below HUA.out ‹Below wA.heap.size wA _›)).mono ?_; rw [HQ1.out]; rintro e w6 ⟨rfl, hb6⟩) | (go_at_call 16; refine (pIn_c _ C (k : Int) _ (rdi_below HCA.out ‹Below wA.heap.size wA _›)).mono ?_; rw [HQ2.out]; rintro e w5 ⟨rfl, hb5⟩))
                all_goals
                  go_wp2
                  exact ⟨⟨k + 1, by omega, by go_num, Lib.hid (bel_then HBL.out (bel_then (bel_then (bel_then (bel_dr (Below.refl _ _)) hb5) hb6) hb7))⟩, by simp [intOf]; omega⟩
              · have hq1 := decide_eq_false hm
                have hq2 : decide ((k : Int) ∈ C) = true := by rw [h1, hq1]; rfl
                have hb45 := fun h => hm (h2.1 h)
                have HQ1 := Lib.hid hq1
                have HQ2 := Lib.hid hq2
                have e3 : (((S[k]'i3).toNat : Int) == 45) = false := by
                  rw [str_get HSS.out i3 (txt_get _ _ _ hlt)]
                  exact beq_false_of_ne (fun e => hb45 (UInt8.toNat_inj.1 (by have : (45 : UInt8).toNat = 45 := rfl; omega)))
                have HB45 := Lib.hid hb45
                clear hq1 hq2 h1 h2 hm hb45
                go_wp2_with fail
                go_region_held3 (fun W' => Below wA.heap.size wA W') (first | assumption | exact bel_then ‹_› hb7 | exact bel_then ‹_› hb6 | exact bel_then ‹_› hb5 | exact bel_dr (Below.refl _ _)) (first | (have _q := hb6; go_at_call 16; refine (pIn_c _ U (k : Int) _ (rdi_below HUA.out ‹Below wA.heap.size wA _›)).mono ?_; rw [HQ1.out]; rintro e w7 ⟨rfl, hb7⟩) | (have _q := hb5; go_at_call 16; refine (pIn_c _ U (k : Int) _ (rdi_below HUA.out ‹Below wA.heap.size wA _›)).mono ?_; rw [HQ1.out]; rintro e w6 ⟨rfl, hb6⟩) | (go_at_call 16; refine (pIn_c _ C (k : Int) _ (rdi_below HCA.out ‹Below wA.heap.size wA _›)).mono ?_; rw [HQ2.out]; rintro e w5 ⟨rfl, hb5⟩))
                all_goals
                  go_wp2
                  exact ⟨⟨k + 1, by omega, by go_num, Lib.hid (bel_then HBL.out (bel_then (bel_then (bel_then (bel_dr (Below.refl _ _)) hb5) hb6) hb7))⟩, by simp [intOf]; omega⟩
            · obtain rfl : k = m := by omega
              go_wp2_with fail
              go_meet
              exact HBL.out
      case rest => as_aux_lemma =>
        have hb := hcut
        clear hcut HOK HC HU HTX HT1 HQ1 K1 HCS HUS
        replace HB := Lib.hid (bel_then HB.out hb)
        clear hb
        go_wp2_with fail
        refine (drawFewestStations_c _ l1 hn1 HO1.out _ (rd_below HR1.out HB.out)).mono ?_; rintro e w1 ⟨⟨n2, s2, T2, a2, rfl, hT2⟩, hb⟩
        replace HB := Lib.hid (bel_then HB.out hb)
        clear hb
        have HT2 := Lib.hid hT2
        clear hT2
        obtain ⟨As2, cs2, rfl, -⟩ := HT2.out
        go_upto_region 21 with fail
        generalize hW : World.alloc w1 _ = w2
        have hr0 : w2.ownsRow w1.heap.size 26 2 (.slice (some ⟨w1.heap.size, 0, none⟩) 1 1) 1 [.int .i64 n2, .slice As2 T2.length cs2] := by subst hW; exact row_new w1 [.int .i64 n2, .slice As2 T2.length cs2] _ 1 2 rfl (by omega) (by omega)
        have hb : Below w1.heap.size w1 w2 := by subst hW; exact bel_al (Below.refl _ _) _
        clear hW
        replace HB := Lib.hid (bel_then HB.out hb)
        replace HT2 := Lib.hid (rd_below HT2.out hb)
        clear hb
        obtain ⟨RK2, hRK2⟩ : ∃ R, w1.heap.size = R := ⟨_, rfl⟩
        rw [hRK2] at hr0 ⊢
        clear hRK2
        have K2 := Lib.hid hr0
        clear hr0
        obtain ⟨F, hF⟩ : ∃ z, (fewestStationsV n2 T2 a2).1 = z := ⟨_, rfl⟩
        obtain ⟨f2, hF2⟩ : ∃ z, (fewestStationsV n2 T2 a2).2 = z := ⟨_, rfl⟩
        obtain ⟨P, hP⟩ : ∃ z, (apartNodesV n2 T2 a2).1 = z := ⟨_, rfl⟩
        obtain ⟨p2, hP2⟩ : ∃ z, (apartNodesV n2 T2 a2).2 = z := ⟨_, rfl⟩
        have t0 := K2.out.cellAt 0 (by omega)
        have t1 := K2.out.cellAt 1 (by omega)
        dsimp only [List.getElem?_cons_zero, List.getElem?_cons_succ] at t0 t1
        go_wp2_with fail
        refine (fewestStationsI_c n2 _ T2 a2 _ HT2.out).mono ?_; unfold OwnIB; rw [hF, hF2]; rintro e w3 ⟨vHFI, rfl, ho, hb⟩
        clear t0 t1
        replace HB := Lib.hid (bel_then HB.out hb)
        replace HT2 := Lib.hid (rd_below HT2.out hb)
        replace K2 := Lib.hid (own_below K2.out hb)
        clear hb
        have HFI := Lib.hid (rdi_own ho)
        clear ho
        have t0 := K2.out.cellAt 0 (by omega)
        have t1 := K2.out.cellAt 1 (by omega)
        dsimp only [List.getElem?_cons_zero, List.getElem?_cons_succ] at t0 t1
        go_wp2_with fail
        refine (fewestStationsS_c n2 _ T2 a2 _ HT2.out).mono ?_; unfold OwnIB; rw [hF, hF2]; rintro e w4 ⟨vHFS, rfl, ho, hb⟩
        clear t0 t1
        replace HB := Lib.hid (bel_then HB.out hb)
        replace HT2 := Lib.hid (rd_below HT2.out hb)
        replace K2 := Lib.hid (own_below K2.out hb)
        replace HFI := Lib.hid (rdi_below HFI.out hb)
        clear hb
        have HFS := Lib.hid (rdi_own ho)
        clear ho
        have t0 := K2.out.cellAt 0 (by omega)
        have t1 := K2.out.cellAt 1 (by omega)
        dsimp only [List.getElem?_cons_zero, List.getElem?_cons_succ] at t0 t1
        go_wp2_with fail
        refine (apartNodesI_c n2 _ T2 a2 _ HT2.out).mono ?_; unfold OwnIB; rw [hP, hP2]; rintro e w5 ⟨vHPI, rfl, ho, hb⟩
        clear t0 t1
        replace HB := Lib.hid (bel_then HB.out hb)
        replace HT2 := Lib.hid (rd_below HT2.out hb)
        replace K2 := Lib.hid (own_below K2.out hb)
        replace HFI := Lib.hid (rdi_below HFI.out hb)
        replace HFS := Lib.hid (rdi_below HFS.out hb)
        clear hb
        have HPI := Lib.hid (rdi_own ho)
        clear ho
        have t0 := K2.out.cellAt 0 (by omega)
        have t1 := K2.out.cellAt 1 (by omega)
        dsimp only [List.getElem?_cons_zero, List.getElem?_cons_succ] at t0 t1
        go_wp2_with fail
        refine (apartNodesS_c n2 _ T2 a2 _ HT2.out).mono ?_; unfold OwnIB; rw [hP, hP2]; rintro e w6 ⟨vHPS, rfl, ho, hb⟩
        clear t0 t1
        replace HB := Lib.hid (bel_then HB.out hb)
        replace HT2 := Lib.hid (rd_below HT2.out hb)
        replace K2 := Lib.hid (own_below K2.out hb)
        replace HFI := Lib.hid (rdi_below HFI.out hb)
        replace HFS := Lib.hid (rdi_below HFS.out hb)
        replace HPI := Lib.hid (rdi_below HPI.out hb)
        clear hb
        have HPS := Lib.hid (rdi_own ho)
        clear ho
        have HF := Lib.hid hF
        have HF2 := Lib.hid hF2
        have HP := Lib.hid hP
        have HP2 := Lib.hid hP2
        clear hF hF2 hP hP2
        have n1x : ∀ b : Bool, (b != b) = false := by simp
        have n2x := n1x f2
        have n3x := n1x p2
        clear n1x
        obtain ⟨wN, rfl⟩ : ∃ x : World, x = w6 := ⟨_, rfl⟩
        go_upto_region 25 with fail
        go_cut [229] from 203 to 229 (fun v wx => v = .bool false ∧ Below wN.heap.size wN wx)
        case first =>
          have HZ := Lib.hid (Below.refl wN.heap.size wN)
          go_wp2_with fail
          refine (sameInts_c _ _ F F _ HFI.out HFS.out).mono ?_; rw [decide_eq_true rfl]; rintro e w7 ⟨rfl, hb⟩
          replace HZ := Lib.hid (bel_then HZ.out hb)
          replace HB := Lib.hid (bel_then HB.out hb)
          replace HT2 := Lib.hid (rd_below HT2.out hb)
          replace K2 := Lib.hid (own_below K2.out hb)
          replace HFI := Lib.hid (rdi_below HFI.out hb)
          replace HFS := Lib.hid (rdi_below HFS.out hb)
          replace HPI := Lib.hid (rdi_below HPI.out hb)
          replace HPS := Lib.hid (rdi_below HPS.out hb)
          clear hb
          go_wp2_with fail
          refine (sameInts_c _ _ P P _ HPI.out HPS.out).mono ?_; rw [decide_eq_true rfl]; rintro e w8 ⟨rfl, hb⟩
          replace HZ := Lib.hid (bel_then HZ.out hb)
          replace HB := Lib.hid (bel_then HB.out hb)
          replace HT2 := Lib.hid (rd_below HT2.out hb)
          replace K2 := Lib.hid (own_below K2.out hb)
          replace HFI := Lib.hid (rdi_below HFI.out hb)
          replace HFS := Lib.hid (rdi_below HFS.out hb)
          replace HPI := Lib.hid (rdi_below HPI.out hb)
          replace HPS := Lib.hid (rdi_below HPS.out hb)
          clear hb
          cases f2 with
          | false => go_wp2_with fail; go_meet; exact ⟨rfl, HZ.out⟩
          | true =>
            obtain rfl : p2 = true := by rw [← HP2.out]; exact few_apart HF2.out
            go_wp2_with fail
            go_meet
            exact ⟨rfl, HZ.out⟩
        case rest => as_aux_lemma =>
          obtain ⟨rfl, hb⟩ := hcut
          clear HPI n2x n3x
          replace HB := Lib.hid (bel_then HB.out hb)
          replace HT2 := Lib.hid (rd_below HT2.out hb)
          replace K2 := Lib.hid (own_below K2.out hb)
          replace HFI := Lib.hid (rdi_below HFI.out hb)
          replace HFS := Lib.hid (rdi_below HFS.out hb)
          replace HPS := Lib.hid (rdi_below HPS.out hb)
          clear hb
          obtain ⟨wV, rfl⟩ : ∃ x : World, x = wc := ⟨_, rfl⟩
          cases f2 with
          | false =>
            go_wp2
            go_ret
            exact ⟨rfl, HB.out⟩
          | true =>
            obtain ⟨m, rfl⟩ := few_nat HF2.out
            obtain ⟨hgt, hla, hask, hcov, hlen, h6, hneed⟩ := fewest_is (Prod.ext HF.out HF2.out : fewestStationsV m T2 a2 = (F, true))
            have hP : P = apartL m (arcs T2) a2 m := by rw [← HP.out]; unfold apartNodesV; rw [hgt, hla]; rfl
            rw [← hP] at hlen
            have hU1 : (uncoveredNodesV m T2 F a2).1 = [] := by unfold uncoveredNodesV; rw [if_pos hask]; exact hcov
            have hU2 : (uncoveredNodesV m T2 F a2).2 = true := by rw [unc_snd, hask]
            obtain ⟨N, hN⟩ : ∃ z, (neededStationsV m T2 F a2).1 = z := ⟨_, rfl⟩
            have hN2 : (neededStationsV m T2 F a2).2 = true := by unfold neededStationsV; rw [if_pos hask]; rfl
            have hNl : N.length = F.length := by rw [← hN]; unfold neededStationsV; rw [if_pos hask]; exact hneed
            have e1 : (P.length : Int) ≤ (F.length : Int) := by omega
            have e2 : (F.length : Int) ≤ 6 := by omega
            have e3 : ((N.length : Int) != (F.length : Int)) = false := by rw [hNl]; simp
            have HU1 := Lib.hid hU1
            have HU2 := Lib.hid hU2
            have HN := Lib.hid hN
            have HN2 := Lib.hid hN2
            clear hP hcov hneed hask hU1 hU2 hN hN2 hNl hgt hla
            have t0 := K2.out.cellAt 0 (by omega)
            have t1 := K2.out.cellAt 1 (by omega)
            dsimp only [List.getElem?_cons_zero, List.getElem?_cons_succ] at t0 t1
            go_wp2_with fail
            refine (uncoveredNodesI_c m _ T2 _ F a2 _ HT2.out HFI.out).mono ?_; unfold OwnIB; rw [HU1.out, HU2.out]; rintro e w7 ⟨vHL, rfl, ho, hb⟩
            clear t0 t1
            replace HB := Lib.hid (bel_then HB.out hb)
            replace HT2 := Lib.hid (rd_below HT2.out hb)
            replace K2 := Lib.hid (own_below K2.out hb)
            replace HFI := Lib.hid (rdi_below HFI.out hb)
            replace HFS := Lib.hid (rdi_below HFS.out hb)
            replace HPS := Lib.hid (rdi_below HPS.out hb)
            clear hb
            have HL := Lib.hid (rdi_own ho)
            clear ho
            obtain ⟨Al, cl, rfl, -, -, -⟩ := HL.out
            obtain ⟨Af, cf, rfl, -, -, -⟩ := HFS.out
            obtain ⟨Ap, cp, rfl, -, -, -⟩ := HPS.out
            have t0 := K2.out.cellAt 0 (by omega)
            have t1 := K2.out.cellAt 1 (by omega)
            dsimp only [List.getElem?_cons_zero, List.getElem?_cons_succ] at t0 t1
            go_wp2_with fail
            refine (neededStationsI_c m _ T2 _ F a2 _ HT2.out HFI.out).mono ?_; unfold OwnIB; rw [HN.out, HN2.out]; rintro e w8 ⟨vHM, rfl, ho, hb⟩
            clear t0 t1
            replace HB := Lib.hid (bel_then HB.out hb)
            replace HT2 := Lib.hid (rd_below HT2.out hb)
            replace K2 := Lib.hid (own_below K2.out hb)
            replace HFI := Lib.hid (rdi_below HFI.out hb)
            replace HFS := Lib.hid (rdi_below HFS.out hb)
            replace HPS := Lib.hid (rdi_below HPS.out hb)
            replace HL := Lib.hid (rdi_below HL.out hb)
            clear hb
            have HM := Lib.hid (rdi_own ho)
            clear ho
            obtain ⟨Am, cm, rfl, -, -, -⟩ := HM.out
            go_wp2
            go_ret
            exact ⟨rfl, HB.out⟩
end Go.Proofs.Ytahehdgkbhjpoaa
