/-
  slices.SortStableFunc on a row of ints of the call's own, at 20 elements or fewer: by a comparison that only reads. A need: four numbers of 0..6 (printed by gen_pick.py). (joined by pack.py: Sort Need)
-/
import Derived.Test.YthgegghdkoeofaaGreatDoorK3
import Derived.Test.YthgegghdkoeofaaGreatDoorK2
import Derived.Deep.LoopGhost
import Derived.BigRegion
import Derived.Sort.WalkA
import Derived.Shelf.Abstract
import Derived.Test.YthgegghdkoeofaaGreatDoorK0
namespace Go.Proofs.YthgegghdkoeofaaGreatDoor
set_option linter.unusedVariables false
set_option linter.unusedSimpArgs false
open Go.RowKit

theorem only_drewN {a w : World} {row : Option Nat} (h : a.grownBy w row) (n : Nat) : a.grownBy (w.drewN n) row := ⟨h.os, h.tape, h.output, h.size, h.block⟩
theorem only_drew {a w : World} {row : Option Nat} (h : a.grownBy w row) : a.grownBy w.drew row := ⟨h.os, h.tape, h.output, h.size, h.block⟩
theorem ints_set (l : List Int) (k : Nat) (u : Int) : (ints l).set k (.int .i64 u) = ints (l.set k u) := by simp [ints, List.map_set]
theorem own_drewN {w : World} {base : Nat} {e : TypeId} {sz : Nat} {v : Value} {n : Nat} {xs : List Value} (h : w.ownsRow base e sz v n xs) (k : Nat) : (w.drewN k).ownsRow base e sz v n xs := h

/-- What is asked of the comparison, function G bound to caps: whatever the row g holds, it hands back cf x y for numbers of which p holds, and only reads. -/
def CmpOk (G : Nat) (caps : Array Value) (cf : Int → Int → Int) (p : Int → Prop) (g : Nat) (w : World) : Prop :=
  ∀ (W : World) (x y : Int), w.grownBy W (some g) → p x → p y → Calls Tryz.prog G (#[.int .i64 x, .int .i64 y] ++ caps) W fun e W' => e = .returned (.int .i64 (cf x y)) ∧ ∃ q, W' = W.drewN q
def gtOf (cf : Int → Int → Int) (y x : Int) : Bool := decide (cf x y < 0)

set_option maxRecDepth 1000000 in
set_option maxHeartbeats 4000000 in
theorem insSort_c (cf : Int → Int → Int) (p : Int → Prop) (G : Nat) (caps : Array Value) (g cap base n : Nat) (d : List Int) (w : World)
    (eg : ∀ args w, (callFunc G args).run Tryz.prog w = .ok (.enter G args) w) (hcmp : CmpOk G caps cf p g w) (hp : ∀ x ∈ d, p x)
    (ho : w.ownsRow base 3 1 (.slice (some ⟨g, 0, none⟩) n cap) n (ints d)) (hn : n ≤ 1000000) :
    Calls Tryz.prog 192 #[.slice (some ⟨g, 0, none⟩) n cap, .int .i64 0, .int .i64 n, .func (.func G) #[] caps] w fun e w' =>
      e = .returned (.tuple #[]) ∧ w'.ownsRow base 3 1 (.slice (some ⟨g, 0, none⟩) n cap) n (ints (isort (gtOf cf) d)) ∧ w.grownBy w' (some g) := by
  have hlen : d.length = n := by have := ho.1; rw [ints_len] at this; omega
  have HC : Aside (CmpOk G caps cf p g w) := hcmp
  have HO := Lib.hid ho
  have HP := Lib.hid hp
  have HL := Lib.hid hlen
  clear hcmp ho hp hlen
  go_enter Tryz.func192, Tryz.ntmps192
  go_wp2
  go_loopg [8] n (fun g1 vi wr => ∃ i : Nat, vi = .int .i64 i ∧ 1 ≤ i ∧ i ≤ n + 1 ∧ n + 1 - i ≤ g1 + 1 ∧ wr.ownsRow base 3 1 (.slice (some ⟨g, 0, none⟩) n cap) n (ints (isort (gtOf cf) (d.take i) ++ d.drop i)) ∧ w.grownBy wr (some g))
  case atStart => exact ⟨1, by go_num, by omega, by omega, by omega, by rw [isort_one]; exact HO.out, World.grownBy.refl _ _⟩
  case round =>
    obtain ⟨i, rfl, hi1, hi2, hg1, hown, hgr⟩ := hrel
    have HW := Lib.hid hown
    have HG := Lib.hid hgr
    clear hown hgr
    by_cases hlt : i < n
    · have hltz : (i : Int) < (n : Int) := by omega
      obtain ⟨x, hx⟩ : ∃ x, d[i]? = some x := ⟨_, List.getElem?_eq_getElem (by have := HL.out; omega)⟩
      have HX := Lib.hid hx
      obtain ⟨pp, hpp⟩ : ∃ pp, isort (gtOf cf) (d.take i) = pp := ⟨_, rfl⟩
      have hplen : pp.length = i := by rw [← hpp, isort_length, List.length_take]; have := HL.out; omega
      have HPL := Lib.hid hplen
      have HPM : Hid (∀ y ∈ pp, p y) := Lib.hid (fun y hy => HP.out y (List.mem_of_mem_take ((isort_perm (gtOf cf) (d.take i)).mem_iff.1 (by rw [hpp]; exact hy))))
      have HPX : Hid (p x) := Lib.hid (HP.out x (List.mem_of_getElem? hx))
      have HPP := Lib.hid hpp
      clear hx hpp hplen
      go_wp2
      go_loopg [9] i (fun g2 vj wr2 => ∃ j : Nat, vj = .int .i64 j ∧ j ≤ i ∧ j ≤ g2 ∧ wr2.ownsRow base 3 1 (.slice (some ⟨g, 0, none⟩) n cap) n (ints (insAt x pp j ++ d.drop (i + 1))) ∧ w.grownBy wr2 (some g) ∧ Hid (insR (gtOf cf) pp x = insFrom (gtOf cf) x pp j))
      case atStart =>
        refine ⟨i, rfl, Nat.le_refl _, Nat.le_refl _, ?_, HG.out, Lib.hid (by unfold insR; rw [HPL.out])⟩
        have h1 := HW.out
        have hd : d.drop i = x :: d.drop (i + 1) := by
          have hi' : i < d.length := by have := HL.out; omega
          rw [List.drop_eq_getElem_cons hi']
          have h2 := HX.out
          rw [List.getElem?_eq_getElem hi'] at h2
          rw [Option.some.inj h2]
        rw [HPP.out, hd] at h1
        have e : insAt x pp i ++ d.drop (i + 1) = pp ++ x :: d.drop (i + 1) := by
          unfold insAt
          rw [List.take_of_length_le (by have := HPL.out; omega), List.drop_of_length_le (by have := HPL.out; omega)]; simp
        rw [e]; exact h1
      case round =>
        obtain ⟨j, rfl, hji, hg2, hown, hgr, HI⟩ := hrel
        have hout : (j = 0 ∨ gtOf cf (pp.getD (j - 1) 0) x = false) → isort (gtOf cf) (d.take (i + 1)) ++ d.drop (i + 1) = insAt x pp j ++ d.drop (i + 1) := fun hs => by
          rw [List.take_add_one, HX.out, Option.toList_some, isort_snoc, HPP.out, HI.out, insFrom_stop hs]
        have OUT : Aside _ := hout
        have HO2 := Lib.hid hown
        have HG2 := Lib.hid hgr
        clear hout hown hgr
        by_cases hja : 0 < j
        · obtain ⟨jp, rfl⟩ : ∃ jp, j = jp + 1 := ⟨j - 1, by omega⟩
          have hjaz : (0 : Int) < (jp : Int) + 1 := by omega
          have hll : (insAt x pp (jp + 1) ++ d.drop (i + 1)).length = n := by rw [List.length_append, insAt_len, HPL.out, List.length_drop, HL.out]; omega
          have lx : (insAt x pp (jp + 1) ++ d.drop (i + 1))[jp + 1]? = some x := by
            rw [List.getElem?_append_left (by rw [insAt_len, HPL.out]; omega)]
            exact insAt_get_self (by rw [HPL.out]; omega)
          have lp : (insAt x pp (jp + 1) ++ d.drop (i + 1))[jp]? = some (pp.getD jp 0) := by
            rw [List.getElem?_append_left (by rw [insAt_len, HPL.out]; omega)]
            exact insAt_get_left (by rw [HPL.out]; omega)
          have hpm : p (pp.getD jp 0) := HPM.out _ (by
            have hj' : jp < pp.length := by rw [HPL.out]; omega
            have : pp.getD jp 0 = pp[jp] := by simp [List.getD, hj']
            rw [this]; exact List.getElem_mem _)
          obtain ⟨xp, hxp⟩ : ∃ xp, pp.getD jp 0 = xp := ⟨_, rfl⟩
          rw [hxp] at lp hpm
          have cj := (HO2.out.cellAt (jp + 1) (by omega)).trans (ints_get lx)
          have cp := (HO2.out.cellAt jp (by omega)).trans (ints_get lp)
          have fj := HO2.out.frozenAt (jp + 1)
          have fp := HO2.out.frozenAt jp
          have hc : Aside (∀ q, Calls Tryz.prog G (#[.int .i64 x, .int .i64 xp] ++ caps) (wr.drewN q) fun e W' => e = .returned (.int .i64 (cf x xp)) ∧ ∃ r, W' = (wr.drewN q).drewN r) :=
            fun q => HC (wr.drewN q) x xp (only_drewN HG2.out q) HPX.out hpm
          have HXP := Lib.hid hxp
          clear hll lx lp hpm hxp
          have jz : (jp : Int) + 1 < (n : Int) := by omega
          have jz1 : (jp : Int) < (n : Int) := by omega
          have p0 : (0 : Int) ≤ (jp : Int) + 1 := by omega
          have e0 : ((jp : Int) + 1).toNat = jp + 1 := by omega
          have hwp : IntKind.i64.wrap (jp : Int) = (jp : Int) := by rw [IntKind.wrap_i64]; omega
          by_cases hlv : cf x xp < 0
          · go_wp2_with fail
            go_quiet ((go_at_fn G; refine Calls.quiet_of (hc _)))
            go_wp2_with fail
            have ho3 : (wr.drewN nq).ownsRow base 3 1 (.slice (some ⟨g, 0, none⟩) n cap) n (ints (insAt x pp (jp + 1) ++ d.drop (i + 1))) := own_drewN HO2.out nq
            have hg3 : w.grownBy (wr.drewN nq) (some g) := only_drewN HG2.out nq
            have cj2 : (wr.drewN nq).cell? ⟨g, jp + 1, none⟩ = some (.int .i64 x) := cj
            have cp2 : (wr.drewN nq).cell? ⟨g, jp, none⟩ = some (.int .i64 xp) := cp
            have fj2 : (wr.drewN nq).frozen? ⟨g, jp + 1, none⟩ = false := fj
            have fp2 : (wr.drewN nq).frozen? ⟨g, jp, none⟩ = false := fp
            have HO3 := Lib.hid ho3
            have HG3 := Lib.hid hg3
            clear cj cp fj fp hc ho3 hg3
            generalize wr.drewN nq = wq2 at HO3 HG3 cj2 cp2 fj2 fp2 ⊢
            obtain ⟨j1, hj1⟩ : ∃ j1, j1 = jp + 1 := ⟨_, rfl⟩
            rw [← hj1] at cj2 fj2 e0
            have J1 : Hid (j1 = jp + 1) := hj1
            clear hj1
            go_region
            all_goals go_wp2
            go_roundg jp
            case measure => omega
            case rel =>
              refine ⟨jp, by first | rfl | go_num | (congr 1; omega), by omega, Nat.le_refl _, ?_, ?_, (show Hid _ from ?_)⟩
              · have h2 := (((HO3.out.stored j1 (.int .i64 xp)).1.stored jp (.int .i64 x)).1)
                have e : ((ints (insAt x pp (jp + 1) ++ d.drop (i + 1))).set j1 (.int .i64 xp)).set jp (.int .i64 x) = ints (insAt x pp jp ++ d.drop (i + 1)) := by
                  have hpl := HPL.out
                  rw [J1.out, ints_set, ints_set, List.set_append_left (h := by rw [insAt_len]; omega), List.set_append_left (h := by rw [List.length_set, insAt_len]; omega), ← HXP.out, insAt_swap (by omega)]
                rw [e] at h2
                exact h2
              · exact only_drew (only_setCell (only_setCell HG3.out _ _) _ _)
              · show _ = _
                rw [HI.out]
                exact insFrom_go (by rw [HXP.out]; exact decide_eq_true hlv)
          · go_wp2_with fail
            go_quiet ((go_at_fn G; refine Calls.quiet_of (hc _)))
            go_wp2
            go_roundg (n - (i + 1))
            case measure => omega
            case rel =>
              refine ⟨i + 1, by go_num, by omega, by omega, by omega, ?_, only_drewN HG2.out _⟩
              rw [OUT (Or.inr (by simp only [Nat.add_sub_cancel]; rw [HXP.out]; exact decide_eq_false (by omega)))]
              exact own_drewN HO2.out _
        · obtain rfl : j = 0 := by omega
          have hd0 : decide ((0 : Int) < 0) = false := by decide
          go_wp2_with fail
          go_quiet (fail)
          go_wp2
          go_roundg (n - (i + 1))
          case measure => omega
          case rel =>
            refine ⟨i + 1, by go_num, by omega, by omega, by omega, ?_, only_drewN HG2.out _⟩
            rw [OUT (by simp)]
            exact own_drewN HO2.out _
    · go_wp2
      go_end0
      refine ⟨rfl, ?_, HG.out⟩
      have h1 := HW.out
      have hl := HL.out
      rw [List.take_of_length_le (by omega), List.drop_of_length_le (by omega), List.append_nil] at h1
      exact h1

set_option maxRecDepth 100000 in
set_option maxHeartbeats 1000000 in
theorem stableCmp_c (cf : Int → Int → Int) (p : Int → Prop) (G : Nat) (caps : Array Value) (g cap base n : Nat) (d : List Int) (w : World)
    (eg : ∀ args w, (callFunc G args).run Tryz.prog w = .ok (.enter G args) w) (hcmp : CmpOk G caps cf p g w) (hp : ∀ x ∈ d, p x)
    (ho : w.ownsRow base 3 1 (.slice (some ⟨g, 0, none⟩) n cap) n (ints d)) (hn : n ≤ 19) :
    Calls Tryz.prog 162 #[.slice (some ⟨g, 0, none⟩) n cap, .int .i64 n, .func (.func G) #[] caps] w fun e w' =>
      e = .returned (.tuple #[]) ∧ w'.ownsRow base 3 1 (.slice (some ⟨g, 0, none⟩) n cap) n (ints (isort (gtOf cf) d)) ∧ w.grownBy w' (some g) := by
  have HC : Aside (CmpOk G caps cf p g w) := hcmp
  have HO := Lib.hid ho
  have HP := Lib.hid hp
  clear hcmp ho hp
  have h20 : ¬ (20 : Int) ≤ (n : Int) := by omega
  have h20' : ¬ (20 : Int) < (n : Int) := by omega
  go_enter Tryz.func162, Tryz.ntmps162
  go_wp2
  refine wp_loop_rounds 1 ?_
  rw [rounds_succ]
  go_wp2_with (go_at_call 192; refine (insSort_c cf p G caps g cap base n d _ eg HC HP.out HO.out (by omega)).mono ?_; rintro e w' ⟨rfl, ho2, hg2⟩)
  refine wp_loop_rounds 1 ?_
  rw [rounds_succ]
  go_wp2
  go_end0
  exact ⟨rfl, ho2, hg2⟩

set_option maxRecDepth 100000 in
set_option maxHeartbeats 1000000 in
theorem insSort_nil (fv : Value) (w : World) :
    Calls Tryz.prog 192 #[.slice none 0 0, .int .i64 0, .int .i64 0, fv] w fun e w' => e = .returned (.tuple #[]) ∧ w = w' := by
  go_enter Tryz.func192, Tryz.ntmps192
  go_wp2
  refine wp_loop_rounds 1 ?_
  rw [rounds_succ]
  go_wp2
  go_end0
  exact ⟨rfl, rfl⟩
set_option maxRecDepth 100000 in
set_option maxHeartbeats 1000000 in
theorem stableCmp_nil (fv : Value) (w : World) :
    Calls Tryz.prog 162 #[.slice none 0 0, .int .i64 0, fv] w fun e w' => e = .returned (.tuple #[]) ∧ w = w' := by
  go_enter Tryz.func162, Tryz.ntmps162
  go_wp2
  refine wp_loop_rounds 1 ?_
  rw [rounds_succ]
  go_wp2_with (go_at_call 192; refine (insSort_nil _ _).mono ?_; rintro e w' ⟨rfl, rfl⟩)
  refine wp_loop_rounds 1 ?_
  rw [rounds_succ]
  go_wp2
  go_end0
  exact ⟨rfl, rfl⟩

set_option maxRecDepth 100000 in
set_option maxHeartbeats 1000000 in
theorem sortStable_c (cf : Int → Int → Int) (p : Int → Prop) (G : Nat) (caps : Array Value) (v : Value) (base n : Nat) (d : List Int) (w : World)
    (eg : ∀ args w, (callFunc G args).run Tryz.prog w = .ok (.enter G args) w) (hcmp : ∀ g, v.ownBlock = some g → CmpOk G caps cf p g w) (hp : ∀ x ∈ d, p x)
    (ho : w.ownsRow base 3 1 v n (ints d)) (hn : n ≤ 19) :
    Calls Tryz.prog 142 #[v, .func (.func G) #[] caps] w fun e w' =>
      e = .returned (.tuple #[]) ∧ w'.ownsRow base 3 1 v n (ints (isort (gtOf cf) d)) ∧ w.grownBy w' v.ownBlock := by
  have HO := Lib.hid ho
  have HP := Lib.hid hp
  rcases ho.2 with ⟨rfl, rfl⟩ | ⟨g, cap, cur, rfl, hbg, hgh, hnc, hcm, hcs, htk⟩
  · have hd : d = [] := by
      have := ho.1; rw [ints_len] at this
      exact List.eq_nil_of_length_eq_zero (by omega)
    subst hd
    clear ho hp hcmp
    go_enter Tryz.func142, Tryz.ntmps142
    go_wp2_with (go_at_call 162; refine (stableCmp_nil _ _).mono ?_; rintro e w' ⟨rfl, rfl⟩)
    go_end0
    exact ⟨rfl, HO.out, World.grownBy.refl _ _⟩
  · have HC : Aside (CmpOk G caps cf p g w) := hcmp g rfl
    clear ho hp hcmp htk hgh
    go_enter Tryz.func142, Tryz.ntmps142
    go_wp2_with (go_at_call 162; refine (stableCmp_c cf p G caps g cap base n d _ eg HC HP.out HO.out (by omega)).mono ?_; rintro e w' ⟨rfl, ho2, hg2⟩)
    go_end0
    exact ⟨rfl, ho2, hg2⟩
end Go.Proofs.YthgegghdkoeofaaGreatDoor

namespace Go.Proofs.YthgegghdkoeofaaGreatDoor
set_option linter.unusedVariables false
set_option linter.unusedSimpArgs false
open Go.RowKit

def needB (l : List Int) : Bool := decide (l.length = 4) && l.all fun x => inB x 0 6
theorem needB_true {l : List Int} (h : needB l = true) : l.length = 4 ∧ ∀ x ∈ l, 0 ≤ x ∧ x ≤ 6 := by
  unfold needB at h
  simp only [Bool.and_eq_true, decide_eq_true_eq, List.all_eq_true] at h
  exact ⟨h.1, fun x hx => inB_true (h.2 x hx)⟩
theorem all_false_at2 {p : Int → Bool} {l : List Int} {k : Nat} {x : Int} (h : l[k]? = some x) (hp : p x = false) : l.all p = false :=
  List.all_eq_false.2 ⟨x, List.mem_of_getElem? h, by rw [hp]; simp⟩
theorem need_no {l : List Int} (h : (l.all fun x => inB x 0 6) = false) : needB l = false := by unfold needB; rw [h]; simp
theorem need_len {l : List Int} (h : (l.all fun x => inB x 0 6) = true) : needB l = decide (l.length = 4) := by unfold needB; rw [h]; simp
set_option maxHeartbeats 400000 in
theorem all2_c (v : Value) (l : List Int) (lo hi : Int) (w : World) (hr : RdI w v l) :
    Calls Tryz.prog 91 #[v, .int .i64 lo, .int .i64 hi] w fun en w' => en = .returned (.bool (l.all fun n => inB n lo hi)) ∧ w = w' := by
  obtain ⟨A, c, rfl, hc, hm, hr⟩ := hr
  rw [maxLen_eq] at hm
  go_enter Tryz.func91, Tryz.ntmps91
  go_wp2
  go_loop [8, 11] (fun _ i => ∃ k : Nat, k ≤ l.length ∧ i = .int .i64 k ∧ (l.take k).all (fun n => inB n lo hi) = true) (fun _ i => l.length - (intOf i).toNat)
  case atStart => exact ⟨0, Nat.zero_le _, rfl, rfl⟩
  case round =>
    obtain ⟨k, hk, rfl, hall⟩ := hrel
    by_cases hlt : k < l.length
    · obtain ⟨b, off, rfl, hbl, hcell⟩ := hr (by omega)
      have hx : l[k]? = some l[k] := by simp [hlt]
      generalize l[k] = t at hx
      have c0 := hcell k (.int .i64 t) (ints_get hx)
      have HX := Lib.hid hx
      have HA := Lib.hid hall
      clear hx hall
      go_wp2_with (go_at_call 66; refine (l1In_c _ _ _ _).mono ?_; rintro e w' ⟨rfl, rfl⟩)
      · go_ret
        refine ⟨?_, rfl⟩
        have h : inB t lo hi = false := by simp_all
        rw [all_false_at2 HX.out h]; rfl
      · refine ⟨⟨k + 1, by omega, by go_num, ?_⟩, by simp [intOf]; omega⟩
        rw [take_succ_of HX.out, List.all_append, HA.out]; simp_all
    · go_wp2
      go_ret
      rw [List.take_of_length_le (by omega)] at hall
      exact ⟨by rw [hall]; rfl, rfl⟩
set_option maxRecDepth 100000 in
set_option maxHeartbeats 400000 in
theorem tbNeed_c (v : Value) (l : List Int) (w : World) (hr : RdI w v l) :
    Calls Tryz.prog 84 #[v] w fun en w' => en = .returned (.bool (needB l)) ∧ w = w' := by
  have HR := Lib.hid hr
  obtain ⟨A, c, rfl, hc, hm, _⟩ := hr
  by_cases h4 : l.length = 4
  · have HN : Hid (needB l = l.all fun x => inB x 0 6) := Lib.hid (by unfold needB; rw [decide_eq_true h4]; rfl)
    have h4i : ((l.length : Int) == 4) = true := by simp; omega
    clear h4
    go_enter Tryz.func84, Tryz.ntmps84
    go_wp2_with (go_at_call 91; refine (all2_c _ l _ _ _ HR.out).mono ?_; rintro e w' ⟨rfl, rfl⟩)
    all_goals
      go_ret
      rw [HN.out]
      exact ⟨rfl, rfl⟩
  · have HN : Hid (needB l = false) := Lib.hid (by unfold needB; rw [decide_eq_false h4]; rfl)
    have h4i : ((l.length : Int) == 4) = false := by simp; omega
    clear h4
    go_enter Tryz.func84, Tryz.ntmps84
    go_wp2_with (go_at_call 91; refine (all2_c _ l _ _ _ HR.out).mono ?_; rintro e w' ⟨rfl, rfl⟩)
    all_goals
      go_ret
      rw [HN.out]
      exact ⟨rfl, rfl⟩
set_option maxRecDepth 100000 in
set_option maxHeartbeats 400000 in
theorem isNeed_c (v : Value) (l : List Int) (w : World) (hr : RdI w v l) :
    Calls Tryz.prog 89 #[v] w fun en w' => en = .returned (.bool (needB l)) ∧ w = w' := by
  obtain ⟨A, c, rfl, hc, hm, hr⟩ := hr
  rw [maxLen_eq] at hm
  go_enter Tryz.func89, Tryz.ntmps89
  go_wp2
  go_loop [7] (fun i => ∃ k : Nat, k ≤ l.length ∧ i = .int .i64 k ∧ (l.take k).all (fun n => inB n 0 6) = true) (fun i => l.length - (intOf i).toNat)
  case atStart => exact ⟨0, Nat.zero_le _, rfl, rfl⟩
  case round =>
    obtain ⟨k, hk, rfl, hall⟩ := hrel
    by_cases hlt : k < l.length
    · obtain ⟨b, off, rfl, hbl, hcell⟩ := hr (by omega)
      have hx : l[k]? = some l[k] := by simp [hlt]
      generalize l[k] = t at hx
      have c0 := hcell k (.int .i64 t) (ints_get hx)
      have HX := Lib.hid hx
      have HA := Lib.hid hall
      clear hx hall
      go_wp2_with (go_at_call 64; refine (inside_c _ _ _ _).mono ?_; rintro e w' ⟨rfl, rfl⟩)
      · go_ret
        refine ⟨?_, rfl⟩
        have h : inB t 0 6 = false := by simp_all
        rw [need_no (all_false_at2 HX.out h)]; rfl
      · refine ⟨⟨k + 1, by omega, by go_num, ?_⟩, by simp [intOf]; omega⟩
        rw [take_succ_of HX.out, List.all_append, HA.out]; simp_all
    · rw [List.take_of_length_le (by omega)] at hall
      have HN := Lib.hid (need_len hall)
      clear hall
      by_cases h4 : l.length = 4
      · have h4i : ((l.length : Int) == 4) = true := by simp; omega
        have H4 := Lib.hid h4
        clear h4
        go_wp2
        go_ret
        rw [HN.out, decide_eq_true H4.out]
        exact ⟨rfl, rfl⟩
      · have h4i : ((l.length : Int) == 4) = false := by simp; omega
        have H4 := Lib.hid h4
        clear h4
        go_wp2
        go_ret
        rw [HN.out, decide_eq_false H4.out]
        exact ⟨rfl, rfl⟩
end Go.Proofs.YthgegghdkoeofaaGreatDoor
