/-
  The choice for a need: impl.choose, impl.missing, spec.dsPick (printed by gen_pick.py). IsBestChoice: the plain law: counting by kind and by names says the same as comparing what is missing. SendChoice: the plain law: those who are chosen are called, their names in the fleet's order. The choices of a list of appliances with their times (printed by gen_choices.py). ReadyTimes: both sides (printed by gen_ready.py). slices.Equal at ints; spec.dsHas; readyL has no repeats. IsBestChoice: the reference's side. ChooseFor: both sides (printed by gen_ready.py). MissingKinds: both sides. IsBestChoice: the program's side (printed by gen_best.py). (joined by pack.py: Pick BestP SendP Choices Ready Equal BestS Choose Miss BestI)
-/
import Derived.Test.YthgegghdkoeofaaGreatK18
import Derived.Test.YthgegghdkoeofaaGreatK14
import Derived.Test.YthgegghdkoeofaaGreatK19
import Derived.Test.YthgegghdkoeofaaGreatK9
import Derived.Test.YthgegghdkoeofaaGreatK12
import Derived.Test.YthgegghdkoeofaaGreatK6
import Derived.Deep.RegionLaw
import Derived.Test.YthgegghdkoeofaaGreatK16
import Derived.Test.YthgegghdkoeofaaGreatK3
import Derived.Test.YthgegghdkoeofaaGreatK10
import Derived.BigRegion
namespace Go.Proofs.YthgegghdkoeofaaGreat
set_option linter.unusedVariables false
set_option linter.unusedSimpArgs false
open Go.RowKit

def kdOf (f : List Ap) (i : Int) : Nat := match f[i.toNat]? with
  | some a => a.kd.toNat
  | none => 0
theorem kdOf_at {f : List Ap} {i : Nat} {a : Ap} (h : f[i]? = some a) : kdOf f (i : Int) = a.kd.toNat := by unfold kdOf; rw [Int.toNat_natCast, h]
def pickStep (f : List Ap) (st : List Int × List Int) (i : Int) : List Int × List Int :=
  if 0 < st.2.getD (kdOf f i) 0 then (st.1 ++ [i], st.2.set (kdOf f i) (st.2.getD (kdOf f i) 0 - 1)) else st
theorem pickStep_yes {f : List Ap} {S d : List Int} {i : Int} {q : Nat} {x : Int} (hq : kdOf f i = q) (hx : d.getD q 0 = x) (h : 0 < x) : pickStep f (S, d) i = (S ++ [i], d.set q (x - 1)) := by
  unfold pickStep; dsimp only; rw [hq, hx, if_pos h]
theorem pickStep_no {f : List Ap} {S d : List Int} {i : Int} {q : Nat} {x : Int} (hq : kdOf f i = q) (hx : d.getD q 0 = x) (h : ¬ 0 < x) : pickStep f (S, d) i = (S, d) := by
  unfold pickStep; dsimp only; rw [hq, hx, if_neg h]
def pickL (f : List Ap) (list need : List Int) : List Int × List Int := list.foldl (pickStep f) ([], need)
theorem pickL_snoc {f : List Ap} {L need : List Int} {k : Nat} {x : Int} (h : L[k]? = some x) : pickL f (L.take (k + 1)) need = pickStep f (pickL f (L.take k) need) x := by
  unfold pickL; rw [take_succ_of h, List.foldl_append]; rfl
def missStep (f : List Ap) (d : List Int) (i : Int) : List Int := d.set (kdOf f i) (d.getD (kdOf f i) 0 - 1)
def missL (f : List Ap) (out need : List Int) : List Int := out.foldl (missStep f) need
theorem missL_snoc {f : List Ap} {L need : List Int} {k : Nat} {x : Int} (h : L[k]? = some x) : missL f (L.take (k + 1)) need = missStep f (missL f (L.take k) need) x := by
  unfold missL; rw [take_succ_of h, List.foldl_append]; rfl
theorem pick_miss_aux (f : List Ap) (need : List Int) : ∀ (L : List Int) (st : List Int × List Int), st.2 = missL f st.1 need → (L.foldl (pickStep f) st).2 = missL f (L.foldl (pickStep f) st).1 need := by
  intro L
  induction L with
  | nil => intro st h; exact h
  | cons i L ih =>
    intro st h
    rw [List.foldl_cons]
    apply ih
    unfold pickStep
    split
    · dsimp only
      unfold missL at h ⊢
      rw [List.foldl_append, ← h]; rfl
    · exact h
theorem pick_miss (f : List Ap) (L need : List Int) : missL f (pickL f L need).1 need = (pickL f L need).2 := (pick_miss_aux f need L ([], need) rfl).symm
theorem pick_mem_aux (f : List Ap) (p : Int → Prop) : ∀ (L : List Int) (st : List Int × List Int), (∀ y ∈ st.1, p y) → (∀ y ∈ L, p y) → (∀ y ∈ (L.foldl (pickStep f) st).1, p y) ∧ (L.foldl (pickStep f) st).1.length ≤ st.1.length + L.length := by
  intro L
  induction L with
  | nil => intro st h _; exact ⟨h, by simp⟩
  | cons i L ih =>
    intro st h hL
    rw [List.foldl_cons]
    have h1 : (∀ y ∈ (pickStep f st i).1, p y) ∧ (pickStep f st i).1.length ≤ st.1.length + 1 := by
      unfold pickStep
      split
      · refine ⟨fun y hy => ?_, by simp⟩
        rcases List.mem_append.1 hy with hy | hy
        · exact h y hy
        · rw [List.mem_singleton] at hy; rw [hy]; exact hL i (by simp)
      · exact ⟨h, by omega⟩
    obtain ⟨a, b⟩ := ih (pickStep f st i) h1.1 (fun y hy => hL y (by simp [hy]))
    exact ⟨a, by rw [List.length_cons]; omega⟩
theorem pick_mem (f : List Ap) (p : Int → Prop) (L need : List Int) (hL : ∀ y ∈ L, p y) : (∀ y ∈ (pickL f L need).1, p y) ∧ (pickL f L need).1.length ≤ L.length := by
  obtain ⟨a, b⟩ := pick_mem_aux f p L ([], need) (by simp) hL
  exact ⟨a, by unfold pickL; simpa using b⟩
theorem getD_le (l : List Int) (c : Int) (h0 : 0 ≤ c) (h : ∀ y ∈ l, y ≤ c) (j : Nat) : l.getD j 0 ≤ c := by
  rw [List.getD_eq_getElem?_getD]
  cases hx : l[j]? with
  | none => exact h0
  | some y => exact h y (List.mem_of_getElem? hx)
theorem getD_ge (l : List Int) (c : Int) (h0 : c ≤ 0) (h : ∀ y ∈ l, c ≤ y) (j : Nat) : c ≤ l.getD j 0 := by
  rw [List.getD_eq_getElem?_getD]
  cases hx : l[j]? with
  | none => exact h0
  | some y => exact h y (List.mem_of_getElem? hx)
theorem getD_set' (l : List Int) (q j : Nat) (x : Int) : (l.set q x).getD j 0 = x ∨ (l.set q x).getD j 0 = l.getD j 0 := by
  rw [List.getD_eq_getElem?_getD, List.getD_eq_getElem?_getD, List.getElem?_set]
  by_cases h : q = j
  · subst h
    by_cases h2 : q < l.length
    · left; simp [h2]
    · right; simp [h2]
  · right; simp [h]
theorem set_le (l : List Int) (q : Nat) (x c : Int) (hx : x ≤ c) (h : ∀ j, l.getD j 0 ≤ c) (j : Nat) : (l.set q x).getD j 0 ≤ c := by
  rcases getD_set' l q j x with e | e
  · rw [e]; exact hx
  · rw [e]; exact h j
theorem set_ge (l : List Int) (q : Nat) (x c : Int) (hx : c ≤ x) (h : ∀ j, c ≤ l.getD j 0) (j : Nat) : c ≤ (l.set q x).getD j 0 := by
  rcases getD_set' l q j x with e | e
  · rw [e]; exact hx
  · rw [e]; exact h j
theorem gro_and {a b c : World} {r r' : Option Nat} (h : a.grownBy b r) (k : b.grownBy c r') (hr : ∀ q, r' = some q → a.heap.size ≤ q) : a.grownBy c r :=
  ⟨k.os.trans h.os, k.tape.trans h.tape, k.output.trans h.output, Nat.le_trans h.size k.size, fun i hi hne => (k.block i (Nat.lt_of_lt_of_le hi h.size) (fun e => by have := hr i e.symm; omega)).trans (h.block i hi hne)⟩
theorem rdi_gro {a b : World} {g : Nat} {v : Value} {l : List Int} (h : RdI a v l) (k : a.grownBy b (some g)) (hne : ∀ b' off n c, v = .slice (some ⟨b', off, none⟩) n c → 0 < l.length → b' ≠ g) : RdI b v l := by
  obtain ⟨A, c, rfl, hc, hm, hr⟩ := h
  refine ⟨A, c, rfl, hc, hm, fun hl => ?_⟩
  obtain ⟨b', off, rfl, hb, hcell⟩ := hr hl
  exact ⟨b', off, rfl, Nat.lt_of_lt_of_le hb k.size, fun j u hu => (gro_cell k hb (hne _ _ _ _ rfl hl)).trans (hcell j u hu)⟩

set_option maxRecDepth 100000 in
set_option maxHeartbeats 4000000 in
theorem choose_c (n : Nat) (s : Value) (l : List St) (v : Value) (f : List Ap) (src B : Nat) (vn : Value) (need : List Int) (w : World) (hg : goodTown n l = true) (hfl : goodFl f = true) (hnd : ∀ a ∈ f, 0 ≤ a.nd ∧ a.nd ≤ (n : Int) - 1) (hs : src < n) (hne : needB need = true)
    (t0 : w.cell? ⟨B, 0, none⟩ = some (.int .i64 n)) (t1 : w.cell? ⟨B, 1, none⟩ = some s) (hr : Rd w s l.length (l.flatMap St.cells)) (hf : Rd w v f.length (f.flatMap Ap.cells)) (hvn : RdI w vn need) :
    Calls Tryz.prog 28 #[.pointer (some ⟨B, 0, none⟩), v, .int .i64 src, vn] w (OwnI (pickL f (readyL (distT n (arcs l) src) f) need).1 w) := by
  have hB : B < w.heap.size := World.block_lt_of_cell? w _ t0
  obtain ⟨hf12, hfg⟩ := goodFl_true hfl
  obtain ⟨hn4, hnb⟩ := needB_true hne
  have HR := Lib.hid hr
  have HF := Lib.hid hf
  have HN := Lib.hid hvn
  have HG := Lib.hid hg
  have HFL := Lib.hid hfl
  have HND := Lib.hid hnd
  have HFG := Lib.hid hfg
  have HN4 := Lib.hid hn4
  have HNB := Lib.hid hnb
  have T0 := Lib.hid t0
  have T1 := Lib.hid t1
  obtain ⟨A, c, rfl, hc, hm, hcell0⟩ := hf
  rw [maxLen_eq] at hm
  have HCELL := Lib.hid hcell0
  obtain ⟨i0', hi, hz0, hz1, hz2⟩ := info_parts Tryz.infoInt
  clear hr hcell0 hfl hfg hg hnd hvn hnb t0 t1 hne
  go_enter Tryz.func28, Tryz.ntmps28
  go_wp2_with fail
  refine (clone_c _ need _ HN.out (by omega)).mono ?_
  rintro e w1 ⟨v9, rfl, ho9, hb1⟩
  rw [hn4] at ho9
  obtain ⟨g, cg, rfl, hbg, hgl, hcg, hcmg⟩ := own_shape ho9 (by omega)
  have e0 := (hb1.cell (p := ⟨B, 0, none⟩) hB).trans T0.out
  have e1 := (hb1.cell (p := ⟨B, 1, none⟩) hB).trans T1.out
  have HB1 := Lib.hid hb1
  have HL1 := Lib.hid ho9
  have hs1 := hb1.size
  have E0 := Lib.hid e0
  have E1 := Lib.hid e1
  clear ho9 hb1 e0 e1
  go_wp2_with fail
  refine (readyOrder_c n s l _ f src B _ HG.out HFL.out HND.out hs E0.out E1.out (rd_below HR.out HB1.out) (rd_below HF.out HB1.out)).mono ?_
  rintro e w2 ⟨v5, rfl, ho5, hb2⟩
  have HB2 := Lib.hid (bel_then HB1.out hb2)
  have hs2 := hb2.size
  have HLW0 := Lib.hid (own_below HL1.out hb2)
  have HLO5 := Lib.hid ho5.lt
  clear hb2
  have hrl := readyL_len (distT n (arcs l) src) f
  have hlm : ∀ y ∈ readyL (distT n (arcs l) src) f, ∃ (i : Nat) (a : Ap), y = (i : Int) ∧ f[i]? = some a := fun y hy => by
    obtain ⟨i, a, h1, h2, _⟩ := readyL_mem hy
    exact ⟨i, a, h1, h2⟩
  obtain ⟨L, hL⟩ : ∃ L, readyL (distT n (arcs l) src) f = L := ⟨_, rfl⟩
  rw [hL] at ho5 hrl hlm
  have HLL := Lib.hid hL
  have HLM := Lib.hid hlm
  obtain ⟨A5, c5, rfl, hc5, hm5, hcell5⟩ := rdi_own ho5
  rw [maxLen_eq] at hm5
  have HC5 := Lib.hid hcell5
  clear ho5 hcell5 hlm hL
  go_wp2_with fail
  go_loopw [10, 20] (fun vo vi wr => ∃ (k : Nat) (S d : List Int), k ≤ L.length ∧ S.length ≤ k ∧ vi = .int .i64 k ∧ Hid (pickL f (L.take k) need = (S, d)) ∧ Hid (d.length = 4) ∧ Hid (∀ j, d.getD j 0 ≤ 6) ∧ Hid (wr.ownsRow w2.heap.size 3 1 vo S.length (ints S)) ∧ Hid (wr.ownsRow w.heap.size 3 1 (.slice (some ⟨g, 0, none⟩) 4 cg) 4 (ints d)) ∧ Hid (w2.grownBy wr (some g))) (fun _ vi _ => L.length - (intOf vi).toNat)
  case atStart => exact ⟨0, [], need, Nat.zero_le _, Nat.le_refl _, rfl, Lib.hid rfl, HN4, Lib.hid (fun j => getD_le _ _ (by omega) (fun y hy => (HNB.out y hy).2) j), Lib.hid (World.ownsRow_nil _ _ _ _), HLW0, Lib.hid (World.grownBy.refl _ _)⟩
  case round =>
    obtain ⟨k, S, d, hk, hSk, rfl, HPK, HDL, HDB, HOW, HLW, HGR⟩ := hrel
    obtain ⟨wA, rfl⟩ : ∃ wA : World, wA = wr := ⟨_, rfl⟩
    have hsA := HGR.out.size
    by_cases hlt : k < L.length
    · obtain ⟨b5, off5, rfl, hb5, hcl5⟩ := HC5.out (by omega)
      have h5 := (HLO5.out b5 rfl).1
      obtain ⟨y, hy⟩ : ∃ y, L[k]? = some y := ⟨_, List.getElem?_eq_getElem hlt⟩
      obtain ⟨i, a, rfl, ha⟩ := HLM.out y (List.mem_of_getElem? hy)
      obtain ⟨nm, kd, nd, cr, sv⟩ := a
      have hgd := goodAp_true (HFG.out _ (List.mem_of_getElem? ha))
      dsimp only at hgd
      obtain ⟨_, hkd0, hkd3, _, _, _⟩ := hgd
      obtain ⟨q, rfl⟩ := Int.eq_ofNat_of_zero_le hkd0
      have hif : i < f.length := (List.getElem?_eq_some_iff.1 ha).1
      obtain ⟨b, off, rfl, hbl, hcell⟩ := HCELL.out (by omega)
      obtain ⟨_, d1, _, _, _⟩ := ap_at hcell (bel_grown HB2.out HGR.out (fun q e => by have := Option.some.inj e; omega)) hbl ha
      dsimp only at d1
      have hkq := kdOf_at ha
      dsimp only at hkq
      rw [Int.toNat_natCast] at hkq
      have co := (gro_cell HGR.out (o := off5 + k) hb5 (by omega)).trans (hcl5 k _ (ints_get hy))
      have ca := own_cell HLW.out (show q < 4 by omega)
      have fb := HLW.out.frozenAt q
      obtain ⟨x, hx⟩ : ∃ x, d.getD q 0 = x := ⟨_, rfl⟩
      rw [hx] at ca
      have hx6 : x ≤ 6 := by rw [← hx]; exact HDB.out q
      have HST := Lib.hid (pickL_snoc (f := f) (need := need) hy)
      have HQ := Lib.hid hkq
      have HX := Lib.hid hx
      have i0 : (0 : Int) ≤ (i : Int) := by omega
      have i1 : (i : Int) < (f.length : Int) := by omega
      have q0 : (0 : Int) ≤ (q : Int) := by omega
      have q4 : (q : Int) < 4 := by omega
      have HOWS := Lib.hid (own_other HOW.out (g := g) (by omega) q (.int .i64 (x - 1)))
      have HLWS := Lib.hid (own_setI HLW.out q (x - 1))
      have HGRS := Lib.hid (only_setCell HGR.out q (.int .i64 (x - 1)))
      have hz0' : (wA.setCell ⟨g, q, none⟩ (.int .i64 (x - 1))).heap.size = wA.heap.size := by simp
      clear hcl5 hy ha hcell hkq hx hkd3
      by_cases hpos : 0 < x
      · have HYES : Hid (pickL f (L.take (k + 1)) need = (S ++ [(i : Int)], d.set q (x - 1))) := Lib.hid (by
          rw [HST.out, HPK.out]; exact pickStep_yes HQ.out HX.out hpos)
        have s3 : IntKind.i64.wrap (x - 1) = x - 1 := IntWalk.i64_in _ (by omega)
        go_wp2_with (at_builtin; refine wpList_app_rd _ rfl _ _ 28 rfl w2.heap.size 3 i0' (.int .i64 0) 1 8 Tryz.underlying28 hi hz0 hz1 hz2 rfl (by decide) _ _ _ rfl (HOWS.out.alloc _) _ 1 [.int .i64 i] rfl (rd_new _ hz0'.symm (Nat.le_refl _) (by rw [maxLen_eq]; omega)) rfl (ints_one [(i : Int)]) (by rw [maxLen_eq]; omega) (by omega) (by simp; omega) ?_; intro v7 w7 hown7 hgrow7 _)
        have hlo := HOW.out.lt
        refine ⟨⟨k + 1, S ++ [(i : Int)], d.set q (x - 1), by omega, by simp; omega, by go_num, HYES, Lib.hid (by rw [List.length_set]; exact HDL.out), Lib.hid (fun j => by have := HDB.out j; exact set_le _ _ _ _ (by omega) HDB.out j), Lib.hid ?_, Lib.hid ?_, Lib.hid ?_⟩, by simp [intOf]; omega⟩
        · rw [ints_append, List.length_append]; exact hown7
        · exact kept3 (HLWS.out.alloc _) hgrow7 (fun p p' e e' => by have := (hlo p' e').1; have : g = p := Option.some.inj e; omega)
        · exact gro_and (gro_al HGRS.out _) hgrow7 (fun p e => (hlo p e).1)
      · have HNO : Hid (pickL f (L.take (k + 1)) need = (S, d)) := Lib.hid (by rw [HST.out, HPK.out]; exact pickStep_no HQ.out HX.out (by omega))
        go_wp2
        exact ⟨⟨k + 1, S, d, by omega, by omega, by go_num, HNO, HDL, HDB, HOW, HLW, HGR⟩, by simp [intOf]; omega⟩
    · obtain rfl : k = L.length := by omega
      have hpk := HPK.out
      rw [List.take_length] at hpk
      have HP := Lib.hid hpk
      clear hpk
      go_wp2
      go_ret
      rw [HLL.out, HP.out]
      refine ⟨_, rfl, own_base HOW.out HB2.out.size, bel_grown HB2.out HGR.out (fun q e => by have := Option.some.inj e; omega)⟩

set_option maxRecDepth 100000 in
set_option maxHeartbeats 4000000 in
theorem missing_c (v : Value) (f : List Ap) (vo : Value) (L : List Int) (vn : Value) (need : List Int) (w : World) (hfl : goodFl f = true) (hne : needB need = true) (hlm' : ∀ y ∈ L, ∃ (i : Nat) (a : Ap), y = (i : Int) ∧ f[i]? = some a) (hl12 : L.length ≤ 12)
    (hf : Rd w v f.length (f.flatMap Ap.cells)) (hvo : RdI w vo L) (hvn : RdI w vn need) :
    Calls Tryz.prog 34 #[v, vo, vn] w (OwnI (missL f L need) w) := by
  obtain ⟨hf12, hfg⟩ := goodFl_true hfl
  obtain ⟨hn4, hnb⟩ := needB_true hne
  have HN := Lib.hid hvn
  have HFG := Lib.hid hfg
  have HN4 := Lib.hid hn4
  have HNB := Lib.hid hnb
  have HLM := Lib.hid hlm'
  obtain ⟨A, c, rfl, hc, hm, hcell0⟩ := hf
  rw [maxLen_eq] at hm
  have HCELL := Lib.hid hcell0
  obtain ⟨A5, c5, rfl, hc5, hm5, hcell5⟩ := hvo
  rw [maxLen_eq] at hm5
  have HC5 := Lib.hid hcell5
  clear hcell0 hfl hfg hvn hnb hne hlm' hcell5
  go_enter Tryz.func34, Tryz.ntmps34
  go_wp2_with fail
  refine (clone_c _ need _ HN.out (by omega)).mono ?_
  rintro e w2 ⟨v9, rfl, ho9, hb1⟩
  rw [hn4] at ho9
  obtain ⟨g, cg, rfl, hbg, hgl, hcg, hcmg⟩ := own_shape ho9 (by omega)
  have HB2 := Lib.hid hb1
  have HLW0 := Lib.hid ho9
  clear ho9 hb1
  go_wp2_with fail
  go_loopw [14] (fun vi wr => ∃ (k : Nat) (d : List Int), k ≤ L.length ∧ vi = .int .i64 k ∧ Hid (missL f (L.take k) need = d) ∧ Hid (d.length = 4) ∧ Hid (∀ j, -(k : Int) ≤ d.getD j 0 ∧ d.getD j 0 ≤ 6) ∧ Hid (wr.ownsRow w.heap.size 3 1 (.slice (some ⟨g, 0, none⟩) 4 cg) 4 (ints d)) ∧ Hid (w2.grownBy wr (some g))) (fun vi _ => L.length - (intOf vi).toNat)
  case atStart => exact ⟨0, need, Nat.zero_le _, rfl, Lib.hid rfl, HN4, Lib.hid (fun j => ⟨by have := getD_ge need 0 (by omega) (fun y hy => (HNB.out y hy).1) j; omega, getD_le _ _ (by omega) (fun y hy => (HNB.out y hy).2) j⟩), HLW0, Lib.hid (World.grownBy.refl _ _)⟩
  case round =>
    obtain ⟨k, d, hk, rfl, HPK, HDL, HDB, HLW, HGR⟩ := hrel
    obtain ⟨wA, rfl⟩ : ∃ wA : World, wA = wr := ⟨_, rfl⟩
    have hsA := HGR.out.size
    by_cases hlt : k < L.length
    · obtain ⟨b5, off5, rfl, hb5, hcl5⟩ := HC5.out (by omega)
      obtain ⟨y, hy⟩ : ∃ y, L[k]? = some y := ⟨_, List.getElem?_eq_getElem hlt⟩
      obtain ⟨i, a, rfl, ha⟩ := HLM.out y (List.mem_of_getElem? hy)
      obtain ⟨nm, kd, nd, cr, sv⟩ := a
      have hgd := goodAp_true (HFG.out _ (List.mem_of_getElem? ha))
      dsimp only at hgd
      obtain ⟨_, hkd0, hkd3, _, _, _⟩ := hgd
      obtain ⟨q, rfl⟩ := Int.eq_ofNat_of_zero_le hkd0
      have hif : i < f.length := (List.getElem?_eq_some_iff.1 ha).1
      obtain ⟨b, off, rfl, hbl, hcell⟩ := HCELL.out (by omega)
      have HBA : Hid (Below w.heap.size w wA) := Lib.hid (bel_grown HB2.out HGR.out (fun q e => by have := Option.some.inj e; omega))
      obtain ⟨_, d1, _, _, _⟩ := ap_at hcell HBA.out hbl ha
      dsimp only at d1
      have hkq := kdOf_at ha
      dsimp only at hkq
      rw [Int.toNat_natCast] at hkq
      have co := cell_at hcl5 HBA.out hb5 (ints_get hy)
      have ca := own_cell HLW.out (show q < 4 by omega)
      have fb := HLW.out.frozenAt q
      obtain ⟨x, hx⟩ : ∃ x, d.getD q 0 = x := ⟨_, rfl⟩
      rw [hx] at ca
      obtain ⟨hx0, hx6⟩ : -(k : Int) ≤ x ∧ x ≤ 6 := by rw [← hx]; exact HDB.out q
      have HST : Hid (missL f (L.take (k + 1)) need = d.set q (x - 1)) := Lib.hid (by rw [missL_snoc hy, HPK.out]; unfold missStep; rw [hkq, hx])
      have i0 : (0 : Int) ≤ (i : Int) := by omega
      have i1 : (i : Int) < (f.length : Int) := by omega
      have q0 : (0 : Int) ≤ (q : Int) := by omega
      have q4 : (q : Int) < 4 := by omega
      clear hcl5 hy ha hcell hkq hx hkd3
      have s3 : IntKind.i64.wrap (x - 1) = x - 1 := IntWalk.i64_in _ (by omega)
      go_wp2
      exact ⟨⟨k + 1, _, by omega, by go_num, HST, Lib.hid (by rw [List.length_set]; exact HDL.out), Lib.hid (fun j => ⟨set_ge _ _ _ _ (by omega) (fun j => by have := (HDB.out j).1; omega) j, set_le _ _ _ _ (by omega) (fun j => (HDB.out j).2) j⟩), Lib.hid (own_setI HLW.out q (x - 1)), Lib.hid (only_setCell HGR.out q _)⟩, by simp [intOf]; omega⟩
    · obtain rfl : k = L.length := by omega
      have hpk := HPK.out
      rw [List.take_length] at hpk
      have HP := Lib.hid hpk
      clear hpk
      go_wp2
      go_ret
      rw [HP.out]
      refine ⟨_, rfl, ?_, bel_grown HB2.out HGR.out (fun q e => by have := Option.some.inj e; omega)⟩
      rw [HDL.out]; exact HLW.out

def PickIs (n : Nat) (l : List St) (f : List Ap) (src : Nat) (need : List Int) (w : World) (e : Ending) (w' : World) : Prop :=
  ∃ x y z, e = .returned (.tuple #[x, y, z]) ∧ RdI w' x (pickL f (readyL (distT n (arcs l) src) f) need).1 ∧ w'.ownsRow w.heap.size 3 1 y (pickL f (readyL (distT n (arcs l) src) f) need).2.length (ints (pickL f (readyL (distT n (arcs l) src) f) need).2) ∧ RdI w' z (allT (distT n (arcs l) src) f) ∧ Below w.heap.size w w'
set_option maxRecDepth 100000 in
set_option maxHeartbeats 4000000 in
theorem dsPick_c (n : Nat) (s : Value) (l : List St) (v : Value) (f : List Ap) (src : Nat) (vn : Value) (need : List Int) (w : World) (hg : goodTown n l = true) (hfl : goodFl f = true) (hnd : ∀ a ∈ f, 0 ≤ a.nd ∧ a.nd ≤ (n : Int) - 1) (hs : src < n) (hne : needB need = true)
    (hr : Rd w s l.length (l.flatMap St.cells)) (hf : Rd w v f.length (f.flatMap Ap.cells)) (hvn : RdI w vn need) :
    Calls Tryz.prog 32 #[.agg #[.int .i64 n, s], v, .int .i64 src, vn] w (PickIs n l f src need w) := by
  obtain ⟨hf12, hfg⟩ := goodFl_true hfl
  obtain ⟨hn4, hnb⟩ := needB_true hne
  have HR := Lib.hid hr
  have HF := Lib.hid hf
  have HN := Lib.hid hvn
  have HG := Lib.hid hg
  have HFL := Lib.hid hfl
  have HND := Lib.hid hnd
  have HFG := Lib.hid hfg
  have HN4 := Lib.hid hn4
  have HNB := Lib.hid hnb
  obtain ⟨A, c, rfl, hc, hm, hcell0⟩ := hf
  rw [maxLen_eq] at hm
  have HCELL := Lib.hid hcell0
  obtain ⟨i0', hi, hz0, hz1, hz2⟩ := info_parts Tryz.infoInt
  clear hr hcell0 hfl hfg hg hnd hvn hnb hne
  go_enter Tryz.func32, Tryz.ntmps32
  go_wp2_with fail
  generalize hW : World.alloc w _ = w0
  have hb0 : Below w.heap.size w w0 := by subst hW; exact bel_al (Below.refl _ _) _
  have HB := Lib.hid hb0
  clear hW hb0
  refine (dsReady_c n s l _ f src _ HG.out HFL.out HND.out hs (rd_below HR.out HB.out) (rd_below HF.out HB.out)).mono ?_
  rintro e w1 ⟨v5, u5, rfl, hv5, hu5, hb1⟩
  have HB1 := Lib.hid (bel_then HB.out hb1)
  have HU5 := Lib.hid hu5
  clear hb1
  have hrl := readyL_len (distT n (arcs l) src) f
  have hlm : ∀ y ∈ readyL (distT n (arcs l) src) f, ∃ (i : Nat) (a : Ap), y = (i : Int) ∧ f[i]? = some a := fun y hy => by
    obtain ⟨i, a, h1, h2, _⟩ := readyL_mem hy
    exact ⟨i, a, h1, h2⟩
  obtain ⟨L, hL⟩ : ∃ L, readyL (distT n (arcs l) src) f = L := ⟨_, rfl⟩
  rw [hL] at hv5 hrl hlm
  have HLL := Lib.hid hL
  have HLM := Lib.hid hlm
  have HV5 := Lib.hid hv5
  obtain ⟨A5, c5, rfl, hc5, hm5, hcell5⟩ := hv5
  rw [maxLen_eq] at hm5
  have HC5' := Lib.hid hcell5
  clear hcell5 hlm hL hu5
  go_wp2_with fail
  refine (l1Own_c _ need _ (rd_below HN.out HB1.out) (by omega)).mono ?_
  rintro e w2 ⟨v9, rfl, ho9, hb2⟩
  rw [hn4] at ho9
  obtain ⟨g, cg, rfl, hbg, hgl, hcg, hcmg⟩ := own_shape ho9 (by omega)
  have HB2 := Lib.hid (bel_then HB1.out hb2)
  have HLW0 := Lib.hid (own_base ho9 HB1.out.size)
  have hs1 := HB1.out.size
  have hs2 := hb2.size
  have hc52 : 0 < L.length → ∃ b off, A5 = some ⟨b, off, none⟩ ∧ b < w1.heap.size ∧ ∀ j u, (ints L)[j]? = some u → w2.cell? ⟨b, off + j, none⟩ = some u := fun h => by
    obtain ⟨b, off, e, hb, hcl⟩ := HC5'.out h
    exact ⟨b, off, e, hb, fun j u hu => (hb2.cell (p := ⟨b, off + j, none⟩) hb).trans (hcl j u hu)⟩
  have HC5 := Lib.hid hc52
  have HZ := Lib.hid (rd_below HU5.out hb2)
  have HZB : Hid (∀ b' off' n' c', u5 = .slice (some ⟨b', off', none⟩) n' c' → 0 < (allT (distT n (arcs l) src) f).length → b' ≠ g) := Lib.hid (fun b' off' n' c' e hl => by
    obtain ⟨A6, c6, rfl, _, _, h6⟩ := HU5.out
    obtain ⟨b6, off6, rfl, hb6, _⟩ := h6 hl
    cases e
    omega)
  clear ho9 hb2 hc52
  go_wp2_with fail
  go_loopw [14, 28] (fun vo vi wr => ∃ (k : Nat) (S d : List Int), k ≤ L.length ∧ S.length ≤ k ∧ vi = .int .i64 k ∧ Hid (pickL f (L.take k) need = (S, d)) ∧ Hid (d.length = 4) ∧ Hid (∀ j, d.getD j 0 ≤ 6) ∧ Hid (wr.ownsRow w2.heap.size 3 1 vo S.length (ints S)) ∧ Hid (wr.ownsRow w.heap.size 3 1 (.slice (some ⟨g, 0, none⟩) 4 cg) 4 (ints d)) ∧ Hid (w2.grownBy wr (some g))) (fun _ vi _ => L.length - (intOf vi).toNat)
  case atStart => exact ⟨0, [], need, Nat.zero_le _, Nat.le_refl _, rfl, Lib.hid rfl, HN4, Lib.hid (fun j => getD_le _ _ (by omega) (fun y hy => (HNB.out y hy).2) j), Lib.hid (World.ownsRow_nil _ _ _ _), HLW0, Lib.hid (World.grownBy.refl _ _)⟩
  case round =>
    obtain ⟨k, S, d, hk, hSk, rfl, HPK, HDL, HDB, HOW, HLW, HGR⟩ := hrel
    obtain ⟨wA, rfl⟩ : ∃ wA : World, wA = wr := ⟨_, rfl⟩
    have hsA := HGR.out.size
    by_cases hlt : k < L.length
    · obtain ⟨b5, off5, rfl, hb5, hcl5⟩ := HC5.out (by omega)
      have hb5 : b5 < w2.heap.size := by omega
      obtain ⟨y, hy⟩ : ∃ y, L[k]? = some y := ⟨_, List.getElem?_eq_getElem hlt⟩
      obtain ⟨i, a, rfl, ha⟩ := HLM.out y (List.mem_of_getElem? hy)
      obtain ⟨nm, kd, nd, cr, sv⟩ := a
      have hgd := goodAp_true (HFG.out _ (List.mem_of_getElem? ha))
      dsimp only at hgd
      obtain ⟨_, hkd0, hkd3, _, _, _⟩ := hgd
      obtain ⟨q, rfl⟩ := Int.eq_ofNat_of_zero_le hkd0
      have hif : i < f.length := (List.getElem?_eq_some_iff.1 ha).1
      obtain ⟨b, off, rfl, hbl, hcell⟩ := HCELL.out (by omega)
      obtain ⟨_, d1, _, _, _⟩ := ap_at hcell (bel_grown HB2.out HGR.out (fun q e => by have := Option.some.inj e; omega)) hbl ha
      dsimp only at d1
      have hkq := kdOf_at ha
      dsimp only at hkq
      rw [Int.toNat_natCast] at hkq
      have co := (gro_cell HGR.out (o := off5 + k) hb5 (by omega)).trans (hcl5 k _ (ints_get hy))
      have ca := own_cell HLW.out (show q < 4 by omega)
      have fb := HLW.out.frozenAt q
      obtain ⟨x, hx⟩ : ∃ x, d.getD q 0 = x := ⟨_, rfl⟩
      rw [hx] at ca
      have hx6 : x ≤ 6 := by rw [← hx]; exact HDB.out q
      have HST := Lib.hid (pickL_snoc (f := f) (need := need) hy)
      have HQ := Lib.hid hkq
      have HX := Lib.hid hx
      have i0 : (0 : Int) ≤ (i : Int) := by omega
      have i1 : (i : Int) < (f.length : Int) := by omega
      have q0 : (0 : Int) ≤ (q : Int) := by omega
      have q4 : (q : Int) < 4 := by omega
      have HOWS := Lib.hid (own_other HOW.out (g := g) (by omega) q (.int .i64 (x - 1)))
      have HLWS := Lib.hid (own_setI HLW.out q (x - 1))
      have HGRS := Lib.hid (only_setCell HGR.out q (.int .i64 (x - 1)))
      have hz0' : (wA.setCell ⟨g, q, none⟩ (.int .i64 (x - 1))).heap.size = wA.heap.size := by simp
      clear hcl5 hy ha hcell hkq hx hkd3
      by_cases hpos : 0 < x
      · have HYES : Hid (pickL f (L.take (k + 1)) need = (S ++ [(i : Int)], d.set q (x - 1))) := Lib.hid (by
          rw [HST.out, HPK.out]; exact pickStep_yes HQ.out HX.out hpos)
        have s3 : IntKind.i64.wrap (x - 1) = x - 1 := IntWalk.i64_in _ (by omega)
        go_wp2_with (at_builtin; refine wpList_app_rd _ rfl _ _ 28 rfl w2.heap.size 3 i0' (.int .i64 0) 1 8 Tryz.underlying28 hi hz0 hz1 hz2 rfl (by decide) _ _ _ rfl (HOWS.out.alloc _) _ 1 [.int .i64 i] rfl (rd_new _ hz0'.symm (Nat.le_refl _) (by rw [maxLen_eq]; omega)) rfl (ints_one [(i : Int)]) (by rw [maxLen_eq]; omega) (by omega) (by simp; omega) ?_; intro v7 w7 hown7 hgrow7 _)
        have hlo := HOW.out.lt
        refine ⟨⟨k + 1, S ++ [(i : Int)], d.set q (x - 1), by omega, by simp; omega, by go_num, HYES, Lib.hid (by rw [List.length_set]; exact HDL.out), Lib.hid (fun j => by have := HDB.out j; exact set_le _ _ _ _ (by omega) HDB.out j), Lib.hid ?_, Lib.hid ?_, Lib.hid ?_⟩, by simp [intOf]; omega⟩
        · rw [ints_append, List.length_append]; exact hown7
        · exact kept3 (HLWS.out.alloc _) hgrow7 (fun p p' e e' => by have := (hlo p' e').1; have : g = p := Option.some.inj e; omega)
        · exact gro_and (gro_al HGRS.out _) hgrow7 (fun p e => (hlo p e).1)
      · have HNO : Hid (pickL f (L.take (k + 1)) need = (S, d)) := Lib.hid (by rw [HST.out, HPK.out]; exact pickStep_no HQ.out HX.out (by omega))
        go_wp2
        exact ⟨⟨k + 1, S, d, by omega, by omega, by go_num, HNO, HDL, HDB, HOW, HLW, HGR⟩, by simp [intOf]; omega⟩
    · obtain rfl : k = L.length := by omega
      have hpk := HPK.out
      rw [List.take_length] at hpk
      have HP := Lib.hid hpk
      clear hpk
      go_wp2
      go_ret3
      have hzz : RdI wA u5 (allT (distT n (arcs l) src) f) := rdi_gro HZ.out HGR.out (fun b' off' n' c' e hl => HZB.out b' off' n' c' e hl)
      refine ⟨_, _, _, rfl, ?_, ?_, hzz, bel_grown HB2.out HGR.out (fun q e => by have := Option.some.inj e; omega)⟩
      · rw [HLL.out, HP.out]; exact rdi_own HOW.out
      · rw [HLL.out, HP.out]; dsimp only; rw [HDL.out]; exact HLW.out
end Go.Proofs.YthgegghdkoeofaaGreat

namespace Go.Proofs.YthgegghdkoeofaaGreat
set_option linter.unusedVariables false
set_option linter.unusedSimpArgs false
open Go.RowKit

/-! a list without repeats inside another -/
theorem nodup_len {α : Type} [DecidableEq α] : ∀ (a b : List α), a.Nodup → (∀ x ∈ a, x ∈ b) → a.length ≤ b.length := by
  intro a
  induction a with
  | nil => intro b _ _; simp
  | cons x a ih =>
    intro b hn hs
    obtain ⟨hx, hn⟩ := List.nodup_cons.1 hn
    have hxb := hs x (by simp)
    have h := ih (b.erase x) hn (fun y hy => (List.mem_erase_of_ne (fun e => hx (by rw [← e]; exact hy))).2 (hs y (by simp [hy])))
    rw [List.length_erase_of_mem hxb] at h
    have := List.length_pos_of_mem hxb
    rw [List.length_cons]; omega
theorem nodup_back {α : Type} [DecidableEq α] {a b : List α} (hn : a.Nodup) (hs : ∀ x ∈ a, x ∈ b) (hl : a.length = b.length) : ∀ x ∈ b, x ∈ a := fun x hx => by
  rcases Classical.em (x ∈ a) with h | h
  · exact h
  · have := nodup_len (x :: a) b (List.nodup_cons.2 ⟨h, hn⟩) (fun y hy => by
      rcases List.mem_cons.1 hy with rfl | hy
      · exact hx
      · exact hs y hy)
    rw [List.length_cons] at this; omega
theorem nodup_filter {α : Type} {l : List α} (p : α → Bool) (h : l.Nodup) : (l.filter p).Nodup := List.Nodup.sublist List.filter_sublist h
theorem nodup_map_of {α β : Type} (g : α → β) : ∀ (l : List α), l.Nodup → (∀ x ∈ l, ∀ y ∈ l, g x = g y → x = y) → (l.map g).Nodup := by
  intro l
  induction l with
  | nil => intro _ _; simp
  | cons x l ih =>
    intro hn hi
    obtain ⟨hx, hn⟩ := List.nodup_cons.1 hn
    rw [List.map_cons, List.nodup_cons]
    refine ⟨fun h => ?_, ih hn (fun a ha b hb => hi a (by simp [ha]) b (by simp [hb]))⟩
    obtain ⟨y, hy, e⟩ := List.mem_map.1 h
    exact hx (hi y (by simp [hy]) x (by simp) e ▸ hy)
/-! names that rise are different -/
theorem bLess_irrefl : ∀ x : List UInt8, Op.bytesLess x x = false := by
  intro x
  induction x with
  | nil => rfl
  | cons a x ih => simp [Op.bytesLess, ih]
theorem bLess_trans : ∀ x y z : List UInt8, Op.bytesLess x y = true → Op.bytesLess y z = true → Op.bytesLess x z = true := by
  intro x
  induction x with
  | nil => intro y z h1 h2; cases z with
    | nil => cases y <;> simp [Op.bytesLess] at h2
    | cons c z => rfl
  | cons a x ih => intro y z h1 h2; cases y with
    | nil => simp [Op.bytesLess] at h1
    | cons b y => cases z with
      | nil => simp [Op.bytesLess] at h2
      | cons c z =>
        simp only [Op.bytesLess, Bool.or_eq_true, Bool.and_eq_true, decide_eq_true_eq, beq_iff_eq] at h1 h2 ⊢
        rcases h1 with h1 | ⟨rfl, h1⟩
        · rcases h2 with h2 | ⟨rfl, h2⟩
          · exact .inl (UInt8.lt_trans h1 h2)
          · exact .inl h1
        · rcases h2 with h2 | ⟨rfl, h2⟩
          · exact .inl h2
          · exact .inr ⟨rfl, ih _ _ h1 h2⟩
/-- Neighbours that rise: any two rise. -/
theorem rise_all {l : List ByteArray} (h : ∀ k a b, l[k]? = some a → l[k + 1]? = some b → Op.bytesLess a.toList b.toList = true) : ∀ (d i : Nat) (a b : ByteArray), l[i]? = some a → l[i + 1 + d]? = some b → Op.bytesLess a.toList b.toList = true := by
  intro d
  induction d with
  | zero => intro i a b ha hb; exact h i a b ha hb
  | succ d ih =>
    intro i a b ha hb
    have hlt : i + 1 + d < l.length := by have := (List.getElem?_eq_some_iff.1 hb).1; omega
    obtain ⟨c, hc⟩ : ∃ c, l[i + 1 + d]? = some c := ⟨_, List.getElem?_eq_getElem hlt⟩
    exact bLess_trans _ _ _ (ih i a c ha hc) (h _ c b hc hb)
theorem rise_inj {l : List ByteArray} (h : ∀ k a b, l[k]? = some a → l[k + 1]? = some b → Op.bytesLess a.toList b.toList = true) {i j : Nat} {a : ByteArray} (hi : l[i]? = some a) (hj : l[j]? = some a) : i = j := by
  rcases Nat.lt_trichotomy i j with hlt | rfl | hlt
  · obtain ⟨d, rfl⟩ : ∃ d, j = i + 1 + d := ⟨j - i - 1, by omega⟩
    have := rise_all h d i a a hi hj
    rw [bLess_irrefl] at this; cases this
  · rfl
  · obtain ⟨d, rfl⟩ : ∃ d, i = j + 1 + d := ⟨i - j - 1, by omega⟩
    have := rise_all h d j a a hj hi
    rw [bLess_irrefl] at this; cases this
theorem names_rise {q : List ByteArray} (h : namesB q = true) : ∀ k a b, q[k]? = some a → q[k + 1]? = some b → Op.bytesLess a.toList b.toList = true := fun k a b ha hb => by
  unfold namesB at h
  have := List.all_eq_true.1 h (k + 1) (List.mem_range.2 (List.getElem?_eq_some_iff.1 hb).1)
  rw [okNm_next hb ha] at this
  unfold geS at this
  simpa using this
theorem nodup_idx {α : Type} {l : List α} (h : ∀ (i j : Nat) (a : α), l[i]? = some a → l[j]? = some a → i = j) : l.Nodup := by
  rw [List.nodup_iff_pairwise_ne, List.pairwise_iff_getElem]
  intro i j hi hj hij e
  have := h i j _ (List.getElem?_eq_getElem hi) (by rw [e]; exact List.getElem?_eq_getElem hj)
  omega
theorem names_nodup {q : List ByteArray} (h : namesB q = true) : q.Nodup := nodup_idx fun _ _ _ hi hj => rise_inj (names_rise h) hi hj
theorem fleet_rise {f : List Ap} (h : goodFl f = true) : ∀ k a b, (f.map Ap.nm)[k]? = some a → (f.map Ap.nm)[k + 1]? = some b → Op.bytesLess a.toList b.toList = true := fun k a b ha hb => by
  unfold goodFl at h
  rw [Bool.and_eq_true] at h
  rw [List.getElem?_map, Option.map_eq_some_iff] at ha hb
  obtain ⟨x, hx, rfl⟩ := ha
  obtain ⟨y, hy, rfl⟩ := hb
  have := List.all_eq_true.1 h.2 (k + 1) (List.mem_range.2 (List.getElem?_eq_some_iff.1 hy).1)
  unfold okAp at this
  rw [hy] at this
  simp only [Nat.add_sub_cancel, hx] at this
  unfold geS at this
  simp at this
  exact this.2
theorem fleet_inj {f : List Ap} (h : goodFl f = true) {i j : Nat} {a b : Ap} (hi : f[i]? = some a) (hj : f[j]? = some b) (e : a.nm = b.nm) : i = j :=
  rise_inj (fleet_rise h) (a := a.nm) (by rw [List.getElem?_map, hi]; rfl) (by rw [List.getElem?_map, hj, e]; rfl)
/-! the plain values -/
def nmI (f : List Ap) (i : Int) : ByteArray := match f[i.toNat]? with
  | some a => a.nm
  | none => ⟨#[]⟩
theorem nmI_at {f : List Ap} {i : Nat} {a : Ap} (h : f[i]? = some a) : nmI f (i : Int) = a.nm := by unfold nmI; rw [Int.toNat_natCast, h]
def hasN (q : List ByteArray) (nm : ByteArray) : Bool := q.any fun s => decide (s = nm)
theorem hasN_iff {q : List ByteArray} {nm : ByteArray} : hasN q nm = true ↔ nm ∈ q := by
  unfold hasN
  rw [List.any_eq_true]
  constructor
  · rintro ⟨s, hs, h⟩; exact of_decide_eq_true h ▸ hs
  · intro h; exact ⟨nm, h, decide_eq_true rfl⟩
theorem hasN_false {q : List ByteArray} {nm : ByteArray} (h : nm ∉ q) : hasN q nm = false := by
  cases e : hasN q nm
  · rfl
  · exact absurd (hasN_iff.1 e) h
def cntStep (f : List Ap) (d : List Int) (i : Int) : List Int := d.set (kdOf f i) (d.getD (kdOf f i) 0 + 1)
def cntL (f : List Ap) (H : List Int) : List Int := H.foldl (cntStep f) [0, 0, 0, 0]
def wstStep (ev : List Int) (f : List Ap) (d : List Int) (i : Int) : List Int := d.set (kdOf f i) (max (d.getD (kdOf f i) 0) (rdyKey ev f i))
def wstL (ev : List Int) (f : List Ap) (H : List Int) : List Int := H.foldl (wstStep ev f) [-1, -1, -1, -1]
def hasL (f : List Ap) (q : List ByteArray) (R : List Int) : List Int := R.filter fun i => hasN q (nmI f i)
/-- What the reference says. -/
def bestS (ev : List Int) (f : List Ap) (R : List Int) (need mis : List Int) (q : List ByteArray) : Bool :=
  namesB q && ((List.range 4).all (fun k => (cntL f (hasL f q R)).getD k 0 == need.getD k 0 - mis.getD k 0) && ((cntL f (hasL f q R)).sum == (q.length : Int) && R.all fun i => hasN q (nmI f i) || !decide (rdyKey ev f i < (wstL ev f (hasL f q R)).getD (kdOf f i) 0)))
def okTk (f : List Ap) (R : List Int) (q : List ByteArray) (k : Nat) : Bool := okNm q k && match q[k]? with
  | some nm => decide (findA nm f ∈ R)
  | none => true
def takenL (f : List Ap) (q : List ByteArray) : List Int := q.map fun nm => findA nm f
/-- What the program says. -/
def bestI (ev : List Int) (f : List Ap) (R : List Int) (need mis : List Int) (q : List ByteArray) : Bool :=
  (List.range q.length).all (okTk f R q) && (decide (missL f (takenL f q) need = mis) && R.all fun i => decide (i ∈ takenL f q) || !decide (rdyKey ev f i < (wstL ev f (takenL f q)).getD (kdOf f i) 0))
/-! what the steps hold -/
theorem set4_len {d : List Int} {k : Nat} {x : Int} : (d.set k x).length = d.length := List.length_set
theorem getD_set_eq {d : List Int} {k : Nat} {x : Int} (h : k < d.length) : (d.set k x).getD k 0 = x := by simp [List.getD, h]
theorem getD_set_ne {d : List Int} {k j : Nat} {x : Int} (h : k ≠ j) : (d.set k x).getD j 0 = d.getD j 0 := by simp [List.getD, List.getElem?_set_ne h]
theorem cnt_aux (f : List Ap) : ∀ (H d : List Int), d.length = 4 → (H.foldl (cntStep f) d).length = 4 ∧ ∀ k, k < 4 → (H.foldl (cntStep f) d).getD k 0 = d.getD k 0 + ((H.filter fun i => kdOf f i == k).length : Int) := by
  intro H
  induction H with
  | nil => intro d hd; exact ⟨hd, fun k _ => by simp⟩
  | cons i H ih =>
    intro d hd
    obtain ⟨h1, h2⟩ := ih (cntStep f d i) (by unfold cntStep; rw [set4_len, hd])
    refine ⟨h1, fun k hk => ?_⟩
    rw [List.foldl_cons, h2 k hk, List.filter_cons]
    unfold cntStep
    by_cases e : kdOf f i = k
    · subst e
      rw [getD_set_eq (by omega)]
      simp
      omega
    · rw [getD_set_ne e]
      simp [e]
theorem cnt_len (f : List Ap) (H : List Int) : (cntL f H).length = 4 := (cnt_aux f H _ rfl).1
theorem cnt_get (f : List Ap) (H : List Int) {k : Nat} (hk : k < 4) : (cntL f H).getD k 0 = ((H.filter fun i => kdOf f i == k).length : Int) := by
  have h := (cnt_aux f H [0, 0, 0, 0] rfl).2 k hk
  have e : ([0, 0, 0, 0] : List Int).getD k 0 = 0 := by rcases k with _ | _ | _ | _ | k <;> first | rfl | omega
  unfold cntL
  rw [h, e]; omega
theorem miss_aux (f : List Ap) : ∀ (H d : List Int), d.length = 4 → (H.foldl (missStep f) d).length = 4 ∧ ∀ k, k < 4 → (H.foldl (missStep f) d).getD k 0 = d.getD k 0 - ((H.filter fun i => kdOf f i == k).length : Int) := by
  intro H
  induction H with
  | nil => intro d hd; exact ⟨hd, fun k _ => by simp⟩
  | cons i H ih =>
    intro d hd
    obtain ⟨h1, h2⟩ := ih (missStep f d i) (by unfold missStep; rw [set4_len, hd])
    refine ⟨h1, fun k hk => ?_⟩
    rw [List.foldl_cons, h2 k hk, List.filter_cons]
    unfold missStep
    by_cases e : kdOf f i = k
    · subst e
      rw [getD_set_eq (by omega)]
      simp
      omega
    · rw [getD_set_ne e]
      simp [e]
theorem sum_kinds (g : Int → Nat) : ∀ H : List Int, (∀ i ∈ H, g i < 4) → (H.filter fun i => g i == 0).length + (H.filter fun i => g i == 1).length + (H.filter fun i => g i == 2).length + (H.filter fun i => g i == 3).length = H.length := by
  intro H
  induction H with
  | nil => intro _; rfl
  | cons i H ih =>
    intro h
    have hi := h i (by simp)
    have := ih (fun x hx => h x (by simp [hx]))
    rcases (show g i = 0 ∨ g i = 1 ∨ g i = 2 ∨ g i = 3 by omega) with e | e | e | e <;> simp [List.filter_cons, e] <;> omega
theorem list4g {d : List Int} (h : d.length = 4) : d = [d.getD 0 0, d.getD 1 0, d.getD 2 0, d.getD 3 0] := by
  match d, h with
  | [a, b, c, e], _ => rfl
theorem sum4 {d : List Int} (h : d.length = 4) : d.sum = d.getD 0 0 + d.getD 1 0 + d.getD 2 0 + d.getD 3 0 := by
  match d, h with
  | [a, b, c, e], _ => simp [List.getD]; omega
theorem cnt_sum (f : List Ap) (H : List Int) (h : ∀ i ∈ H, kdOf f i < 4) : (cntL f H).sum = (H.length : Int) := by
  rw [sum4 (cnt_len f H), cnt_get f H (by omega), cnt_get f H (by omega), cnt_get f H (by omega), cnt_get f H (by omega)]
  have := sum_kinds (kdOf f) H h
  omega
theorem wst_aux (ev : List Int) (f : List Ap) : ∀ (H d : List Int), d.length = 4 → (H.foldl (wstStep ev f) d).length = 4 ∧ ∀ k, k < 4 → d.getD k 0 ≤ (H.foldl (wstStep ev f) d).getD k 0 ∧ (∀ i ∈ H, kdOf f i = k → rdyKey ev f i ≤ (H.foldl (wstStep ev f) d).getD k 0) ∧
    ∀ c, d.getD k 0 ≤ c → (∀ i ∈ H, kdOf f i = k → rdyKey ev f i ≤ c) → (H.foldl (wstStep ev f) d).getD k 0 ≤ c := by
  intro H
  induction H with
  | nil => intro d hd; exact ⟨hd, fun k _ => ⟨Int.le_refl _, by simp, fun c h _ => h⟩⟩
  | cons i H ih =>
    intro d hd
    obtain ⟨h1, h2⟩ := ih (wstStep ev f d i) (by unfold wstStep; rw [set4_len, hd])
    refine ⟨h1, fun k hk => ?_⟩
    obtain ⟨a, b, c⟩ := h2 k hk
    rw [List.foldl_cons]
    by_cases e : kdOf f i = k
    · have hg : (wstStep ev f d i).getD k 0 = max (d.getD k 0) (rdyKey ev f i) := by unfold wstStep; rw [e, getD_set_eq (by omega)]
      rw [hg] at a c
      refine ⟨by omega, fun j hj hjk => ?_, fun c' h3 h4 => c c' (by have := h4 i (by simp) e; omega) (fun j hj => h4 j (by simp [hj]))⟩
      rcases List.mem_cons.1 hj with rfl | hj
      · omega
      · exact b j hj hjk
    · have hg : (wstStep ev f d i).getD k 0 = d.getD k 0 := by unfold wstStep; rw [getD_set_ne e]
      rw [hg] at a c
      refine ⟨a, fun j hj hjk => ?_, fun c' h3 h4 => c c' h3 (fun j hj => h4 j (by simp [hj]))⟩
      rcases List.mem_cons.1 hj with rfl | hj
      · exact absurd hjk e
      · exact b j hj hjk
theorem wst_congr (ev : List Int) (f : List Ap) {H T : List Int} (h1 : ∀ x ∈ H, x ∈ T) (h2 : ∀ x ∈ T, x ∈ H) {k : Nat} (hk : k < 4) : (wstL ev f H).getD k 0 = (wstL ev f T).getD k 0 := by
  obtain ⟨a, b, c⟩ := (wst_aux ev f H [-1, -1, -1, -1] rfl).2 k hk
  obtain ⟨a', b', c'⟩ := (wst_aux ev f T [-1, -1, -1, -1] rfl).2 k hk
  exact Int.le_antisymm (c _ a' (fun i hi => b' i (h1 i hi))) (c' _ a (fun i hi => b i (h2 i hi)))
/-! the two agree -/
theorem best_eq (ev : List Int) (f : List Ap) (R : List Int) (need : List Int) (q : List ByteArray) (P : List Int) (hfl : goodFl f = true) (hR : ∀ y ∈ R, ∃ (i : Nat) (a : Ap), y = (i : Int) ∧ f[i]? = some a) (hnd : R.Nodup) (hn4 : need.length = 4) :
    bestI ev f R need (missL f P need) q = bestS ev f R need (missL f P need) q := by
  have hkd : ∀ y ∈ R, kdOf f y < 4 := fun y hy => by
    obtain ⟨i, a, rfl, ha⟩ := hR y hy
    obtain ⟨_, h0, h3, _⟩ := goodAp_true ((goodFl_true hfl).2 a (List.mem_of_getElem? ha))
    rw [kdOf_at ha]; omega
  have hfind : ∀ y ∈ R, findA (nmI f y) f = y := fun y hy => by
    obtain ⟨i, a, rfl, ha⟩ := hR y hy
    rw [nmI_at ha]
    have h0 : 0 ≤ findA a.nm f := of_decide_eq_true (by unfold findA; rw [(idxG_any _ _).1]; exact List.any_eq_true.2 ⟨a, List.mem_of_getElem? ha, by simp⟩)
    obtain ⟨j, hj⟩ := Int.eq_ofNat_of_zero_le h0
    obtain ⟨b, hb, hbp⟩ := idxG_get hj
    have := fleet_inj hfl ha hb (of_decide_eq_true hbp).symm
    rw [hj, this]
  have hname : ∀ nm ∈ q, findA nm f ∈ R → nmI f (findA nm f) = nm := fun nm _ h => by
    obtain ⟨i, a, e, ha⟩ := hR _ h
    obtain ⟨b, hb, hbp⟩ := idxG_get e
    rw [e, nmI_at hb]
    exact of_decide_eq_true hbp
  by_cases hN : namesB q = true
  · have hqn := names_nodup hN
    have hHn : (hasL f q R).Nodup := nodup_filter _ hnd
    have hHR : ∀ y ∈ hasL f q R, y ∈ R := fun y hy => (List.mem_filter.1 hy).1
    have hinj : ∀ x ∈ R, ∀ y ∈ R, nmI f x = nmI f y → x = y := fun x hx y hy e => by rw [← hfind x hx, ← hfind y hy, e]
    have hmn : ((hasL f q R).map (nmI f)).Nodup := nodup_map_of _ _ hHn (fun x hx y hy => hinj x (hHR x hx) y (hHR y hy))
    have hms : ∀ z ∈ (hasL f q R).map (nmI f), z ∈ q := fun z hz => by
      obtain ⟨y, hy, rfl⟩ := List.mem_map.1 hz
      exact hasN_iff.1 (List.mem_filter.1 hy).2
    have hall : (List.range q.length).all (okTk f R q) = decide (∀ nm ∈ q, findA nm f ∈ R) := by
      by_cases h : ∀ nm ∈ q, findA nm f ∈ R
      · rw [decide_eq_true h, List.all_eq_true]
        intro k hk
        unfold okTk
        rw [List.all_eq_true.1 hN k hk]
        obtain ⟨nm, hnm⟩ : ∃ nm, q[k]? = some nm := ⟨_, List.getElem?_eq_getElem (List.mem_range.1 hk)⟩
        rw [hnm]
        exact decide_eq_true (h nm (List.mem_of_getElem? hnm))
      · rw [decide_eq_false h, List.all_eq_false]
        have ⟨nm, hnm, hno⟩ : ∃ nm, nm ∈ q ∧ findA nm f ∉ R := by
          apply Classical.byContradiction
          intro hc
          exact h (fun nm hm => Classical.byContradiction fun hn => hc ⟨nm, hm, hn⟩)
        obtain ⟨k, hk, e⟩ := List.getElem_of_mem hnm
        refine ⟨k, List.mem_range.2 hk, ?_⟩
        unfold okTk
        rw [List.getElem?_eq_getElem hk, e]
        simp [hno]
    by_cases hA : ∀ nm ∈ q, findA nm f ∈ R
    · have hTn : (takenL f q).Nodup := nodup_map_of _ _ hqn (fun x hx y hy e => by rw [← hname x hx (hA x hx), ← hname y hy (hA y hy), e])
      have hTH : ∀ x ∈ takenL f q, x ∈ hasL f q R := fun x hx => by
        obtain ⟨nm, hm, rfl⟩ := List.mem_map.1 hx
        exact List.mem_filter.2 ⟨hA nm hm, by rw [hname nm hm (hA nm hm)]; exact hasN_iff.2 hm⟩
      have hHT : ∀ x ∈ hasL f q R, x ∈ takenL f q := fun x hx => by
        obtain ⟨h1, h2⟩ := List.mem_filter.1 hx
        exact List.mem_map.2 ⟨nmI f x, hasN_iff.1 h2, hfind x h1⟩
      have hTl : (takenL f q).length = q.length := by unfold takenL; rw [List.length_map]
      have hHl : (hasL f q R).length = q.length := by
        have h1 := nodup_len _ _ hTn hTH
        have h2 := nodup_len _ _ hHn hHT
        omega
      have hkeq : ∀ k, ((takenL f q).filter fun i => kdOf f i == k).length = ((hasL f q R).filter fun i => kdOf f i == k).length := fun k => by
        have h1 := nodup_len _ _ (nodup_filter (fun i => kdOf f i == k) hTn) (fun x hx => List.mem_filter.2 ⟨hTH x (List.mem_filter.1 hx).1, (List.mem_filter.1 hx).2⟩)
        have h2 := nodup_len _ _ (nodup_filter (fun i => kdOf f i == k) hHn) (fun x hx => List.mem_filter.2 ⟨hHT x (List.mem_filter.1 hx).1, (List.mem_filter.1 hx).2⟩)
        omega
      have hsum : (cntL f (hasL f q R)).sum == (q.length : Int) := by
        rw [cnt_sum f _ (fun i hi => hkd i (hHR i hi)), hHl]; exact beq_iff_eq.2 rfl
      have hmiss : decide (missL f (takenL f q) need = missL f P need) = (List.range 4).all (fun k => (cntL f (hasL f q R)).getD k 0 == need.getD k 0 - (missL f P need).getD k 0) := by
        have hm1 := miss_aux f (takenL f q) need hn4
        have hm2 := (miss_aux f P need hn4).1
        have hval : ∀ k, k < 4 → (missL f (takenL f q) need).getD k 0 = need.getD k 0 - (cntL f (hasL f q R)).getD k 0 := fun k hk => by
          unfold missL
          rw [hm1.2 k hk, cnt_get f _ hk, hkeq]
        rw [Bool.eq_iff_iff, decide_eq_true_iff, List.all_eq_true]
        constructor
        · intro e k hk
          have := hval k (List.mem_range.1 hk)
          rw [e] at this
          exact beq_iff_eq.2 (by omega)
        · intro h
          have e : ∀ k, k < 4 → (missL f (takenL f q) need).getD k 0 = (missL f P need).getD k 0 := fun k hk => by
            have h1 := beq_iff_eq.1 (h k (List.mem_range.2 hk))
            have h2 := hval k hk
            omega
          rw [list4g (d := missL f (takenL f q) need) hm1.1, list4g (d := missL f P need) hm2, e 0 (by omega), e 1 (by omega), e 2 (by omega), e 3 (by omega)]
      have hlast : (R.all fun i => decide (i ∈ takenL f q) || !decide (rdyKey ev f i < (wstL ev f (takenL f q)).getD (kdOf f i) 0)) = R.all fun i => hasN q (nmI f i) || !decide (rdyKey ev f i < (wstL ev f (hasL f q R)).getD (kdOf f i) 0) := by
        rw [Bool.eq_iff_iff, List.all_eq_true, List.all_eq_true]
        have e : ∀ i ∈ R, (decide (i ∈ takenL f q) || !decide (rdyKey ev f i < (wstL ev f (takenL f q)).getD (kdOf f i) 0)) = (hasN q (nmI f i) || !decide (rdyKey ev f i < (wstL ev f (hasL f q R)).getD (kdOf f i) 0)) := fun i hi => by
          rw [wst_congr ev f hTH hHT (hkd i hi)]
          have : decide (i ∈ takenL f q) = hasN q (nmI f i) := by
            by_cases h : i ∈ takenL f q
            · rw [decide_eq_true h]
              exact ((List.mem_filter.1 (hTH i h)).2).symm
            · rw [decide_eq_false h]
              exact (hasN_false (fun hm => h (hHT i (List.mem_filter.2 ⟨hi, hasN_iff.2 hm⟩)))).symm
          rw [this]
        constructor
        · intro h i hi; rw [← e i hi]; exact h i hi
        · intro h i hi; rw [e i hi]; exact h i hi
      unfold bestI bestS
      rw [hall, decide_eq_true hA, hN, hmiss, hsum, hlast]
      simp
    · have hsum : ((cntL f (hasL f q R)).sum == (q.length : Int)) = false := by
        rw [cnt_sum f _ (fun i hi => hkd i (hHR i hi))]
        refine beq_false_of_ne (fun e => hA (fun nm hm => ?_))
        have := nodup_back hmn hms (by rw [List.length_map]; omega) nm hm
        obtain ⟨y, hy, rfl⟩ := List.mem_map.1 this
        rw [hfind y (hHR y hy)]; exact hHR y hy
      unfold bestI bestS
      rw [hall, decide_eq_false hA, hsum]
      simp
  · have hN' : namesB q = false := by simpa using hN
    have : (List.range q.length).all (okTk f R q) = false := by
      rw [List.all_eq_false]
      obtain ⟨k, hk, h⟩ := List.all_eq_false.1 hN'
      refine ⟨k, hk, ?_⟩
      unfold okTk
      have h' : okNm q k = false := by simpa using h
      rw [h']; simp
    unfold bestI bestS
    rw [this, hN']
    simp
end Go.Proofs.YthgegghdkoeofaaGreat

namespace Go.Proofs.YthgegghdkoeofaaGreat
set_option linter.unusedVariables false
set_option linter.unusedSimpArgs false
open Go.RowKit

def callA (a : Ap) : Ap := ⟨a.nm, a.kd, a.nd, a.cr, 1⟩
def sendF (f : List Ap) (L : List Int) : List Ap := f.mapIdx fun i a => if (i : Int) ∈ L then callA a else a
theorem sendF_len (f : List Ap) (L : List Int) : (sendF f L).length = f.length := by simp [sendF]
theorem sendF_get (f : List Ap) (L : List Int) (i : Nat) : (sendF f L)[i]? = (f[i]?).map fun a => if (i : Int) ∈ L then callA a else a := by simp [sendF, List.getElem?_mapIdx]
theorem sendF_nil (f : List Ap) : sendF f [] = f := by
  apply List.ext_getElem?
  intro i
  rw [sendF_get]
  cases f[i]? <;> simp
theorem callA_callA (a : Ap) : callA (callA a) = callA a := rfl
theorem sendF_snoc {f : List Ap} {S : List Int} {i : Nat} {a : Ap} (h : (sendF f S)[i]? = some a) : (sendF f S).set i (callA a) = sendF f (S ++ [(i : Int)]) := by
  apply List.ext_getElem?
  intro j
  rw [List.getElem?_set, sendF_get, sendF_get]
  by_cases e : i = j
  · subst e
    have hi := (List.getElem?_eq_some_iff.1 h).1
    rw [if_pos rfl, if_pos hi]
    rw [sendF_get] at h
    cases hf : f[i]? with
    | none => rw [hf] at h; cases h
    | some b =>
      rw [hf] at h
      simp only [Option.map_some, Option.some.injEq] at h ⊢
      have hm : (i : Int) ∈ S ++ [(i : Int)] := by simp
      rw [if_pos hm, ← h]
      split <;> rfl
  · rw [if_neg e]
    cases f[j]? with
    | none => rfl
    | some b =>
      simp only [Option.map_some, Option.some.injEq]
      have : ((j : Int) ∈ S ++ [(i : Int)]) ↔ (j : Int) ∈ S := by
        rw [List.mem_append, List.mem_singleton]
        constructor
        · rintro (h | h)
          · exact h
          · exact absurd (by omega : i = j) e
        · exact .inl
      simp only [this]
theorem put_state {F : List Ap} {i : Nat} {a : Ap} (h : F[i]? = some a) : (F.flatMap Ap.cells).set (i * 5 + 4) (.int .i64 1) = (F.set i (callA a)).flatMap Ap.cells := by
  have hi := (List.getElem?_eq_some_iff.1 h).1
  have ha := (List.getElem?_eq_some_iff.1 h).2
  have hd : F = F.take i ++ (a :: F.drop (i + 1)) := by rw [← ha, ← List.drop_eq_getElem_cons hi, List.take_append_drop]
  have hl : (F.take i).length = i := by rw [List.length_take]; omega
  have h2 : F.set i (callA a) = F.take i ++ (callA a :: F.drop (i + 1)) := by
    conv => lhs; rw [hd]
    rw [List.set_append_right _ _ (by omega), hl, Nat.sub_self]; rfl
  rw [h2]
  conv => lhs; rw [hd]
  rw [List.flatMap_append, List.flatMap_append, List.set_append_right _ _ (by rw [len_flat Ap.cells_len, hl]; omega), len_flat Ap.cells_len, hl]
  have e : i * 5 + 4 - i * 5 = 4 := by omega
  rw [e]; rfl
/-! one rising list for each set -/
theorem strict_eq : ∀ (a b : List Int), a.Pairwise (· < ·) → b.Pairwise (· < ·) → (∀ x, x ∈ a ↔ x ∈ b) → a = b := by
  intro a
  induction a with
  | nil =>
    intro b _ _ h
    cases b with
    | nil => rfl
    | cons y b => exact absurd ((h y).2 (by simp)) (by simp)
  | cons x a ih =>
    intro b ha hb h
    cases b with
    | nil => exact absurd ((h x).1 (by simp)) (by simp)
    | cons y b =>
      obtain ⟨ha1, ha2⟩ := List.pairwise_cons.1 ha
      obtain ⟨hb1, hb2⟩ := List.pairwise_cons.1 hb
      have hxy : x = y := by
        rcases List.mem_cons.1 ((h x).1 (by simp)) with e | e
        · exact e
        · rcases List.mem_cons.1 ((h y).2 (by simp)) with e' | e'
          · exact e'.symm
          · have := hb1 x e; have := ha1 y e'; omega
      subst hxy
      rw [ih b ha2 hb2 (fun z => ?_)]
      constructor
      · intro hz
        rcases List.mem_cons.1 ((h z).1 (by simp [hz])) with e | e
        · have := ha1 z hz; omega
        · exact e
      · intro hz
        rcases List.mem_cons.1 ((h z).2 (by simp [hz])) with e | e
        · have := hb1 z hz; omega
        · exact e
theorem selD_rise (p : Nat → Bool) (n : Nat) : (selD p n).Pairwise (· < ·) := by
  unfold selD
  rw [List.pairwise_map]
  refine List.Pairwise.imp (R := fun a b : Nat => a < b) (fun h => by omega) ?_
  exact List.Pairwise.sublist List.filter_sublist List.pairwise_lt_range
theorem sort_eq {L : List Int} {n : Nat} (hn : L.Nodup) (hm : ∀ y ∈ L, ∃ i : Nat, y = (i : Int) ∧ i < n) : (L.mergeSort fun x y => decide (x ≤ y)) = selD (fun i => decide ((i : Int) ∈ L)) n := by
  have hp := List.mergeSort_perm L (fun x y => decide (x ≤ y))
  have hs := List.pairwise_mergeSort (le := fun x y : Int => decide (x ≤ y)) (fun a b c h1 h2 => by simp at h1 h2 ⊢; omega) (fun a b => by simp; omega) L
  have hnd : (L.mergeSort fun x y => decide (x ≤ y)).Nodup := hp.nodup_iff.2 hn
  refine strict_eq _ _ ?_ (selD_rise _ _) (fun x => ?_)
  · rw [List.nodup_iff_pairwise_ne] at hnd
    refine List.Pairwise.imp ?_ (hs.and hnd)
    rintro a b ⟨h1, h2⟩
    simp at h1; omega
  · rw [hp.mem_iff]
    unfold selD
    rw [List.mem_map]
    constructor
    · intro h
      obtain ⟨i, rfl, hi⟩ := hm x h
      exact ⟨i, List.mem_filter.2 ⟨List.mem_range.2 hi, decide_eq_true h⟩, rfl⟩
    · rintro ⟨i, hi, rfl⟩
      exact of_decide_eq_true (List.mem_filter.1 hi).2
theorem pick_sub_aux (f : List Ap) : ∀ (L : List Int) (st : List Int × List Int), ∃ T, (L.foldl (pickStep f) st).1 = st.1 ++ T ∧ T.Sublist L := by
  intro L
  induction L with
  | nil => intro st; exact ⟨[], by simp, List.Sublist.refl _⟩
  | cons i L ih =>
    intro st
    obtain ⟨T, h1, h2⟩ := ih (pickStep f st i)
    rw [List.foldl_cons, h1]
    unfold pickStep
    split
    · exact ⟨i :: T, by simp, h2.cons_cons i⟩
    · exact ⟨T, rfl, h2.cons i⟩
theorem pick_nodup (f : List Ap) {L : List Int} (need : List Int) (h : L.Nodup) : (pickL f L need).1.Nodup := by
  obtain ⟨T, h1, h2⟩ := pick_sub_aux f L ([], need)
  unfold pickL
  rw [h1]
  simpa using h.sublist h2
end Go.Proofs.YthgegghdkoeofaaGreat

namespace Go.Proofs.YthgegghdkoeofaaGreat
set_option linter.unusedVariables false
set_option linter.unusedSimpArgs false
open Go.RowKit

def chAt (f : List Ap) (ev : List Int) (i : Int) : Ch := match f[i.toNat]? with
  | some a => ⟨a.nm, ev.getD a.nd.toNat 0⟩
  | none => ⟨⟨#[]⟩, 0⟩
theorem chAt_at {f : List Ap} {ev : List Int} {i : Nat} {a : Ap} (h : f[i]? = some a) : chAt f ev (i : Int) = ⟨a.nm, ev.getD a.nd.toNat 0⟩ := by unfold chAt; rw [Int.toNat_natCast, h]
def chL (f : List Ap) (ev L : List Int) : List Ch := L.map (chAt f ev)
theorem chL_len (f : List Ap) (ev L : List Int) : (chL f ev L).length = L.length := by simp [chL]
theorem chL_snoc {f : List Ap} {ev L : List Int} {k : Nat} {y : Int} (h : L[k]? = some y) : chL f ev (L.take (k + 1)) = chL f ev (L.take k) ++ [chAt f ev y] := by unfold chL; rw [take_succ_of h, List.map_append]; rfl
theorem ch_flat (l : List Ch) (c : Ch) : (l ++ [c]).flatMap Ch.cells = l.flatMap Ch.cells ++ [.string c.cn, .int .i64 c.cs] := by rw [List.flatMap_append]; simp [Ch.cells]
theorem gro_cellr {a b : World} {r : Option Nat} (h : a.grownBy b r) {x o : Nat} (hx : x < a.heap.size) (hne : ∀ q, r = some q → x ≠ q) : b.cell? ⟨x, o, none⟩ = a.cell? ⟨x, o, none⟩ := World.cell?_of_block (h.block x hx (fun e => hne x e.symm rfl))
def OwnCh (l : List Ch) (w : World) (e : Ending) (w' : World) : Prop := ∃ x, e = .returned x ∧ w'.ownsRow w.heap.size 44 2 x l.length (l.flatMap Ch.cells) ∧ Below w.heap.size w w'

set_option maxRecDepth 100000 in
set_option maxHeartbeats 4000000 in
theorem dsChoices_c (v : Value) (f : List Ap) (vl : Value) (L : List Int) (vt : Value) (ev : List Int) (w : World) (hlm' : ∀ y ∈ L, ∃ (i : Nat) (a : Ap), y = (i : Int) ∧ f[i]? = some a) (hl12 : L.length ≤ 12) (hnd : ∀ a ∈ f, 0 ≤ a.nd ∧ a.nd ≤ (ev.length : Int) - 1)
    (hf : Rd w v f.length (f.flatMap Ap.cells)) (hvl : RdI w vl L) (hvt : RdI w vt (allT ev f)) :
    Calls Tryz.prog 33 #[v, vl, vt] w (OwnCh (chL f ev L) w) := by
  have HLM := Lib.hid hlm'
  have HND := Lib.hid hnd
  obtain ⟨A, c, rfl, hc, hm, hcell0⟩ := hf
  rw [maxLen_eq] at hm
  have HCELL := Lib.hid hcell0
  obtain ⟨A5, c5, rfl, hc5, hm5, hcell5⟩ := hvl
  rw [maxLen_eq] at hm5
  have HC5 := Lib.hid hcell5
  obtain ⟨A6, c6, rfl, hc6, hm6, hcell6⟩ := hvt
  rw [maxLen_eq] at hm6
  rw [allT_len] at hc6 hcell6 ⊢
  have HC6 := Lib.hid hcell6
  obtain ⟨i0', hi, hz0, hz1, hz2⟩ := info_parts Tryz.infoCh
  clear hcell0 hlm' hcell5 hcell6 hnd
  go_enter Tryz.func33, Tryz.ntmps33
  go_wp2_with fail
  go_loopw [7, 12] (fun vo vi wr => ∃ (k : Nat) (S : List Ch), k ≤ L.length ∧ S.length = k ∧ vi = .int .i64 k ∧ Hid (chL f ev (L.take k) = S) ∧ Hid (wr.ownsRow w.heap.size 44 2 vo k (S.flatMap Ch.cells)) ∧ Hid (Below w.heap.size w wr)) (fun _ vi _ => L.length - (intOf vi).toNat)
  case atStart => exact ⟨0, [], Nat.zero_le _, rfl, rfl, Lib.hid rfl, Lib.hid (World.ownsRow_nil _ _ _ _), Lib.hid (Below.refl _ _)⟩
  case round =>
    obtain ⟨k, S, hk, hSk, rfl, HS, HOW, HBL⟩ := hrel
    obtain ⟨wA, rfl⟩ : ∃ wA : World, wA = wr := ⟨_, rfl⟩
    have hsA := HBL.out.size
    by_cases hlt : k < L.length
    · obtain ⟨b5, off5, rfl, hb5, hcl5⟩ := HC5.out (by omega)
      obtain ⟨y, hy⟩ : ∃ y, L[k]? = some y := ⟨_, List.getElem?_eq_getElem hlt⟩
      obtain ⟨i, a, rfl, ha⟩ := HLM.out y (List.mem_of_getElem? hy)
      have hnn := HND.out _ (List.mem_of_getElem? ha)
      obtain ⟨nm, kd, nd, cr, sv⟩ := a
      dsimp only at hnn
      obtain ⟨nd0, nd1⟩ := hnn
      obtain ⟨p, rfl⟩ := Int.eq_ofNat_of_zero_le nd0
      have hif : i < f.length := (List.getElem?_eq_some_iff.1 ha).1
      obtain ⟨b, off, rfl, hbl, hcell⟩ := HCELL.out (by omega)
      obtain ⟨d0, _, d2, _, _⟩ := ap_at hcell HBL.out hbl ha
      dsimp only at d0 d2
      obtain ⟨b6, off6, rfl, hb6, hcl6⟩ := HC6.out (by omega)
      obtain ⟨t, ht⟩ : ∃ t, ev.getD p 0 = t := ⟨_, rfl⟩
      have htt := allT_get (ev := ev) ha
      dsimp only at htt
      rw [Int.toNat_natCast, ht] at htt
      have co := cell_at hcl5 HBL.out hb5 (ints_get hy)
      have ct := cell_at hcl6 HBL.out hb6 (ints_get htt)
      have HSN : Hid (chL f ev (L.take (k + 1)) = S ++ [⟨nm, t⟩]) := Lib.hid (by
        rw [chL_snoc hy, HS.out, chAt_at ha]; dsimp only; rw [Int.toNat_natCast, ht])
      have i0 : (0 : Int) ≤ (i : Int) := by omega
      have i1 : (i : Int) < (f.length : Int) := by omega
      have p0 : (0 : Int) ≤ (p : Int) := by omega
      have p1 : (p : Int) < (ev.length : Int) := by omega
      clear hcl5 hy ha hcell hcl6 ht htt nd1
      go_wp2_with fail
      have HLT := Lib.hid HOW.out.lt
      go_region_held3 (fun W' => W'.cell? ⟨b, off + i * 5, none⟩ = some (.string nm) ∧ W'.cell? ⟨b, off + i * 5 + 2, none⟩ = some (.int .i64 p) ∧ W'.cell? ⟨b6, off6 + i, none⟩ = some (.int .i64 t)) (first | go_keep | (go_split_ands; refine ⟨?_, ?_, ?_⟩ <;> (rw [gro_cellr hgrow7 (by simp; omega) (fun q e => by have := (HLT.out q e).1; omega)]; first | assumption | (simp only [go_sem]; assumption) | (rw [World.cell?_alloc_lt _ _ _ (by simp; omega)]; assumption)))) (first | (refine step_app_rd _ rfl (.tmp 16) (.tmp 27) 31 rfl w.heap.size 44 i0' _ 2 24 Tryz.underlying31 hi hz0 hz1 hz2 rfl (by decide) _ k (S.flatMap Ch.cells) rfl ((own_dr HOW.out).alloc _) _ 1 [.string nm, .int .i64 t] rfl (rd_new _ rfl (Nat.le_refl _) (by rw [maxLen_eq]; omega)) rfl (by intro u hu; simp at hu; rcases hu with rfl | rfl <;> rfl) (by rw [maxLen_eq]; omega) (by omega) (by simp; omega) ?_; intro v7 w7 hown7 hgrow7 _))
      all_goals
        go_wp2
        refine ⟨⟨k + 1, S ++ [⟨nm, t⟩], by omega, by simp; omega, by go_num, HSN, Lib.hid ?_, Lib.hid (bel_grown (bel_al (bel_dr HBL.out) _) hgrow7 (fun q e => (HOW.out.lt q e).1))⟩, by simp [intOf]; omega⟩
        rw [ch_flat]; exact hown7
    · obtain rfl : k = L.length := by omega
      have hs := HS.out
      rw [List.take_length] at hs
      have HSS := Lib.hid hs
      clear hs
      go_wp2
      go_ret
      rw [HSS.out]
      refine ⟨_, rfl, ?_, HBL.out⟩
      rw [hSk]; exact HOW.out

set_option maxRecDepth 100000 in
set_option maxHeartbeats 4000000 in
theorem choicesOf_c (v : Value) (f : List Ap) (vl : Value) (L : List Int) (vt : Value) (ev : List Int) (w : World) (hlm' : ∀ y ∈ L, ∃ (i : Nat) (a : Ap), y = (i : Int) ∧ f[i]? = some a) (hl12 : L.length ≤ 12) (hnd : ∀ a ∈ f, 0 ≤ a.nd ∧ a.nd ≤ (ev.length : Int) - 1)
    (hf : Rd w v f.length (f.flatMap Ap.cells)) (hvl : RdI w vl L) (hvt : RdI w vt ev) :
    Calls Tryz.prog 27 #[v, vl, vt] w (OwnCh (chL f ev L) w) := by
  have HLM := Lib.hid hlm'
  have HND := Lib.hid hnd
  obtain ⟨A, c, rfl, hc, hm, hcell0⟩ := hf
  rw [maxLen_eq] at hm
  have HCELL := Lib.hid hcell0
  obtain ⟨A5, c5, rfl, hc5, hm5, hcell5⟩ := hvl
  rw [maxLen_eq] at hm5
  have HC5 := Lib.hid hcell5
  obtain ⟨A6, c6, rfl, hc6, hm6, hcell6⟩ := hvt
  rw [maxLen_eq] at hm6
  
  have HC6 := Lib.hid hcell6
  obtain ⟨i0', hi, hz0, hz1, hz2⟩ := info_parts Tryz.infoCh
  clear hcell0 hlm' hcell5 hcell6 hnd
  go_enter Tryz.func27, Tryz.ntmps27
  go_wp2_with fail
  go_loopw [7, 12] (fun vo vi wr => ∃ (k : Nat) (S : List Ch), k ≤ L.length ∧ S.length = k ∧ vi = .int .i64 k ∧ Hid (chL f ev (L.take k) = S) ∧ Hid (wr.ownsRow w.heap.size 44 2 vo k (S.flatMap Ch.cells)) ∧ Hid (Below w.heap.size w wr)) (fun _ vi _ => L.length - (intOf vi).toNat)
  case atStart => exact ⟨0, [], Nat.zero_le _, rfl, rfl, Lib.hid rfl, Lib.hid (World.ownsRow_nil _ _ _ _), Lib.hid (Below.refl _ _)⟩
  case round =>
    obtain ⟨k, S, hk, hSk, rfl, HS, HOW, HBL⟩ := hrel
    obtain ⟨wA, rfl⟩ : ∃ wA : World, wA = wr := ⟨_, rfl⟩
    have hsA := HBL.out.size
    by_cases hlt : k < L.length
    · obtain ⟨b5, off5, rfl, hb5, hcl5⟩ := HC5.out (by omega)
      obtain ⟨y, hy⟩ : ∃ y, L[k]? = some y := ⟨_, List.getElem?_eq_getElem hlt⟩
      obtain ⟨i, a, rfl, ha⟩ := HLM.out y (List.mem_of_getElem? hy)
      have hnn := HND.out _ (List.mem_of_getElem? ha)
      obtain ⟨nm, kd, nd, cr, sv⟩ := a
      dsimp only at hnn
      obtain ⟨nd0, nd1⟩ := hnn
      obtain ⟨p, rfl⟩ := Int.eq_ofNat_of_zero_le nd0
      have hif : i < f.length := (List.getElem?_eq_some_iff.1 ha).1
      obtain ⟨b, off, rfl, hbl, hcell⟩ := HCELL.out (by omega)
      obtain ⟨d0, _, d2, _, _⟩ := ap_at hcell HBL.out hbl ha
      dsimp only at d0 d2
      obtain ⟨b6, off6, rfl, hb6, hcl6⟩ := HC6.out (by omega)
      obtain ⟨t, ht⟩ : ∃ t, ev.getD p 0 = t := ⟨_, rfl⟩
      have htt : ev[p]? = some t := by rw [← ht, List.getD_eq_getElem?_getD, List.getElem?_eq_getElem (show p < ev.length by omega)]; rfl
      have co := cell_at hcl5 HBL.out hb5 (ints_get hy)
      have ct := cell_at hcl6 HBL.out hb6 (ints_get htt)
      have HSN : Hid (chL f ev (L.take (k + 1)) = S ++ [⟨nm, t⟩]) := Lib.hid (by
        rw [chL_snoc hy, HS.out, chAt_at ha]; dsimp only; rw [Int.toNat_natCast, ht])
      have i0 : (0 : Int) ≤ (i : Int) := by omega
      have i1 : (i : Int) < (f.length : Int) := by omega
      have p0 : (0 : Int) ≤ (p : Int) := by omega
      have p1 : (p : Int) < (ev.length : Int) := by omega
      clear hcl5 hy ha hcell hcl6 ht htt nd1
      go_wp2_with fail
      have HLT := Lib.hid HOW.out.lt
      go_region_held3 (fun W' => W'.cell? ⟨b, off + i * 5, none⟩ = some (.string nm) ∧ W'.cell? ⟨b, off + i * 5 + 2, none⟩ = some (.int .i64 p) ∧ W'.cell? ⟨b6, off6 + p, none⟩ = some (.int .i64 t)) (first | go_keep | (go_split_ands; refine ⟨?_, ?_, ?_⟩ <;> (rw [gro_cellr hgrow7 (by simp; omega) (fun q e => by have := (HLT.out q e).1; omega)]; first | assumption | (simp only [go_sem]; assumption) | (rw [World.cell?_alloc_lt _ _ _ (by simp; omega)]; assumption)))) (first | (refine step_app_rd _ rfl (.tmp 16) (.tmp 31) 31 rfl w.heap.size 44 i0' _ 2 24 Tryz.underlying31 hi hz0 hz1 hz2 rfl (by decide) _ k (S.flatMap Ch.cells) rfl ((own_dr HOW.out).alloc _) _ 1 [.string nm, .int .i64 t] rfl (rd_new _ rfl (Nat.le_refl _) (by rw [maxLen_eq]; omega)) rfl (by intro u hu; simp at hu; rcases hu with rfl | rfl <;> rfl) (by rw [maxLen_eq]; omega) (by omega) (by simp; omega) ?_; intro v7 w7 hown7 hgrow7 _))
      all_goals
        go_wp2
        refine ⟨⟨k + 1, S ++ [⟨nm, t⟩], by omega, by simp; omega, by go_num, HSN, Lib.hid ?_, Lib.hid (bel_grown (bel_al (bel_dr HBL.out) _) hgrow7 (fun q e => (HOW.out.lt q e).1))⟩, by simp [intOf]; omega⟩
        rw [ch_flat]; exact hown7
    · obtain rfl : k = L.length := by omega
      have hs := HS.out
      rw [List.take_length] at hs
      have HSS := Lib.hid hs
      clear hs
      go_wp2
      go_ret
      rw [HSS.out]
      refine ⟨_, rfl, ?_, HBL.out⟩
      rw [hSk]; exact HOW.out
end Go.Proofs.YthgegghdkoeofaaGreat

namespace Go.Proofs.YthgegghdkoeofaaGreat
set_option linter.unusedVariables false
set_option linter.unusedSimpArgs false
open Go.RowKit

def OwnChB (r : List Ch × Bool) (w : World) (e : Ending) (w' : World) : Prop := ∃ x, e = .returned (.tuple #[x, .bool r.2]) ∧ w'.ownsRow w.heap.size 44 2 x r.1.length (r.1.flatMap Ch.cells) ∧ Below w.heap.size w w'
theorem dist_len (n : Nat) (l : List St) (src : Nat) : (distT n (arcs l) src).length = n := by unfold distT; rw [iterT_len, startT_len]
def readyTimesV (n : Int) (l : List St) (f : List Ap) (x : Int) : List Ch × Bool :=
  if askD n l f x = true then (chL f (distT n.toNat (arcs l) x.toNat) (readyL (distT n.toNat (arcs l) x.toNat) f), true) else ([], false)
theorem readyTimes_no1 {n : Int} {l : List St} {f : List Ap} {x : Int} (h : askD n l f x = false) : readyTimesV n l f x = ([], false) := by
  unfold readyTimesV; rw [if_neg (by rw [h]; simp)]
theorem readyTimes_yes {n src : Nat} {l : List St} {f : List Ap} (h : askD n l f src = true) : readyTimesV n l f src = (chL f (distT n (arcs l) src) (readyL (distT n (arcs l) src) f), true) := by
  unfold readyTimesV; rw [if_pos h, Int.toNat_natCast, Int.toNat_natCast]
theorem readyTimes_mem {ev : List Int} {f : List Ap} (hfl : goodFl f = true) : (∀ y ∈ (readyL ev f), ∃ (i : Nat) (a : Ap), y = (i : Int) ∧ f[i]? = some a) ∧ (readyL ev f).length ≤ 12 := by
  have hm : ∀ y ∈ readyL ev f, ∃ (i : Nat) (a : Ap), y = (i : Int) ∧ f[i]? = some a := fun y hy => by
    obtain ⟨i, a, h1, h2, _⟩ := readyL_mem hy
    exact ⟨i, a, h1, h2⟩
  have hl := Nat.le_trans (readyL_len ev f) (goodFl_true hfl).1
  exact ⟨hm, hl⟩
theorem readyTimesV_len (n : Int) (l : List St) (f : List Ap) (x : Int) : (readyTimesV n l f x).1.length ≤ 1000000 := by
  unfold readyTimesV
  split
  · dsimp only
    rw [chL_len]
    have := (readyTimes_mem (ev := distT n.toNat (arcs l) x.toNat) (goodDs_true (askD_true (by rename_i h; exact h)).1).2.1).2
    omega
  · simp

set_option maxRecDepth 100000 in
set_option maxHeartbeats 4000000 in
theorem readyTimesS_c (n : Int) (s : Value) (l : List St) (v : Value) (f : List Ap) (x : Int) (w : World) (hr : Rd w s l.length (l.flatMap St.cells)) (hz : ∀ x ∈ f, x.nm.size ≤ 9223372036854775807) (hf : Rd w v f.length (f.flatMap Ap.cells)) :
    Calls Tryz.prog 11 #[.agg #[.int .i64 n, s], v, .int .i64 x] w (OwnChB (readyTimesV n l f x) w) := by
  have HR := Lib.hid hr
  have HF := Lib.hid hf
  have HZ := Lib.hid hz
  clear hr hz hf
  go_enter Tryz.func11, Tryz.ntmps11
  go_wp2_with fail
  (generalize hw1 : World.alloc w _ = w1; have k0 : w1.cell? ⟨w.heap.size, 0, none⟩ = some (.int .i64 n) := (by subst hw1; simp [go_sem]); have k1 : w1.cell? ⟨w.heap.size, 1, none⟩ = some s := (by subst hw1; simp [go_sem]); have hb0 : Below w.heap.size w w1 := (by subst hw1; exact bel_al (Below.refl _ _) _); have hsz1 : w.heap.size < w1.heap.size := (by subst hw1; simp); clear hw1)
  have HB := Lib.hid hb0
  refine (dsAsked_c n s l _ f x _ (rd_below HR.out HB.out) HZ.out (rd_below HF.out HB.out)).mono ?_; rintro e w2 ⟨rfl, hb1⟩
  have e0 := (hb1.cell (p := ⟨w.heap.size, 0, none⟩) (by show w.heap.size < _; omega)).trans k0
  have e1 := (hb1.cell (p := ⟨w.heap.size, 1, none⟩) (by show w.heap.size < _; omega)).trans k1
  have HB1 := Lib.hid (bel_then HB.out hb1)
  clear k0 k1 hb0 hb1
  by_cases hg : askD n l f x = true
  · have HASK := Lib.hid hg
    rw [hg]
    obtain ⟨hds, hx0, hx1⟩ := askD_true hg
    obtain ⟨hgt, hgf, hnd⟩ := goodDs_true hds
    have hn1 := (goodTown_true hgt).1
    obtain ⟨N, rfl⟩ := Int.eq_ofNat_of_zero_le (show 0 ≤ n by omega)
    obtain ⟨src, rfl⟩ := Int.eq_ofNat_of_zero_le hx0
    have hs : src < N := by omega
    have HGT := Lib.hid hgt
    have HGF := Lib.hid hgf
    have HND := Lib.hid hnd
    have HND2 : Hid (∀ a ∈ f, 0 ≤ a.nd ∧ a.nd ≤ ((distT N (arcs l) src).length : Int) - 1) := Lib.hid (by rw [dist_len]; exact hnd)
    clear hg hds hgt hgf hnd hx0 hx1
    go_wp2_with fail
    have HV := Lib.hid (readyTimes_yes HASK.out)
    clear e0 e1
    refine (dsReady_c N s l _ f src _ HGT.out HGF.out HND.out hs (rd_below HR.out HB1.out) (rd_below HF.out HB1.out)).mono ?_
    rintro e w3 ⟨v5, u5, rfl, hv5, hu5, hb2⟩
    have HB2 := Lib.hid (bel_then HB1.out hb2)
    have HL5 := Lib.hid hv5
    have HU5 := Lib.hid hu5
    obtain ⟨hm, hl⟩ := readyTimes_mem (ev := distT N (arcs l) src) HGF.out
    have HM := Lib.hid hm
    clear hm hb2 hv5 hu5
    go_wp2_with fail
    refine (dsChoices_c _ f _ _ _ (distT N (arcs l) src) _ HM.out hl HND2.out (rd_below HF.out HB2.out) HL5.out HU5.out).mono ?_
    rintro e w4 ⟨xx, rfl, ho, hb3⟩
    have HO := Lib.hid ho
    have HB3 := Lib.hid (bel_then HB2.out hb3)
    clear ho hb3
    go_wp2
    go_ret2
    rw [HV.out]
    exact ⟨_, rfl, own_base HO.out HB2.out.size, HB3.out⟩
  · have hg : askD n l f x = false := by simpa using hg
    have HV := Lib.hid (readyTimes_no1 hg)
    rw [hg]
    go_wp2
    go_ret2
    rw [HV.out]
    exact ⟨_, rfl, World.ownsRow_nil _ _ _ _, HB1.out⟩

set_option maxRecDepth 100000 in
set_option maxHeartbeats 4000000 in
theorem readyTimesI_c (n : Int) (s : Value) (l : List St) (v : Value) (f : List Ap) (x : Int) (w : World) (hr : Rd w s l.length (l.flatMap St.cells)) (hz : ∀ x ∈ f, x.nm.size ≤ 9223372036854775807) (hf : Rd w v f.length (f.flatMap Ap.cells)) :
    Calls Tryz.prog 10 #[.agg #[.int .i64 n, s], v, .int .i64 x] w (OwnChB (readyTimesV n l f x) w) := by
  have HR := Lib.hid hr
  have HF := Lib.hid hf
  have HZ := Lib.hid hz
  clear hr hz hf
  go_enter Tryz.func10, Tryz.ntmps10
  go_wp2_with fail
  (generalize hw1 : World.alloc w _ = w1; have k0 : w1.cell? ⟨w.heap.size, 0, none⟩ = some (.int .i64 n) := (by subst hw1; simp [go_sem]); have k1 : w1.cell? ⟨w.heap.size, 1, none⟩ = some s := (by subst hw1; simp [go_sem]); have hb0 : Below w.heap.size w w1 := (by subst hw1; exact bel_al (Below.refl _ _) _); have hsz1 : w.heap.size < w1.heap.size := (by subst hw1; simp); clear hw1)
  have HB := Lib.hid hb0
  refine (dispatchFits_c n s l _ f w.heap.size _ k0 k1 (rd_below HR.out HB.out) HZ.out (rd_below HF.out HB.out)).mono ?_; rintro e w2 ⟨rfl, hb1⟩
  have e0 := (hb1.cell (p := ⟨w.heap.size, 0, none⟩) (by show w.heap.size < _; omega)).trans k0
  have e1 := (hb1.cell (p := ⟨w.heap.size, 1, none⟩) (by show w.heap.size < _; omega)).trans k1
  have hs1 := hb1.size
  have HB1 := Lib.hid (bel_then HB.out hb1)
  clear k0 k1 hb0 hb1
  by_cases hg : goodDs n l f = true
  · have HDS := Lib.hid hg
    rw [hg]
    obtain ⟨hgt, hgf, hnd⟩ := goodDs_true hg
    obtain ⟨hn1, hn2, _⟩ := goodTown_true hgt
    have HGT := Lib.hid hgt
    have HGF := Lib.hid hgf
    have HND := Lib.hid hnd
    clear hg hgt hgf hnd
    go_wp2_with fail
    refine (has_c n x _ _ hn1 hn2 e0).mono ?_; rintro e w3 ⟨rfl, rfl⟩
    by_cases hx : inB x 0 (n - 1) = true
    · have HASK : Hid (askD n l f x = true) := Lib.hid (by unfold askD; rw [HDS.out, hx]; rfl)
      rw [hx]
      obtain ⟨hx0, hx1⟩ := inB_true hx
      obtain ⟨N, rfl⟩ := Int.eq_ofNat_of_zero_le (show 0 ≤ n by omega)
      obtain ⟨src, rfl⟩ := Int.eq_ofNat_of_zero_le hx0
      have hs : src < N := by omega
      have E0 := Lib.hid e0
      have E1 := Lib.hid e1
      have HND2 : Hid (∀ a ∈ f, 0 ≤ a.nd ∧ a.nd ≤ ((distT N (arcs l) src).length : Int) - 1) := Lib.hid (by rw [dist_len]; exact HND.out)
      clear hx hx0 hx1
      go_wp2_with fail
      have HV := Lib.hid (readyTimes_yes HASK.out)
      refine (readyOrder_c N s l _ f src w.heap.size _ HGT.out HGF.out HND.out hs E0.out E1.out (rd_below HR.out HB1.out) (rd_below HF.out HB1.out)).mono ?_
      rintro e w3 ⟨v5, rfl, ho5, hb2⟩
      have f0 := (hb2.cell (p := ⟨w.heap.size, 0, none⟩) (by show w.heap.size < _; omega)).trans E0.out
      have f1 := (hb2.cell (p := ⟨w.heap.size, 1, none⟩) (by show w.heap.size < _; omega)).trans E1.out
      have HB2 := Lib.hid (bel_then HB1.out hb2)
      have HO5 := Lib.hid ho5
      have F0 := Lib.hid f0
      have F1 := Lib.hid f1
      obtain ⟨hm, hl⟩ := readyTimes_mem (ev := distT N (arcs l) src) HGF.out
      have HM := Lib.hid hm
      clear hm hb2 ho5 e0 e1 f0 f1
      go_wp2_with fail
      refine (timesI_c N s l w.heap.size src _ HGT.out hs F0.out F1.out (rd_below HR.out HB2.out)).mono ?_
      rintro e w4 ⟨v6, rfl, ho6, hb3⟩
      have HB3 := Lib.hid (bel_then HB2.out hb3)
      have HO6 := Lib.hid ho6
      have HL5 := Lib.hid (own_below HO5.out hb3)
      clear hb3 ho6
      go_wp2_with fail
      refine (choicesOf_c _ f _ _ _ (distT N (arcs l) src) _ HM.out hl HND2.out (rd_below HF.out HB3.out) (rdi_own HL5.out) (rdi_own HO6.out)).mono ?_
      rintro e w5 ⟨xx, rfl, ho, hb4⟩
      have HO := Lib.hid ho
      have HB4 := Lib.hid (bel_then HB3.out hb4)
      clear ho hb4
      go_wp2
      go_ret2
      rw [HV.out]
      exact ⟨_, rfl, own_base HO.out HB3.out.size, HB4.out⟩
    · have hx : inB x 0 (n - 1) = false := by simpa using hx
      have HV := Lib.hid (readyTimes_no1 (l := l) (f := f) (x := x) (n := n) (by unfold askD; rw [hx]; simp))
      rw [hx]
      go_wp2
      go_ret2
      rw [HV.out]
      exact ⟨_, rfl, World.ownsRow_nil _ _ _ _, HB1.out⟩
  · have hg : goodDs n l f = false := by simpa using hg
    have HV := Lib.hid (readyTimes_no1 (x := x) (n := n) (l := l) (f := f) (by unfold askD; rw [hg]; rfl))
    rw [hg]
    go_wp2
    go_ret2
    rw [HV.out]
    exact ⟨_, rfl, World.ownsRow_nil _ _ _ _, HB1.out⟩
end Go.Proofs.YthgegghdkoeofaaGreat

namespace Go.Proofs.YthgegghdkoeofaaGreat
set_option linter.unusedVariables false
set_option linter.unusedSimpArgs false
open Go.RowKit

theorem readyL_nodup (ev : List Int) (f : List Ap) : (readyL ev f).Nodup := by
  unfold readyL
  rw [(isort_perm _ _).nodup_iff]
  unfold selD
  exact nodup_map_of _ _ (nodup_filter _ List.nodup_range) (fun (x : Nat) _ (y : Nat) _ e => by have h : (x : Int) = (y : Int) := e; omega)
set_option maxRecDepth 100000 in
set_option maxHeartbeats 4000000 in
theorem equal_c (v u : Value) (s t : List Int) (w : World) (hs : RdI w v s) (ht : RdI w u t) :
    Calls Tryz.prog 72 #[v, u] w fun e w' => e = .returned (.bool (decide (s = t))) ∧ Below w.heap.size w w' := by
  obtain ⟨A, c, rfl, hc, hm, hr⟩ := hs
  obtain ⟨A', c', rfl, hc', hm', hr'⟩ := ht
  rw [maxLen_eq] at hm hm'
  have HS := Lib.hid hr
  have HT := Lib.hid hr'
  clear hr hr'
  by_cases hlen : s.length = t.length
  · have hlb : ((s.length : Int) != t.length) = false := by rw [hlen]; simp
    have HL := Lib.hid hlen
    clear hlen
    go_enter Tryz.func72, Tryz.ntmps72
    go_wp2_with fail
    go_loopw [13] (fun v6 wr => ∃ k : Nat, k ≤ s.length ∧ v6 = .int .i64 k ∧ Hid (s.take k = t.take k) ∧ Hid (Below w.heap.size w wr)) (fun v6 _ => s.length - (intOf v6).toNat)
    case atStart => exact ⟨0, Nat.zero_le _, rfl, Lib.hid rfl, Lib.hid (Below.refl _ _)⟩
    case round =>
      obtain ⟨k, hk, rfl, HE, HB⟩ := hrel
      have i0 : (0 : Int) ≤ (k : Int) := by omega
      by_cases hlt : k < s.length
      · have hlt2 : k < t.length := by have := HL.out; omega
        obtain ⟨b, off, rfl, hbl, hcell⟩ := HS.out (by omega)
        obtain ⟨b', off', rfl, hbl', hcell'⟩ := HT.out (by omega)
        obtain ⟨x, hx⟩ : ∃ x, s[k]? = some x := ⟨_, List.getElem?_eq_getElem hlt⟩
        obtain ⟨y, hy⟩ : ∃ y, t[k]? = some y := ⟨_, List.getElem?_eq_getElem hlt2⟩
        have c0 := cell_at hcell HB.out hbl (ints_get hx)
        have d0 := cell_at hcell' HB.out hbl' (ints_get hy)
        have i1 : (k : Int) < (s.length : Int) := by omega
        have i2 : (k : Int) < (t.length : Int) := by omega
        have HX := Lib.hid hx
        have HY := Lib.hid hy
        clear hcell hcell' hx hy
        by_cases hxy : x = y
        · have hb : (x != y) = false := by rw [hxy]; simp
          have HN : Hid (s.take (k + 1) = t.take (k + 1)) := Lib.hid (by rw [take_succ_of HX.out, take_succ_of HY.out, HE.out, hxy])
          clear hxy
          go_wp2_with fail
          go_quiet (fail)
          go_wp2
          exact ⟨⟨k + 1, by omega, by go_num, HN, Lib.hid (below_drewN HB.out _)⟩, by simp [intOf]; omega⟩
        · have hb : (x != y) = true := by simp [hxy]
          have HN : Hid (s ≠ t) := Lib.hid (fun e => by
            have h1 := HX.out
            rw [e, HY.out] at h1
            exact hxy (Option.some.inj h1).symm)
          clear hxy
          go_wp2_with fail
          go_quiet (fail)
          go_wp2
          go_ret
          rw [decide_eq_false HN.out]
          exact ⟨rfl, below_drewN HB.out _⟩
      · obtain rfl : k = s.length := by omega
        go_wp2
        go_ret
        have e := HE.out
        rw [List.take_of_length_le (by omega), List.take_of_length_le (by have := HL.out; omega)] at e
        rw [decide_eq_true e]
        exact ⟨rfl, HB.out⟩
  · have hlb : ((s.length : Int) != t.length) = true := by simp; omega
    have HNE : Hid (s ≠ t) := Lib.hid (fun e => hlen (by rw [e]))
    clear hlen
    go_enter Tryz.func72, Tryz.ntmps72
    go_wp2
    go_ret
    rw [decide_eq_false HNE.out]
    exact ⟨rfl, Below.refl _ _⟩
set_option maxRecDepth 100000 in
set_option maxHeartbeats 1000000 in
theorem dsHas_c (v : Value) (q : List ByteArray) (nm : ByteArray) (w : World) (hr : RdS w v q) :
    Calls Tryz.prog 47 #[v, .string nm] w fun e w' => e = .returned (.bool (hasN q nm)) ∧ w = w' := by
  obtain ⟨A, c, rfl, hc, hm, hr⟩ := hr
  rw [maxLen_eq] at hm
  go_enter Tryz.func47, Tryz.ntmps47
  go_wp2_with fail
  go_loopw [9] (fun i wr => ∃ k : Nat, k ≤ q.length ∧ i = .int .i64 k ∧ Hid (nm ∉ q.take k) ∧ wr = w) (fun i _ => q.length - (intOf i).toNat)
  case atStart => exact ⟨0, Nat.zero_le _, rfl, Lib.hid (by simp), rfl⟩
  case round =>
    obtain ⟨k, hk, rfl, HA, rfl⟩ := hrel
    by_cases hlt : k < q.length
    · obtain ⟨b, off, rfl, hbl, hcell⟩ := hr (by omega)
      obtain ⟨t, hx⟩ : ∃ t, q[k]? = some t := ⟨_, List.getElem?_eq_getElem hlt⟩
      have c0 := hcell k _ (strs_get hx)
      have HX := Lib.hid hx
      clear hx hcell hr
      by_cases hpy : t = nm
      · have e0 : (t.toList == nm.toList) = true := by rw [hpy]; simp
        have HF : Hid (hasN q nm = true) := Lib.hid (hasN_iff.2 (hpy ▸ List.mem_of_getElem? HX.out))
        clear hpy
        go_wp2
        go_ret
        rw [HF.out]
        exact ⟨rfl, (by first | rfl | trivial)⟩
      · have e0 : (t.toList == nm.toList) = false := by rw [beq_nm]; exact decide_eq_false hpy
        have HN : Hid (nm ∉ q.take (k + 1)) := Lib.hid (by
          rw [take_succ_of HX.out]
          intro h
          rcases List.mem_append.1 h with h | h
          · exact HA.out h
          · exact hpy (List.mem_singleton.1 h).symm)
        clear hpy
        go_wp2
        exact ⟨⟨k + 1, by omega, by go_num, HN, (by first | rfl | trivial)⟩, by simp [intOf]; omega⟩
    · obtain rfl : k = q.length := by omega
      have h := HA.out
      rw [List.take_length] at h
      have HF : Hid (hasN q nm = false) := Lib.hid (hasN_false h)
      clear h
      go_wp2
      go_ret
      rw [HF.out]
      exact ⟨rfl, (by first | rfl | trivial)⟩
end Go.Proofs.YthgegghdkoeofaaGreat

namespace Go.Proofs.YthgegghdkoeofaaGreat
set_option linter.unusedVariables false
set_option linter.unusedSimpArgs false
open Go.RowKit

theorem missL_len2 (f : List Ap) : ∀ (L d : List Int), (missL f L d).length = d.length := by
  intro L
  induction L with
  | nil => intro d; rfl
  | cons i L ih => intro d; unfold missL; rw [List.foldl_cons]; have := ih (missStep f d i); unfold missL at this; rw [this]; unfold missStep; simp
theorem own_far {w : World} {base : Nat} {e : TypeId} {sz : Nat} {v : Value} {n : Nat} {xs : List Value} (h : w.ownsRow base e sz v n xs) {g : Nat} (hne : ∀ q, v.ownBlock = some q → q ≠ g) (j : Nat) (u : Value) : (w.setCell ⟨g, j, none⟩ u).ownsRow base e sz v n xs :=
  h.kept (only_setCell (World.grownBy.refl w (some g)) j u) (by
    cases hv : v.ownBlock with
    | none => exact .inl rfl
    | some q => exact .inr (fun hq => hne q hv (Option.some.inj hq)))
def isBestChoiceV (n : Int) (l : List St) (f : List Ap) (x : Int) (need : List Int) (q : List ByteArray) : Bool × Bool :=
  if askD n l f x = true ∧ needB need = true then (bestS (distT n.toNat (arcs l) x.toNat) f (readyL (distT n.toNat (arcs l) x.toNat) f) need (pickL f (readyL (distT n.toNat (arcs l) x.toNat) f) need).2 q, true) else (false, false)
theorem best_no1 {n : Int} {l : List St} {f : List Ap} {x : Int} {need : List Int} {q : List ByteArray} (h : askD n l f x = false) : isBestChoiceV n l f x need q = (false, false) := by unfold isBestChoiceV; rw [if_neg (by rw [h]; simp)]
theorem best_no2 {n : Int} {l : List St} {f : List Ap} {x : Int} {need : List Int} {q : List ByteArray} (h : needB need = false) : isBestChoiceV n l f x need q = (false, false) := by unfold isBestChoiceV; rw [if_neg (by rw [h]; simp)]
theorem best_yes {n src : Nat} {l : List St} {f : List Ap} {need : List Int} {q : List ByteArray} {ev L mis : List Int} (h : askD n l f src = true) (h2 : needB need = true) (hev : distT n (arcs l) src = ev) (hL : readyL ev f = L) (hm : (pickL f L need).2 = mis) :
    isBestChoiceV n l f src need q = (bestS ev f L need mis q, true) := by
  unfold isBestChoiceV; rw [if_pos ⟨h, h2⟩, Int.toNat_natCast, Int.toNat_natCast, hev, hL, hm]
def BestIs (n : Int) (l : List St) (f : List Ap) (x : Int) (need : List Int) (q : List ByteArray) (w : World) (e : Ending) (w' : World) : Prop :=
  e = .returned (.tuple #[.bool (isBestChoiceV n l f x need q).1, .bool (isBestChoiceV n l f x need q).2]) ∧ Below w.heap.size w w'
theorem hasL_yes {f : List Ap} {q : List ByteArray} {L : List Int} {k : Nat} {y : Int} (h : L[k]? = some y) (hy : hasN q (nmI f y) = true) : hasL f q (L.take (k + 1)) = hasL f q (L.take k) ++ [y] := by
  unfold hasL; rw [take_succ_of h, List.filter_append]; simp [hy]
theorem hasL_no {f : List Ap} {q : List ByteArray} {L : List Int} {k : Nat} {y : Int} (h : L[k]? = some y) (hy : hasN q (nmI f y) = false) : hasL f q (L.take (k + 1)) = hasL f q (L.take k) := by
  unfold hasL; rw [take_succ_of h, List.filter_append]; simp [hy]
theorem cnt_snoc (f : List Ap) (H : List Int) (y : Int) : cntL f (H ++ [y]) = cntStep f (cntL f H) y := by unfold cntL; rw [List.foldl_append]; rfl
theorem wst_snoc (ev : List Int) (f : List Ap) (H : List Int) (y : Int) : wstL ev f (H ++ [y]) = wstStep ev f (wstL ev f H) y := by unfold wstL; rw [List.foldl_append]; rfl
theorem hasL_len (f : List Ap) (q : List ByteArray) (L : List Int) : (hasL f q L).length ≤ L.length := List.length_filter_le _ _
theorem best_noN {ev : List Int} {f : List Ap} {R need mis : List Int} {q : List ByteArray} (h : namesB q = false) : bestS ev f R need mis q = false := by unfold bestS; rw [h]; rfl
theorem best_noK {ev : List Int} {f : List Ap} {R need mis : List Int} {q : List ByteArray} {k : Nat} (hk : k < 4) (h : (cntL f (hasL f q R)).getD k 0 ≠ need.getD k 0 - mis.getD k 0) : bestS ev f R need mis q = false := by
  unfold bestS
  have : (List.range 4).all (fun k => (cntL f (hasL f q R)).getD k 0 == need.getD k 0 - mis.getD k 0) = false := List.all_eq_false.2 ⟨k, List.mem_range.2 hk, by simpa using h⟩
  rw [this]; simp
theorem best_noS {ev : List Int} {f : List Ap} {R need mis : List Int} {q : List ByteArray} (h : ((cntL f (hasL f q R)).sum == (q.length : Int)) = false) : bestS ev f R need mis q = false := by unfold bestS; rw [h]; simp
theorem best_noR {ev : List Int} {f : List Ap} {R need mis : List Int} {q : List ByteArray} {i : Int} (hi : i ∈ R) (h : (hasN q (nmI f i) || !decide (rdyKey ev f i < (wstL ev f (hasL f q R)).getD (kdOf f i) 0)) = false) : bestS ev f R need mis q = false := by
  unfold bestS
  have : (R.all fun i => hasN q (nmI f i) || !decide (rdyKey ev f i < (wstL ev f (hasL f q R)).getD (kdOf f i) 0)) = false := List.all_eq_false.2 ⟨i, hi, by rw [h]; simp⟩
  rw [this]; simp
theorem best_all {ev : List Int} {f : List Ap} {R need mis : List Int} {q : List ByteArray} (hN : namesB q = true) (hK : ∀ k, k < 4 → (cntL f (hasL f q R)).getD k 0 = need.getD k 0 - mis.getD k 0) (hS : ((cntL f (hasL f q R)).sum == (q.length : Int)) = true)
    (hR : (R.all fun i => hasN q (nmI f i) || !decide (rdyKey ev f i < (wstL ev f (hasL f q R)).getD (kdOf f i) 0)) = true) : bestS ev f R need mis q = true := by
  unfold bestS
  have : (List.range 4).all (fun k => (cntL f (hasL f q R)).getD k 0 == need.getD k 0 - mis.getD k 0) = true := List.all_eq_true.2 (fun k hk => beq_iff_eq.2 (hK k (List.mem_range.1 hk)))
  rw [hN, this, hS, hR]; rfl
theorem wst_bd {ev : List Int} {f : List Ap} {H : List Int} {c : Int} (hc : -1 ≤ c) (h : ∀ i ∈ H, rdyKey ev f i ≤ c) {k : Nat} (hk : k < 4) : -1 ≤ (wstL ev f H).getD k 0 := by
  have := ((wst_aux ev f H [-1, -1, -1, -1] rfl).2 k hk).1
  have e : ([-1, -1, -1, -1] : List Int).getD k 0 = -1 := by rcases k with _ | _ | _ | _ | k <;> first | rfl | omega
  rw [e] at this; exact this
theorem wst_len (ev : List Int) (f : List Ap) (H : List Int) : (wstL ev f H).length = 4 := (wst_aux ev f H _ rfl).1

set_option maxRecDepth 100000 in
set_option maxHeartbeats 8000000 in
theorem isBestChoiceS_c (n : Int) (s : Value) (l : List St) (v : Value) (f : List Ap) (x : Int) (vn : Value) (need : List Int) (vq : Value) (q : List ByteArray) (w : World) (hr : Rd w s l.length (l.flatMap St.cells)) (hz : ∀ x ∈ f, x.nm.size ≤ 9223372036854775807) (hf : Rd w v f.length (f.flatMap Ap.cells)) (hvn : RdI w vn need) (hq : RdS w vq q) :
    Calls Tryz.prog 20 #[.agg #[.int .i64 n, s], v, .int .i64 x, vn, vq] w (BestIs n l f x need q w) := by
  have HR := Lib.hid hr
  have HF := Lib.hid hf
  have HZ := Lib.hid hz
  have HN := Lib.hid hvn
  have HQ := Lib.hid hq
  obtain ⟨i0', hi, hz0, hz1, hz2⟩ := info_parts Tryz.infoInt
  obtain ⟨A, c, rfl, hc, hm, hcell0⟩ := hf
  rw [maxLen_eq] at hm
  have HCELL := Lib.hid hcell0
  obtain ⟨AN, cn, rfl, hcn, hmn, hcelln⟩ := hvn
  rw [maxLen_eq] at hmn
  have HCN := Lib.hid hcelln
  obtain ⟨AQ, cq, rfl, hcq, hmq, hcellq⟩ := hq
  rw [maxLen_eq] at hmq
  clear hr hz hcell0 hcelln hcellq
  go_enter Tryz.func20, Tryz.ntmps20
  go_wp2_with fail
  (generalize hw1 : World.alloc w _ = w1; have k0 : w1.cell? ⟨w.heap.size, 0, none⟩ = some (.int .i64 n) := (by subst hw1; simp [go_sem]); have k1 : w1.cell? ⟨w.heap.size, 1, none⟩ = some s := (by subst hw1; simp [go_sem]); have hb0 : Below w.heap.size w w1 := (by subst hw1; exact bel_al (Below.refl _ _) _); have hsz1 : w.heap.size < w1.heap.size := (by subst hw1; simp); clear hw1)
  have HB := Lib.hid hb0
  refine (dsAsked_c n s l _ f x _ (rd_below HR.out HB.out) HZ.out (rd_below HF.out HB.out)).mono ?_; rintro e w2 ⟨rfl, hb1⟩
  have e0 := (hb1.cell (p := ⟨w.heap.size, 0, none⟩) (by show w.heap.size < _; omega)).trans k0
  have e1 := (hb1.cell (p := ⟨w.heap.size, 1, none⟩) (by show w.heap.size < _; omega)).trans k1
  have hsb := hb1.size
  have HB1 := Lib.hid (bel_then HB.out hb1)
  clear k0 k1 hb0 hb1
  by_cases hg : askD n l f x = true
  · have HASK := Lib.hid hg
    rw [hg]
    obtain ⟨hds, hx0, hx1⟩ := askD_true hg
    obtain ⟨hgt, hgf, hnd⟩ := goodDs_true hds
    have hn1 := (goodTown_true hgt).1
    have hf12 := (goodFl_true hgf).1
    obtain ⟨N, rfl⟩ := Int.eq_ofNat_of_zero_le (show 0 ≤ n by omega)
    obtain ⟨src, rfl⟩ := Int.eq_ofNat_of_zero_le hx0
    have hs : src < N := by omega
    have HGT := Lib.hid hgt
    have HGF := Lib.hid hgf
    have HND := Lib.hid hnd
    have HND2 : Hid (∀ a ∈ f, 0 ≤ a.nd ∧ a.nd ≤ ((distT N (arcs l) src).length : Int) - 1) := Lib.hid (by rw [dist_len]; exact hnd)
    clear hg hds hgt hgf hnd hx0 hx1
    go_wp2_with fail
    refine (tbNeed_c _ need _ (rd_below HN.out HB1.out)).mono ?_; rintro e w3 ⟨rfl, rfl⟩
    by_cases hne : needB need = true
    · have HNE := Lib.hid hne
      rw [hne]
      obtain ⟨hn4, hnb⟩ := needB_true hne
      have HN4 := Lib.hid hn4
      have HNB := Lib.hid hnb
      clear hne hnb hn4
      go_wp2_with fail
      refine (dsReady_c N s l _ f src _ HGT.out HGF.out HND.out hs (rd_below HR.out HB1.out) (rd_below HF.out HB1.out)).mono ?_
      rintro e w3 ⟨v5, u5, rfl, hv5, hu5, hb2⟩
      have HB2 := Lib.hid (bel_then HB1.out hb2)
      have e0 := (hb2.cell (p := ⟨w.heap.size, 0, none⟩) (by show w.heap.size < _; omega)).trans e0
      have e1 := (hb2.cell (p := ⟨w.heap.size, 1, none⟩) (by show w.heap.size < _; omega)).trans e1
      have HV5 := Lib.hid hv5
      have HU5 := Lib.hid hu5
      clear hb2 hv5 hu5
      go_wp2_with fail
      refine (dsPick_c N s l _ f src _ need _ HGT.out HGF.out HND.out hs HNE.out (rd_below HR.out HB2.out) (rd_below HF.out HB2.out) (rd_below HN.out HB2.out)).mono ?_
      rintro e w4 ⟨vp, vm, vt, rfl, _, hom, _, hb3⟩
      have HB3 := Lib.hid (bel_then HB2.out hb3)
      have hv5 := rd_below HV5.out hb3
      have hu5 := rd_below HU5.out hb3
      obtain ⟨hm5, hl5⟩ := readyTimes_mem (ev := distT N (arcs l) src) HGF.out
      obtain ⟨ev, hev⟩ : ∃ ev, distT N (arcs l) src = ev := ⟨_, rfl⟩
      rw [hev] at hv5 hu5 hm5 hl5 HND2 hom
      have HEV := Lib.hid hev
      obtain ⟨L, hL⟩ : ∃ L, readyL ev f = L := ⟨_, rfl⟩
      rw [hL] at hv5 hm5 hl5 hom
      have hml : (pickL f L need).2.length = 4 := by rw [← pick_miss, missL_len2, HN4.out]
      have hmv : ∀ j, j < 4 → 0 ≤ (pickL f L need).2.getD j 0 ∨ True := fun _ _ => .inr trivial
      obtain ⟨mis, hmis⟩ : ∃ mis, (pickL f L need).2 = mis := ⟨_, rfl⟩
      rw [hmis] at hom hml
      rw [hml] at hom
      have HV := Lib.hid (best_yes (q := q) HASK.out HNE.out hev hL hmis)
      have HMIS := Lib.hid hmis
      have HLL := Lib.hid hL
      have HLM := Lib.hid hm5
      have HML := Lib.hid hml
      have HOM := Lib.hid hom
      obtain ⟨gm, cm, rfl, _, hgm, hcm4, _⟩ := own_shape hom (by omega)
      obtain ⟨A5, c5, rfl, hc5, hm5', hcell5⟩ := hv5
      rw [maxLen_eq] at hm5'
      have HC5 := Lib.hid hcell5
      obtain ⟨A6, c6, rfl, hc6, hm6, hcell6⟩ := hu5
      rw [maxLen_eq] at hm6
      rw [allT_len] at hc6 hcell6 ⊢
      have HC6 := Lib.hid hcell6
      clear hm5 hb3 hcell5 hcell6 hev hL hom hmis hml e0 e1 HV5 HU5
      go_wp2_with fail
      refine (dsNames_c _ q _ (rd_below HQ.out HB3.out)).mono ?_; rintro e w5 ⟨rfl, rfl⟩
      by_cases hnam : namesB q = true
      · have HNAM := Lib.hid hnam
        rw [hnam]
        clear hnam
        go_wp2_with (at_make; refine wpList_make_full _ rfl _ _ 28 rfl w4.heap.size 3 i0' _ 1 Tryz.underlying28 hi hz0 hz1 _ _ _ _ 4 rfl rfl rfl rfl (by rw [hz2]; omega) (by rw [maxLen_eq]; omega) (Nat.le_refl _) ?_; intro w1 hown1 hg1; rw [made_ints] at hown1)
        generalize hW : World.alloc w1 _ = wB
        have hs1 := hg1.size
        have hrow2 : wB.ownsRow w4.heap.size 3 1 (.slice (some ⟨w1.heap.size, 0, none⟩) 4 4) 4 (ints [-1, -1, -1, -1]) := by subst hW; exact heap_own (heap_alloc_new w1 _) rfl hs1 (by rw [maxLen_eq]; omega)
        have hrow1 := own_below hown1 (show Below w1.heap.size w1 wB by subst hW; exact bel_al (Below.refl _ _) _)
        have hbB : Below w4.heap.size w4 wB := by subst hW; exact bel_al (bel_grown (Below.refl _ _) hg1 (fun k h => by cases h)) _
        obtain ⟨gw, hgw⟩ : ∃ gw, w1.heap.size = gw := ⟨_, rfl⟩
        have hgwB : gw < wB.heap.size := by subst hW; rw [← hgw]; simp
        have hgc : w4.heap.size < gw := by have h : w4.heap.size < w1.heap.size := (hown1.lt w4.heap.size rfl).2; omega
        rw [hgw] at hrow2 ⊢
        have HW0 := Lib.hid hrow2
        have HC0 := Lib.hid hrow1
        have HBB := Lib.hid hbB
        clear hW hg1 hown1 hrow2 hrow1 hbB hgw hs1
        go_loopw [59] (fun vi wr => ∃ (k : Nat) (H d t : List Int), k ≤ L.length ∧ vi = .int .i64 k ∧ Hid (hasL f q (L.take k) = H) ∧ Hid (cntL f H = d) ∧ Hid (wstL ev f H = t) ∧ Hid (wr.ownsRow w4.heap.size 3 1 (.slice (some ⟨w4.heap.size, 0, none⟩) 4 4) 4 (ints d)) ∧ Hid (wr.ownsRow w4.heap.size 3 1 (.slice (some ⟨gw, 0, none⟩) 4 4) 4 (ints t)) ∧ Hid (Below w4.heap.size w4 wr)) (fun vi _ => L.length - (intOf vi).toNat)
        case atStart => exact ⟨0, [], [0, 0, 0, 0], [-1, -1, -1, -1], Nat.zero_le _, rfl, Lib.hid rfl, Lib.hid rfl, Lib.hid rfl, HC0, HW0, HBB⟩
        case round =>
          obtain ⟨k, H, d, t, hk, rfl, HH, HD, HT, HRC, HRW, HBL⟩ := hrel
          obtain ⟨wA, rfl⟩ : ∃ wA : World, wA = wr := ⟨_, rfl⟩
          have hsA := HBL.out.size
          by_cases hlt : k < L.length
          · obtain ⟨b5, off5, rfl, hb5, hcl5⟩ := HC5.out (by omega)
            obtain ⟨y, hy⟩ : ∃ y, L[k]? = some y := ⟨_, List.getElem?_eq_getElem hlt⟩
            obtain ⟨i, a, rfl, ha⟩ := HLM.out y (List.mem_of_getElem? hy)
            have hnn := HND2.out _ (List.mem_of_getElem? ha)
            have hkey := rdyKey_at (ev := ev) ha
            have hnm := nmI_at ha
            have hkq := kdOf_at ha
            have hgd := goodAp_true ((goodFl_true HGF.out).2 _ (List.mem_of_getElem? ha))
            have htt := allT_get (ev := ev) ha
            obtain ⟨nm, kd, nd, cr, sv⟩ := a
            dsimp only at hnn hkey hnm hkq hgd htt
            obtain ⟨_, hkd0, hkd3, _, _, _⟩ := hgd
            obtain ⟨kq, rfl⟩ := Int.eq_ofNat_of_zero_le hkd0
            rw [Int.toNat_natCast] at hkq
            have hif : i < f.length := (List.getElem?_eq_some_iff.1 ha).1
            obtain ⟨b, off, rfl, hbl, hcell⟩ := HCELL.out (by omega)
            obtain ⟨d0, d1, _, _, _⟩ := ap_at hcell (bel_then HB3.out HBL.out) hbl ha
            dsimp only at d0 d1
            obtain ⟨b6, off6, rfl, hb6, hcl6⟩ := HC6.out (by omega)
            obtain ⟨tm, htm⟩ : ∃ tm, ev.getD nd.toNat 0 = tm := ⟨_, rfl⟩
            rw [htm] at htt hkey
            have co := cell_at hcl5 HBL.out hb5 (ints_get hy)
            have ct := cell_at hcl6 HBL.out hb6 (ints_get htt)
            have i0 : (0 : Int) ≤ (i : Int) := by omega
            have i1 : (i : Int) < (f.length : Int) := by omega
            have q0 : (0 : Int) ≤ (kq : Int) := by omega
            have q4 : (kq : Int) < 4 := by omega
            have hq4 : kq < 4 := by omega
            have hH12 : H.length ≤ 12 := by have h1 := hasL_len f q (L.take k); rw [HH.out] at h1; have h2 : (L.take k).length ≤ L.length := by simp; omega
                                            omega
            have hcv := cnt_get f H hq4
            rw [HD.out] at hcv
            have hcf := List.length_filter_le (fun i => kdOf f i == kq) H
            obtain ⟨cv, hcvd⟩ : ∃ cv, d.getD kq 0 = cv := ⟨_, rfl⟩
            obtain ⟨wv, hwvd⟩ : ∃ wv, t.getD kq 0 = wv := ⟨_, rfl⟩
            have cc := own_cell HRC.out hq4
            have cw := own_cell HRW.out hq4
            rw [hcvd] at cc hcv
            rw [hwvd] at cw
            have fc := HRC.out.frozenAt kq
            have fw := HRW.out.frozenAt kq
            have hcv0 : 0 ≤ cv ∧ cv ≤ 12 := by omega
            have HKEY := Lib.hid hkey
            have HKQ := Lib.hid hkq
            have HY := Lib.hid hy
            have HNM := Lib.hid hnm
            have HCV := Lib.hid hcvd
            have HWV := Lib.hid hwvd
            clear hcl5 hy ha hcell hcl6 htt hkey hnm hkq hnn hcv hcvd hwvd hkd3 htm hcf
            go_wp2_with fail
            refine (dsHas_c _ q nm _ (rd_below HQ.out (bel_then HB3.out HBL.out))).mono ?_; rintro e w6 ⟨rfl, rfl⟩
            by_cases hh : hasN q nm = true
            · rw [hh]
              have HH2 : Hid (hasL f q (L.take (k + 1)) = H ++ [(i : Int)]) := Lib.hid (by rw [hasL_yes HY.out (by rw [HNM.out]; exact hh), HH.out])
              have HD2 : Hid (cntL f (H ++ [(i : Int)]) = d.set kq (cv + 1)) := Lib.hid (by rw [cnt_snoc, HD.out]; unfold cntStep; rw [HKQ.out, HCV.out])
              have HT2 : Hid (wstL ev f (H ++ [(i : Int)]) = t.set kq (maxI wv tm)) := Lib.hid (by rw [wst_snoc, HT.out]; unfold wstStep; rw [HKQ.out, HWV.out, HKEY.out, maxI_eq])
              have s3 : IntKind.i64.wrap (cv + 1) = cv + 1 := IntWalk.i64_in _ (by omega)
              have hne2 : gw ≠ w4.heap.size := by omega
              clear hh
              go_wp2_with fail
              generalize hWc : World.setCell wA _ _ = wC
              have hRC2 : wC.ownsRow w4.heap.size 3 1 (.slice (some ⟨w4.heap.size, 0, none⟩) 4 4) 4 (ints (d.set kq (cv + 1))) := by subst hWc; exact own_setI HRC.out kq (cv + 1)
              have hRW2 : wC.ownsRow w4.heap.size 3 1 (.slice (some ⟨gw, 0, none⟩) 4 4) 4 (ints t) := by subst hWc; exact own_far HRW.out (fun q' e => by have h : gw = q' := Option.some.inj e; omega) _ _
              have hBC : Below w4.heap.size w4 wC := by subst hWc; exact Below.setCell HBL.out (Nat.le_refl _) _
              have cw2 := own_cell hRW2 hq4
              rw [HWV.out] at cw2
              have fw2 := hRW2.frozenAt kq
              have d1' := (hBC.cell (p := ⟨b6, off6 + i, none⟩) hb6).trans ((HBL.out.cell (p := ⟨b6, off6 + i, none⟩) hb6).symm.trans ct)
              have HRC2 := Lib.hid hRC2
              have HRW2 := Lib.hid hRW2
              have HBC := Lib.hid hBC
              clear hWc hRC2 hRW2 hBC cc cw fc fw ct d0 d1 co s3
              go_region_with ((go_at_call 48; refine (l1Most_c _ _ _).mono ?_; rintro e w' ⟨rfl, rfl⟩))
              all_goals
                go_wp2
                exact ⟨⟨k + 1, H ++ [(i : Int)], _, _, by omega, by go_num, HH2, HD2, HT2, Lib.hid (own_far (own_dr HRC2.out) (fun q' e => by have h : w4.heap.size = q' := Option.some.inj e; omega) _ _), Lib.hid (own_setI (own_dr HRW2.out) kq (maxI wv tm)), Lib.hid (Below.setCell (bel_dr HBC.out) (by show w4.heap.size ≤ gw; omega) _)⟩, by simp [intOf]; omega⟩
            · have hh : hasN q nm = false := by simpa using hh
              rw [hh]
              have HH2 : Hid (hasL f q (L.take (k + 1)) = H) := Lib.hid (by rw [hasL_no HY.out (by rw [HNM.out]; exact hh), HH.out])
              go_wp2
              exact ⟨⟨k + 1, H, d, t, by omega, by go_num, HH2, HD, HT, HRC, HRW, HBL⟩, by simp [intOf]; omega⟩
          · obtain rfl : k = L.length := by omega
            have hhh := HH.out
            rw [List.take_length] at hhh
            subst hhh
            have hH12 : (hasL f q L).length ≤ 12 := by have := hasL_len f q L; omega
            have hdl := cnt_len f (hasL f q L)
            rw [HD.out] at hdl
            have HDL := Lib.hid hdl
            have hcb : ∀ j, j < 4 → 0 ≤ d.getD j 0 ∧ d.getD j 0 ≤ 12 := fun j hj => by
              have h1 := cnt_get f (hasL f q L) hj
              rw [HD.out] at h1
              have h2 := List.length_filter_le (fun i => kdOf f i == j) (hasL f q L)
              omega
            have HCB := Lib.hid hcb
            have hnbv : ∀ j, j < 4 → 0 ≤ need.getD j 0 ∧ need.getD j 0 ≤ 6 := fun j _ => ⟨getD_ge need 0 (by omega) (fun y hy => (HNB.out y hy).1) j, getD_le need 6 (by omega) (fun y hy => (HNB.out y hy).2) j⟩
            have hmbv : ∀ j, j < 4 → -12 ≤ mis.getD j 0 ∧ mis.getD j 0 ≤ 6 := fun j hj => by
              have h1 := (miss_aux f (pickL f L need).1 need HN4.out).2 j hj
              have h2 : missL f (pickL f L need).1 need = mis := by rw [pick_miss, HMIS.out]
              unfold missL at h2
              rw [h2] at h1
              have h3 := List.length_filter_le (fun i => kdOf f i == j) (pickL f L need).1
              have h4 := (pick_mem f (fun _ => True) L need (fun _ _ => trivial)).2
              have h5 := hnbv j hj
              omega
            have HNV := Lib.hid hnbv
            have HMV := Lib.hid hmbv
            clear hdl hcb hnbv hmbv
            go_wp2_with fail
            go_loopw [96] (fun vi wr => ∃ (j p : Nat), j ≤ 4 ∧ vi = .int .i64 j ∧ Hid (∀ k, k < j → d.getD k 0 = need.getD k 0 - mis.getD k 0) ∧ wr = wA.drewN p) (fun vi _ => 4 - (intOf vi).toNat)
            case atStart => exact ⟨0, 0, by omega, rfl, Lib.hid (fun k h => absurd h (by omega)), rfl⟩
            case round =>
              obtain ⟨j, p, hj, rfl, HE, rfl⟩ := hrel
              have HBJ := Lib.hid (below_drewN HBL.out p)
              have HRCJ := Lib.hid (own_drewN HRC.out p)
              have HRWJ := Lib.hid (own_drewN HRW.out p)
              obtain ⟨wJ, hwJ⟩ : ∃ wJ, wA.drewN p = wJ := ⟨_, rfl⟩
              by_cases hj4 : j < 4
              · obtain ⟨bn, on, rfl, hbn, hcln⟩ := HCN.out (by have := HN4.out; omega)
                have hnx : (ints need)[j]? = some (.int .i64 (need.getD j 0)) := by
                  have : need[j]? = some (need.getD j 0) := by rw [List.getD_eq_getElem?_getD, List.getElem?_eq_getElem (show j < need.length by have := HN4.out; omega)]; rfl
                  exact ints_get this
                have cn0 := cell_at hcln (bel_then HB3.out HBJ.out) hbn hnx
                have cm0 := (HBJ.out.cell (p := ⟨gm, j, none⟩) hgm).trans (own_cell HOM.out hj4)
                have cc0 := own_cell HRCJ.out hj4
                have hc12 := HCB.out j hj4
                have hn6 := HNV.out j hj4
                have hm6' := HMV.out j hj4
                obtain ⟨cv, hcv⟩ : ∃ cv, d.getD j 0 = cv := ⟨_, rfl⟩
                obtain ⟨nv, hnv⟩ : ∃ nv, need.getD j 0 = nv := ⟨_, rfl⟩
                obtain ⟨mv, hmv⟩ : ∃ mv, mis.getD j 0 = mv := ⟨_, rfl⟩
                rw [hcv] at cc0 hc12
                rw [hnv] at cn0 hn6
                rw [hmv] at cm0 hm6'
                have HCV := Lib.hid hcv
                have HNVV := Lib.hid hnv
                have HMVV := Lib.hid hmv
                have j0 : (0 : Int) ≤ (j : Int) := by omega
                have j1 : (j : Int) < 4 := by omega
                have j2 : (j : Int) < (need.length : Int) := by have := HN4.out; omega
                have s4 : IntKind.i64.wrap (nv - mv) = nv - mv := IntWalk.i64_in _ (by omega)
                clear hcln hnx hcv hnv hmv
                by_cases heq : cv = nv - mv
                · have hb : (cv != nv - mv) = false := by rw [heq]; simp
                  have HE2 : Hid (∀ k, k < j + 1 → d.getD k 0 = need.getD k 0 - mis.getD k 0) := Lib.hid (fun k hk => by
                    rcases Nat.lt_or_ge k j with h | h
                    · exact HE.out k h
                    · obtain rfl : k = j := by omega
                      rw [HCV.out, HNVV.out, HMVV.out]; exact heq)
                  clear heq
                  rw [hwJ] at cc0 cn0 cm0 ⊢
                  go_wp2_with fail
                  go_quiet (fail)
                  go_wp2
                  refine ⟨⟨j + 1, p + nq, by omega, by go_num, HE2, ?_⟩, by simp [intOf]; omega⟩
                  rw [← hwJ, World.drewN_drewN]
                · have hb : (cv != nv - mv) = true := by simp [heq]
                  have HNO : Hid (bestS ev f L need mis q = false) := Lib.hid (best_noK hj4 (by rw [HD.out, HCV.out, HNVV.out, HMVV.out]; exact heq))
                  clear heq
                  rw [hwJ] at cc0 cn0 cm0 ⊢
                  go_wp2_with fail
                  go_quiet (fail)
                  go_wp2
                  go_ret2
                  unfold BestIs
                  rw [HV.out, HNO.out]
                  refine ⟨rfl, below_drewN ?_ _⟩
                  rw [← hwJ]
                  exact bel_then HB3.out HBJ.out
              · obtain rfl : j = 4 := by omega
                have hd4 := sum4 HDL.out
                have c0 := own_cell HRCJ.out (show 0 < 4 by omega)
                have c1 := own_cell HRCJ.out (show 1 < 4 by omega)
                have c2 := own_cell HRCJ.out (show 2 < 4 by omega)
                have c3 := own_cell HRCJ.out (show 3 < 4 by omega)
                have r0 := HCB.out 0 (by omega)
                have r1 := HCB.out 1 (by omega)
                have r2 := HCB.out 2 (by omega)
                have r3 := HCB.out 3 (by omega)
                obtain ⟨a0, ha0⟩ : ∃ a, d.getD 0 0 = a := ⟨_, rfl⟩
                obtain ⟨a1, ha1⟩ : ∃ a, d.getD 1 0 = a := ⟨_, rfl⟩
                obtain ⟨a2, ha2⟩ : ∃ a, d.getD 2 0 = a := ⟨_, rfl⟩
                obtain ⟨a3, ha3⟩ : ∃ a, d.getD 3 0 = a := ⟨_, rfl⟩
                rw [ha0] at c0 r0 hd4
                rw [ha1] at c1 r1 hd4
                rw [ha2] at c2 r2 hd4
                rw [ha3] at c3 r3 hd4
                have s1 : IntKind.i64.wrap (a0 + a1) = a0 + a1 := IntWalk.i64_in _ (by omega)
                have s2 : IntKind.i64.wrap (a0 + a1 + a2) = a0 + a1 + a2 := IntWalk.i64_in _ (by omega)
                have s3 : IntKind.i64.wrap (a0 + a1 + a2 + a3) = a0 + a1 + a2 + a3 := IntWalk.i64_in _ (by omega)
                have HSUM := Lib.hid hd4
                clear ha0 ha1 ha2 ha3 hd4
                by_cases hsum : a0 + a1 + a2 + a3 = (q.length : Int)
                · have hb : (a0 + a1 + a2 + a3 != (q.length : Int)) = false := by rw [hsum]; simp
                  have HSS : Hid (((cntL f (hasL f q L)).sum == (q.length : Int)) = true) := Lib.hid (by rw [HD.out, HSUM.out]; exact beq_iff_eq.2 hsum)
                  clear hsum
                  rw [hwJ] at c0 c1 c2 c3 ⊢
                  go_wp2_with fail
                  go_quiet (fail)
                  clear c0 c1 c2 c3 s1 s2 s3 hb
                  rw [← hwJ, World.drewN_drewN]
                  have HBJ := Lib.hid (below_drewN HBL.out (p + nq))
                  have HRWJ := Lib.hid (own_drewN HRW.out (p + nq))
                  clear hwJ
                  generalize wA.drewN (p + nq) = wK at HBJ HRWJ ⊢
                  go_wp2_with fail
                  go_loopw [133] (fun vi wr => ∃ (k p : Nat), k ≤ L.length ∧ vi = .int .i64 k ∧ Hid (((L.take k).all fun i => hasN q (nmI f i) || !decide (rdyKey ev f i < t.getD (kdOf f i) 0)) = true) ∧ wr = wK.drewN p) (fun vi _ => L.length - (intOf vi).toNat)
                  case atStart => exact ⟨0, 0, by omega, rfl, Lib.hid rfl, rfl⟩
                  case round =>
                    obtain ⟨k, p2, hk2, rfl, HAL, rfl⟩ := hrel
                    have HBP := Lib.hid (below_drewN HBJ.out p2)
                    have HRWP := Lib.hid (own_drewN HRWJ.out p2)
                    obtain ⟨wP, hwP⟩ : ∃ wP, wK.drewN p2 = wP := ⟨_, rfl⟩
                    rw [hwP] at HBP HRWP
                    by_cases hlt2 : k < L.length
                    · obtain ⟨b5, off5, rfl, hb5, hcl5⟩ := HC5.out (by omega)
                      obtain ⟨y, hy⟩ : ∃ y, L[k]? = some y := ⟨_, List.getElem?_eq_getElem hlt2⟩
                      have HMEM := Lib.hid (List.mem_of_getElem? hy)
                      obtain ⟨i, a, rfl, ha⟩ := HLM.out y (List.mem_of_getElem? hy)
                      have hkey := rdyKey_at (ev := ev) ha
                      have hnm := nmI_at ha
                      have hkq := kdOf_at ha
                      have hgd := goodAp_true ((goodFl_true HGF.out).2 _ (List.mem_of_getElem? ha))
                      have htt := allT_get (ev := ev) ha
                      obtain ⟨nm, kd, nd, cr, sv⟩ := a
                      dsimp only at hkey hnm hkq hgd htt
                      obtain ⟨_, hkd0, hkd3, _, _, _⟩ := hgd
                      obtain ⟨kq, rfl⟩ := Int.eq_ofNat_of_zero_le hkd0
                      rw [Int.toNat_natCast] at hkq
                      have hif : i < f.length := (List.getElem?_eq_some_iff.1 ha).1
                      obtain ⟨b, off, rfl, hbl, hcell⟩ := HCELL.out (by omega)
                      obtain ⟨d0, d1, _, _, _⟩ := ap_at hcell (bel_then HB3.out HBP.out) hbl ha
                      dsimp only at d0 d1
                      obtain ⟨b6, off6, rfl, hb6, hcl6⟩ := HC6.out (by omega)
                      obtain ⟨tm, htm⟩ : ∃ tm, ev.getD nd.toNat 0 = tm := ⟨_, rfl⟩
                      rw [htm] at htt hkey
                      have co := cell_at hcl5 HBP.out hb5 (ints_get hy)
                      have ct := cell_at hcl6 HBP.out hb6 (ints_get htt)
                      have i0 : (0 : Int) ≤ (i : Int) := by omega
                      have i1 : (i : Int) < (f.length : Int) := by omega
                      have q0 : (0 : Int) ≤ (kq : Int) := by omega
                      have q4 : (kq : Int) < 4 := by omega
                      have hq4 : kq < 4 := by omega
                      have cw := own_cell HRWP.out hq4
                      obtain ⟨wv, hwvd⟩ : ∃ wv, t.getD kq 0 = wv := ⟨_, rfl⟩
                      rw [hwvd] at cw
                      have HSN : Hid (((L.take (k + 1)).all fun i => hasN q (nmI f i) || !decide (rdyKey ev f i < t.getD (kdOf f i) 0)) = (hasN q nm || !decide (tm < wv))) := Lib.hid (by
                        rw [take_succ_of hy, List.all_append, HAL.out]
                        simp only [List.all_cons, List.all_nil, Bool.true_and, Bool.and_true]
                        rw [hnm, hkey, hkq, hwvd])
                      have HNO : Hid ((hasN q nm || !decide (tm < wv)) = false → bestS ev f L need mis q = false) := Lib.hid (fun h => best_noR HMEM.out (by rw [HT.out, hnm, hkey, hkq, hwvd]; exact h))
                      clear hcl5 hy ha hcell hcl6 htt hkey hnm hkq hwvd hkd3 htm
                      by_cases hh : hasN q nm = true
                      · have HHH := Lib.hid hh
                        clear hh
                        rw [hwP]
                        go_wp2_with fail
                        go_quiet ((go_at_call 47; exact Calls.quiet_of_same ((dsHas_c _ q nm _ (rd_below HQ.out (below_drewN (bel_then HB3.out HBP.out) _))).mono fun _ _ h => ⟨h.1.trans (by rw [HHH.out]), h.2.symm⟩)))
                        go_wp2
                        refine ⟨⟨_, _, _, _, _, _, _, _, _, _, _, _, _, _, _, _, _, _, _, _, _, _, _, _, _, _, _, _, _, _, _, ?_, rfl⟩, by simp [intOf]; omega⟩
                        refine ⟨k + 1, p2 + nq, by omega, by go_num, Lib.hid (by rw [HSN.out, HHH.out]; rfl), ?_⟩
                        rw [← hwP, World.drewN_drewN]
                      · have HHH : Hid (hasN q nm = false) := Lib.hid (by simpa using hh)
                        clear hh
                        by_cases hlw : tm < wv
                        · have HN2 := Lib.hid (HNO.out (by rw [HHH.out, decide_eq_true hlw]; rfl))
                          rw [hwP]
                          go_wp2_with fail
                          go_quiet ((go_at_call 47; exact Calls.quiet_of_same ((dsHas_c _ q nm _ (rd_below HQ.out (below_drewN (bel_then HB3.out HBP.out) _))).mono fun _ _ h => ⟨h.1.trans (by rw [HHH.out]), h.2.symm⟩)))
                          go_wp2
                          go_ret2
                          unfold BestIs
                          rw [HV.out, HN2.out]
                          exact ⟨rfl, below_drewN (bel_then HB3.out HBP.out) _⟩
                        · have hlw2 : wv ≤ tm := by omega
                          have HY2 : Hid ((hasN q nm || !decide (tm < wv)) = true) := Lib.hid (by rw [decide_eq_false hlw]; simp)
                          clear hlw
                          rw [hwP]
                          go_wp2_with fail
                          go_quiet ((go_at_call 47; exact Calls.quiet_of_same ((dsHas_c _ q nm _ (rd_below HQ.out (below_drewN (bel_then HB3.out HBP.out) _))).mono fun _ _ h => ⟨h.1.trans (by rw [HHH.out]), h.2.symm⟩)))
                          go_wp2
                          refine ⟨⟨_, _, _, _, _, _, _, _, _, _, _, _, _, _, _, _, _, _, _, _, _, _, _, _, _, _, _, _, _, _, _, ?_, rfl⟩, by simp [intOf]; omega⟩
                          refine ⟨k + 1, p2 + nq, by omega, by go_num, Lib.hid (by rw [HSN.out]; exact HY2.out), ?_⟩
                          rw [← hwP, World.drewN_drewN]
                    · obtain rfl : k = L.length := by omega
                      have hal := HAL.out
                      rw [List.take_length] at hal
                      have HY := Lib.hid (best_all (ev := ev) HNAM.out (fun k hk => by rw [HD.out]; exact HE.out k hk) HSS.out (by rw [HT.out]; exact hal))
                      clear hal
                      rw [hwP]
                      go_wp2
                      go_ret2
                      unfold BestIs
                      rw [HV.out, HY.out]
                      exact ⟨rfl, bel_then HB3.out HBP.out⟩
                · have hb : (a0 + a1 + a2 + a3 != (q.length : Int)) = true := by simp [hsum]
                  have HNO : Hid (bestS ev f L need mis q = false) := Lib.hid (best_noS (by rw [HD.out, HSUM.out]; exact beq_false_of_ne hsum))
                  clear hsum
                  rw [hwJ] at c0 c1 c2 c3 ⊢
                  go_wp2_with fail
                  go_quiet (fail)
                  go_wp2
                  go_ret2
                  unfold BestIs
                  rw [HV.out, HNO.out]
                  refine ⟨rfl, below_drewN ?_ _⟩
                  rw [← hwJ]
                  exact bel_then HB3.out HBJ.out
      · have hnam : namesB q = false := by simpa using hnam
        have HNO := Lib.hid (best_noN (ev := ev) (f := f) (R := L) (need := need) (mis := mis) hnam)
        rw [hnam]
        go_wp2
        go_ret2
        unfold BestIs
        rw [HV.out, HNO.out]
        exact ⟨rfl, HB3.out⟩
    · have hne : needB need = false := by simpa using hne
      have HV := Lib.hid (best_no2 (n := N) (l := l) (f := f) (x := src) (q := q) hne)
      rw [hne]
      go_wp2
      go_ret2
      unfold BestIs
      rw [HV.out]
      exact ⟨rfl, HB1.out⟩
  · have hg : askD n l f x = false := by simpa using hg
    have HV := Lib.hid (best_no1 (need := need) (q := q) hg)
    rw [hg]
    go_wp2
    go_ret2
    unfold BestIs
    rw [HV.out]
    exact ⟨rfl, HB1.out⟩
end Go.Proofs.YthgegghdkoeofaaGreat

namespace Go.Proofs.YthgegghdkoeofaaGreat
set_option linter.unusedVariables false
set_option linter.unusedSimpArgs false
open Go.RowKit

def chooseForV (n : Int) (l : List St) (f : List Ap) (x : Int) (need : List Int) : List Ch × Bool :=
  if askD n l f x = true ∧ needB need = true then (chL f (distT n.toNat (arcs l) x.toNat) (pickL f (readyL (distT n.toNat (arcs l) x.toNat) f) need).1, true) else ([], false)
theorem chooseFor_no1 {n : Int} {l : List St} {f : List Ap} {x : Int} {need : List Int} (h : askD n l f x = false) : chooseForV n l f x need = ([], false) := by
  unfold chooseForV; rw [if_neg (by rw [h]; simp)]
theorem chooseFor_no2 {n : Int} {l : List St} {f : List Ap} {x : Int} {need : List Int} (h : needB need = false) : chooseForV n l f x need = ([], false) := by
  unfold chooseForV; rw [if_neg (by rw [h]; simp)]
theorem chooseFor_yes {n src : Nat} {l : List St} {f : List Ap} {need : List Int} (h : askD n l f src = true) (h2 : needB need = true) : chooseForV n l f src need = (chL f (distT n (arcs l) src) (pickL f (readyL (distT n (arcs l) src) f) need).1, true) := by
  unfold chooseForV; rw [if_pos ⟨h, h2⟩, Int.toNat_natCast, Int.toNat_natCast]
theorem chooseFor_mem {ev : List Int} {f : List Ap} (hfl : goodFl f = true) {need : List Int} : (∀ y ∈ (pickL f (readyL ev f) need).1, ∃ (i : Nat) (a : Ap), y = (i : Int) ∧ f[i]? = some a) ∧ (pickL f (readyL ev f) need).1.length ≤ 12 := by
  have hm : ∀ y ∈ readyL ev f, ∃ (i : Nat) (a : Ap), y = (i : Int) ∧ f[i]? = some a := fun y hy => by
    obtain ⟨i, a, h1, h2, _⟩ := readyL_mem hy
    exact ⟨i, a, h1, h2⟩
  have hl := Nat.le_trans (readyL_len ev f) (goodFl_true hfl).1
  exact ⟨(pick_mem f _ _ need hm).1, Nat.le_trans (pick_mem f _ _ need hm).2 hl⟩
theorem chooseForV_len (n : Int) (l : List St) (f : List Ap) (x : Int) (need : List Int) : (chooseForV n l f x need).1.length ≤ 1000000 := by
  unfold chooseForV
  split
  · dsimp only
    rw [chL_len]
    have := (chooseFor_mem (ev := distT n.toNat (arcs l) x.toNat) (need := need) (goodDs_true (askD_true (by rename_i h; exact h.1)).1).2.1).2
    omega
  · simp

set_option maxRecDepth 100000 in
set_option maxHeartbeats 4000000 in
theorem chooseForS_c (n : Int) (s : Value) (l : List St) (v : Value) (f : List Ap) (x : Int) (vn : Value) (need : List Int) (w : World) (hr : Rd w s l.length (l.flatMap St.cells)) (hz : ∀ x ∈ f, x.nm.size ≤ 9223372036854775807) (hf : Rd w v f.length (f.flatMap Ap.cells)) (hvn : RdI w vn need) :
    Calls Tryz.prog 7 #[.agg #[.int .i64 n, s], v, .int .i64 x, vn] w (OwnChB (chooseForV n l f x need) w) := by
  have HR := Lib.hid hr
  have HF := Lib.hid hf
  have HZ := Lib.hid hz
  have HN := Lib.hid hvn
  clear hr hz hf hvn
  go_enter Tryz.func7, Tryz.ntmps7
  go_wp2_with fail
  (generalize hw1 : World.alloc w _ = w1; have k0 : w1.cell? ⟨w.heap.size, 0, none⟩ = some (.int .i64 n) := (by subst hw1; simp [go_sem]); have k1 : w1.cell? ⟨w.heap.size, 1, none⟩ = some s := (by subst hw1; simp [go_sem]); have hb0 : Below w.heap.size w w1 := (by subst hw1; exact bel_al (Below.refl _ _) _); have hsz1 : w.heap.size < w1.heap.size := (by subst hw1; simp); clear hw1)
  have HB := Lib.hid hb0
  refine (dsAsked_c n s l _ f x _ (rd_below HR.out HB.out) HZ.out (rd_below HF.out HB.out)).mono ?_; rintro e w2 ⟨rfl, hb1⟩
  have e0 := (hb1.cell (p := ⟨w.heap.size, 0, none⟩) (by show w.heap.size < _; omega)).trans k0
  have e1 := (hb1.cell (p := ⟨w.heap.size, 1, none⟩) (by show w.heap.size < _; omega)).trans k1
  have HB1 := Lib.hid (bel_then HB.out hb1)
  clear k0 k1 hb0 hb1
  by_cases hg : askD n l f x = true
  · have HASK := Lib.hid hg
    rw [hg]
    obtain ⟨hds, hx0, hx1⟩ := askD_true hg
    obtain ⟨hgt, hgf, hnd⟩ := goodDs_true hds
    have hn1 := (goodTown_true hgt).1
    obtain ⟨N, rfl⟩ := Int.eq_ofNat_of_zero_le (show 0 ≤ n by omega)
    obtain ⟨src, rfl⟩ := Int.eq_ofNat_of_zero_le hx0
    have hs : src < N := by omega
    have HGT := Lib.hid hgt
    have HGF := Lib.hid hgf
    have HND := Lib.hid hnd
    have HND2 : Hid (∀ a ∈ f, 0 ≤ a.nd ∧ a.nd ≤ ((distT N (arcs l) src).length : Int) - 1) := Lib.hid (by rw [dist_len]; exact hnd)
    clear hg hds hgt hgf hnd hx0 hx1
    go_wp2_with fail
    refine (tbNeed_c _ need _ (rd_below HN.out HB1.out)).mono ?_; rintro e w3 ⟨rfl, rfl⟩
    by_cases hne : needB need = true
    · have HV := Lib.hid (chooseFor_yes HASK.out hne)
      have HNE := Lib.hid hne
      rw [hne]
      clear hne
      go_wp2_with fail
      clear e0 e1
      refine (dsPick_c N s l _ f src _ need _ HGT.out HGF.out HND.out hs HNE.out (rd_below HR.out HB1.out) (rd_below HF.out HB1.out) (rd_below HN.out HB1.out)).mono ?_
      rintro e w3 ⟨v5, yy, u5, rfl, hv5, _, hu5, hb2⟩
      have HB2 := Lib.hid (bel_then HB1.out hb2)
      have HL5 := Lib.hid hv5
      have HU5 := Lib.hid hu5
      obtain ⟨hm, hl⟩ := chooseFor_mem (ev := distT N (arcs l) src) (need := need) HGF.out
      have HM := Lib.hid hm
      clear hm hb2 hv5 hu5
      go_wp2_with fail
      refine (dsChoices_c _ f _ _ _ (distT N (arcs l) src) _ HM.out hl HND2.out (rd_below HF.out HB2.out) HL5.out HU5.out).mono ?_
      rintro e w4 ⟨xx, rfl, ho, hb3⟩
      have HO := Lib.hid ho
      have HB3 := Lib.hid (bel_then HB2.out hb3)
      clear ho hb3
      go_wp2
      go_ret2
      rw [HV.out]
      exact ⟨_, rfl, own_base HO.out HB2.out.size, HB3.out⟩
    · have hne : needB need = false := by simpa using hne
      have HV := Lib.hid (chooseFor_no2 (n := N) (l := l) (f := f) (x := src) hne)
      rw [hne]
      go_wp2
      go_ret2
      rw [HV.out]
      exact ⟨_, rfl, World.ownsRow_nil _ _ _ _, HB1.out⟩
  · have hg : askD n l f x = false := by simpa using hg
    have HV := Lib.hid (chooseFor_no1 (need := need) hg)
    rw [hg]
    go_wp2
    go_ret2
    rw [HV.out]
    exact ⟨_, rfl, World.ownsRow_nil _ _ _ _, HB1.out⟩

set_option maxRecDepth 100000 in
set_option maxHeartbeats 4000000 in
theorem chooseForI_c (n : Int) (s : Value) (l : List St) (v : Value) (f : List Ap) (x : Int) (vn : Value) (need : List Int) (w : World) (hr : Rd w s l.length (l.flatMap St.cells)) (hz : ∀ x ∈ f, x.nm.size ≤ 9223372036854775807) (hf : Rd w v f.length (f.flatMap Ap.cells)) (hvn : RdI w vn need) :
    Calls Tryz.prog 6 #[.agg #[.int .i64 n, s], v, .int .i64 x, vn] w (OwnChB (chooseForV n l f x need) w) := by
  have HR := Lib.hid hr
  have HF := Lib.hid hf
  have HZ := Lib.hid hz
  have HN := Lib.hid hvn
  clear hr hz hf hvn
  go_enter Tryz.func6, Tryz.ntmps6
  go_wp2_with fail
  (generalize hw1 : World.alloc w _ = w1; have k0 : w1.cell? ⟨w.heap.size, 0, none⟩ = some (.int .i64 n) := (by subst hw1; simp [go_sem]); have k1 : w1.cell? ⟨w.heap.size, 1, none⟩ = some s := (by subst hw1; simp [go_sem]); have hb0 : Below w.heap.size w w1 := (by subst hw1; exact bel_al (Below.refl _ _) _); have hsz1 : w.heap.size < w1.heap.size := (by subst hw1; simp); clear hw1)
  have HB := Lib.hid hb0
  refine (dispatchFits_c n s l _ f w.heap.size _ k0 k1 (rd_below HR.out HB.out) HZ.out (rd_below HF.out HB.out)).mono ?_; rintro e w2 ⟨rfl, hb1⟩
  have e0 := (hb1.cell (p := ⟨w.heap.size, 0, none⟩) (by show w.heap.size < _; omega)).trans k0
  have e1 := (hb1.cell (p := ⟨w.heap.size, 1, none⟩) (by show w.heap.size < _; omega)).trans k1
  have hs1 := hb1.size
  have HB1 := Lib.hid (bel_then HB.out hb1)
  clear k0 k1 hb0 hb1
  by_cases hg : goodDs n l f = true
  · have HDS := Lib.hid hg
    rw [hg]
    obtain ⟨hgt, hgf, hnd⟩ := goodDs_true hg
    obtain ⟨hn1, hn2, _⟩ := goodTown_true hgt
    have HGT := Lib.hid hgt
    have HGF := Lib.hid hgf
    have HND := Lib.hid hnd
    clear hg hgt hgf hnd
    go_wp2_with fail
    refine (has_c n x _ _ hn1 hn2 e0).mono ?_; rintro e w3 ⟨rfl, rfl⟩
    by_cases hx : inB x 0 (n - 1) = true
    · have HASK : Hid (askD n l f x = true) := Lib.hid (by unfold askD; rw [HDS.out, hx]; rfl)
      rw [hx]
      obtain ⟨hx0, hx1⟩ := inB_true hx
      obtain ⟨N, rfl⟩ := Int.eq_ofNat_of_zero_le (show 0 ≤ n by omega)
      obtain ⟨src, rfl⟩ := Int.eq_ofNat_of_zero_le hx0
      have hs : src < N := by omega
      have E0 := Lib.hid e0
      have E1 := Lib.hid e1
      have HND2 : Hid (∀ a ∈ f, 0 ≤ a.nd ∧ a.nd ≤ ((distT N (arcs l) src).length : Int) - 1) := Lib.hid (by rw [dist_len]; exact HND.out)
      clear hx hx0 hx1
      go_wp2_with fail
      refine (isNeed_c _ need _ (rd_below HN.out HB1.out)).mono ?_; rintro e w3 ⟨rfl, rfl⟩
      by_cases hne : needB need = true
      · have HV := Lib.hid (chooseFor_yes HASK.out hne)
        have HNE := Lib.hid hne
        rw [hne]
        clear hne
        go_wp2_with fail
        refine (choose_c N s l _ f src w.heap.size _ need _ HGT.out HGF.out HND.out hs HNE.out E0.out E1.out (rd_below HR.out HB1.out) (rd_below HF.out HB1.out) (rd_below HN.out HB1.out)).mono ?_
        rintro e w3 ⟨v5, rfl, ho5, hb2⟩
        have f0 := (hb2.cell (p := ⟨w.heap.size, 0, none⟩) (by show w.heap.size < _; omega)).trans E0.out
        have f1 := (hb2.cell (p := ⟨w.heap.size, 1, none⟩) (by show w.heap.size < _; omega)).trans E1.out
        have HB2 := Lib.hid (bel_then HB1.out hb2)
        have HO5 := Lib.hid ho5
        have F0 := Lib.hid f0
        have F1 := Lib.hid f1
        obtain ⟨hm, hl⟩ := chooseFor_mem (ev := distT N (arcs l) src) (need := need) HGF.out
        have HM := Lib.hid hm
        clear hm hb2 ho5 e0 e1 f0 f1
        go_wp2_with fail
        refine (timesI_c N s l w.heap.size src _ HGT.out hs F0.out F1.out (rd_below HR.out HB2.out)).mono ?_
        rintro e w4 ⟨v6, rfl, ho6, hb3⟩
        have HB3 := Lib.hid (bel_then HB2.out hb3)
        have HO6 := Lib.hid ho6
        have HL5 := Lib.hid (own_below HO5.out hb3)
        clear hb3 ho6
        go_wp2_with fail
        refine (choicesOf_c _ f _ _ _ (distT N (arcs l) src) _ HM.out hl HND2.out (rd_below HF.out HB3.out) (rdi_own HL5.out) (rdi_own HO6.out)).mono ?_
        rintro e w5 ⟨xx, rfl, ho, hb4⟩
        have HO := Lib.hid ho
        have HB4 := Lib.hid (bel_then HB3.out hb4)
        clear ho hb4
        go_wp2
        go_ret2
        rw [HV.out]
        exact ⟨_, rfl, own_base HO.out HB3.out.size, HB4.out⟩
      · have hne : needB need = false := by simpa using hne
        have HV := Lib.hid (chooseFor_no2 (n := N) (l := l) (f := f) (x := src) hne)
        rw [hne]
        go_wp2
        go_ret2
        rw [HV.out]
        exact ⟨_, rfl, World.ownsRow_nil _ _ _ _, HB1.out⟩
    · have hx : inB x 0 (n - 1) = false := by simpa using hx
      have HV := Lib.hid (chooseFor_no1 (l := l) (f := f) (x := x) (n := n) (need := need) (by unfold askD; rw [hx]; simp))
      rw [hx]
      go_wp2
      go_ret2
      rw [HV.out]
      exact ⟨_, rfl, World.ownsRow_nil _ _ _ _, HB1.out⟩
  · have hg : goodDs n l f = false := by simpa using hg
    have HV := Lib.hid (chooseFor_no1 (x := x) (n := n) (l := l) (f := f) (need := need) (by unfold askD; rw [hg]; rfl))
    rw [hg]
    go_wp2
    go_ret2
    rw [HV.out]
    exact ⟨_, rfl, World.ownsRow_nil _ _ _ _, HB1.out⟩
end Go.Proofs.YthgegghdkoeofaaGreat

namespace Go.Proofs.YthgegghdkoeofaaGreat
set_option linter.unusedVariables false
set_option linter.unusedSimpArgs false
open Go.RowKit

theorem missL_len (f : List Ap) : ∀ (L d : List Int), (missL f L d).length = d.length := by
  intro L
  induction L with
  | nil => intro d; rfl
  | cons i L ih => intro d; unfold missL; rw [List.foldl_cons]; have := ih (missStep f d i); unfold missL at this; rw [this]; unfold missStep; simp
def missingKindsV (n : Int) (l : List St) (f : List Ap) (x : Int) (need : List Int) : List Int × Bool :=
  if askD n l f x = true ∧ needB need = true then ((pickL f (readyL (distT n.toNat (arcs l) x.toNat) f) need).2, true) else ([], false)
theorem missV_no1 {n : Int} {l : List St} {f : List Ap} {x : Int} {need : List Int} (h : askD n l f x = false) : missingKindsV n l f x need = ([], false) := by
  unfold missingKindsV; rw [if_neg (by rw [h]; simp)]
theorem missV_no2 {n : Int} {l : List St} {f : List Ap} {x : Int} {need : List Int} (h : needB need = false) : missingKindsV n l f x need = ([], false) := by
  unfold missingKindsV; rw [if_neg (by rw [h]; simp)]
theorem missV_yes {n src : Nat} {l : List St} {f : List Ap} {need : List Int} (h : askD n l f src = true) (h2 : needB need = true) : missingKindsV n l f src need = ((pickL f (readyL (distT n (arcs l) src) f) need).2, true) := by
  unfold missingKindsV; rw [if_pos ⟨h, h2⟩, Int.toNat_natCast, Int.toNat_natCast]
theorem missingKindsV_len (n : Int) (l : List St) (f : List Ap) (x : Int) (need : List Int) : (missingKindsV n l f x need).1.length ≤ 1000000 := by
  unfold missingKindsV
  split
  · dsimp only
    rw [← pick_miss, missL_len, (needB_true (by rename_i h; exact h.2)).1]; omega
  · simp

set_option maxRecDepth 100000 in
set_option maxHeartbeats 4000000 in
theorem missingKindsS_c (n : Int) (s : Value) (l : List St) (v : Value) (f : List Ap) (x : Int) (vn : Value) (need : List Int) (w : World) (hr : Rd w s l.length (l.flatMap St.cells)) (hz : ∀ x ∈ f, x.nm.size ≤ 9223372036854775807) (hf : Rd w v f.length (f.flatMap Ap.cells)) (hvn : RdI w vn need) :
    Calls Tryz.prog 9 #[.agg #[.int .i64 n, s], v, .int .i64 x, vn] w (OwnIB (missingKindsV n l f x need) w) := by
  have HR := Lib.hid hr
  have HF := Lib.hid hf
  have HZ := Lib.hid hz
  have HN := Lib.hid hvn
  clear hr hz hf hvn
  go_enter Tryz.func9, Tryz.ntmps9
  go_wp2_with fail
  (generalize hw1 : World.alloc w _ = w1; have k0 : w1.cell? ⟨w.heap.size, 0, none⟩ = some (.int .i64 n) := (by subst hw1; simp [go_sem]); have k1 : w1.cell? ⟨w.heap.size, 1, none⟩ = some s := (by subst hw1; simp [go_sem]); have hb0 : Below w.heap.size w w1 := (by subst hw1; exact bel_al (Below.refl _ _) _); have hsz1 : w.heap.size < w1.heap.size := (by subst hw1; simp); clear hw1)
  have HB := Lib.hid hb0
  refine (dsAsked_c n s l _ f x _ (rd_below HR.out HB.out) HZ.out (rd_below HF.out HB.out)).mono ?_; rintro e w2 ⟨rfl, hb1⟩
  have e0 := (hb1.cell (p := ⟨w.heap.size, 0, none⟩) (by show w.heap.size < _; omega)).trans k0
  have e1 := (hb1.cell (p := ⟨w.heap.size, 1, none⟩) (by show w.heap.size < _; omega)).trans k1
  have HB1 := Lib.hid (bel_then HB.out hb1)
  clear k0 k1 hb0 hb1
  by_cases hg : askD n l f x = true
  · have HASK := Lib.hid hg
    rw [hg]
    obtain ⟨hds, hx0, hx1⟩ := askD_true hg
    obtain ⟨hgt, hgf, hnd⟩ := goodDs_true hds
    have hn1 := (goodTown_true hgt).1
    obtain ⟨N, rfl⟩ := Int.eq_ofNat_of_zero_le (show 0 ≤ n by omega)
    obtain ⟨src, rfl⟩ := Int.eq_ofNat_of_zero_le hx0
    have hs : src < N := by omega
    have HGT := Lib.hid hgt
    have HGF := Lib.hid hgf
    have HND := Lib.hid hnd
    clear hg hds hgt hgf hnd hx0 hx1
    go_wp2_with fail
    refine (tbNeed_c _ need _ (rd_below HN.out HB1.out)).mono ?_; rintro e w3 ⟨rfl, rfl⟩
    by_cases hne : needB need = true
    · have HV := Lib.hid (missV_yes HASK.out hne)
      have HNE := Lib.hid hne
      rw [hne]
      clear hne
      go_wp2_with fail
      refine (dsPick_c N s l _ f src _ need _ HGT.out HGF.out HND.out hs HNE.out (rd_below HR.out HB1.out) (rd_below HF.out HB1.out) (rd_below HN.out HB1.out)).mono ?_
      rintro e w3 ⟨xx, yy, zz, rfl, _, hy, _, hb2⟩
      have HY := Lib.hid hy
      have HB2 := Lib.hid (bel_then HB1.out hb2)
      clear e0 e1 hb2 hy
      go_wp2
      go_ret2
      rw [HV.out]
      exact ⟨_, rfl, own_base HY.out HB1.out.size, HB2.out⟩
    · have hne : needB need = false := by simpa using hne
      have HV := Lib.hid (missV_no2 (n := N) (l := l) (f := f) (x := src) hne)
      rw [hne]
      go_wp2
      go_ret2
      rw [HV.out]
      exact ⟨_, rfl, World.ownsRow_nil _ _ _ _, HB1.out⟩
  · have hg : askD n l f x = false := by simpa using hg
    have HV := Lib.hid (missV_no1 (need := need) hg)
    rw [hg]
    go_wp2
    go_ret2
    rw [HV.out]
    exact ⟨_, rfl, World.ownsRow_nil _ _ _ _, HB1.out⟩

set_option maxRecDepth 100000 in
set_option maxHeartbeats 4000000 in
theorem missingKindsI_c (n : Int) (s : Value) (l : List St) (v : Value) (f : List Ap) (x : Int) (vn : Value) (need : List Int) (w : World) (hr : Rd w s l.length (l.flatMap St.cells)) (hz : ∀ x ∈ f, x.nm.size ≤ 9223372036854775807) (hf : Rd w v f.length (f.flatMap Ap.cells)) (hvn : RdI w vn need) :
    Calls Tryz.prog 8 #[.agg #[.int .i64 n, s], v, .int .i64 x, vn] w (OwnIB (missingKindsV n l f x need) w) := by
  have HR := Lib.hid hr
  have HF := Lib.hid hf
  have HZ := Lib.hid hz
  have HN := Lib.hid hvn
  clear hr hz hf hvn
  go_enter Tryz.func8, Tryz.ntmps8
  go_wp2_with fail
  (generalize hw1 : World.alloc w _ = w1; have k0 : w1.cell? ⟨w.heap.size, 0, none⟩ = some (.int .i64 n) := (by subst hw1; simp [go_sem]); have k1 : w1.cell? ⟨w.heap.size, 1, none⟩ = some s := (by subst hw1; simp [go_sem]); have hb0 : Below w.heap.size w w1 := (by subst hw1; exact bel_al (Below.refl _ _) _); have hsz1 : w.heap.size < w1.heap.size := (by subst hw1; simp); clear hw1)
  have HB := Lib.hid hb0
  refine (dispatchFits_c n s l _ f w.heap.size _ k0 k1 (rd_below HR.out HB.out) HZ.out (rd_below HF.out HB.out)).mono ?_; rintro e w2 ⟨rfl, hb1⟩
  have e0 := (hb1.cell (p := ⟨w.heap.size, 0, none⟩) (by show w.heap.size < _; omega)).trans k0
  have e1 := (hb1.cell (p := ⟨w.heap.size, 1, none⟩) (by show w.heap.size < _; omega)).trans k1
  have hs1 := hb1.size
  have HB1 := Lib.hid (bel_then HB.out hb1)
  clear k0 k1 hb0 hb1
  by_cases hg : goodDs n l f = true
  · have HDS := Lib.hid hg
    rw [hg]
    obtain ⟨hgt, hgf, hnd⟩ := goodDs_true hg
    obtain ⟨hn1, hn2, _⟩ := goodTown_true hgt
    have HGT := Lib.hid hgt
    have HGF := Lib.hid hgf
    have HND := Lib.hid hnd
    clear hg hgt hgf hnd
    go_wp2_with fail
    refine (has_c n x _ _ hn1 hn2 e0).mono ?_; rintro e w3 ⟨rfl, rfl⟩
    by_cases hx : inB x 0 (n - 1) = true
    · have HASK : Hid (askD n l f x = true) := Lib.hid (by unfold askD; rw [HDS.out, hx]; rfl)
      rw [hx]
      obtain ⟨hx0, hx1⟩ := inB_true hx
      obtain ⟨N, rfl⟩ := Int.eq_ofNat_of_zero_le (show 0 ≤ n by omega)
      obtain ⟨src, rfl⟩ := Int.eq_ofNat_of_zero_le hx0
      have hs : src < N := by omega
      have E0 := Lib.hid e0
      have E1 := Lib.hid e1
      clear hx hx0 hx1
      go_wp2_with fail
      refine (isNeed_c _ need _ (rd_below HN.out HB1.out)).mono ?_; rintro e w3 ⟨rfl, rfl⟩
      by_cases hne : needB need = true
      · have HV := Lib.hid (missV_yes HASK.out hne)
        have HNE := Lib.hid hne
        rw [hne]
        clear hne
        go_wp2_with fail
        refine (choose_c N s l _ f src w.heap.size _ need _ HGT.out HGF.out HND.out hs HNE.out E0.out E1.out (rd_below HR.out HB1.out) (rd_below HF.out HB1.out) (rd_below HN.out HB1.out)).mono ?_
        rintro e w3 ⟨v5, rfl, ho5, hb2⟩
        have HB2 := Lib.hid (bel_then HB1.out hb2)
        have HO5 := Lib.hid ho5
        have hpm := pick_mem f (fun y => ∃ (i : Nat) (a : Ap), y = (i : Int) ∧ f[i]? = some a) (readyL (distT N (arcs l) src) f) need (fun y hy => by
          obtain ⟨i, a, h1, h2, _⟩ := readyL_mem hy
          exact ⟨i, a, h1, h2⟩)
        have HPM := Lib.hid hpm.1
        have hpl := Nat.le_trans hpm.2 (Nat.le_trans (readyL_len _ _) (goodFl_true HGF.out).1)
        have HPL := Lib.hid hpl
        clear hb2 ho5 hpm hpl e0 e1
        go_wp2_with fail
        refine (missing_c _ f _ _ _ need _ HGF.out HNE.out HPM.out HPL.out (rd_below HF.out HB2.out) (rdi_own HO5.out) (rd_below HN.out HB2.out)).mono ?_
        rintro e w4 ⟨v6, rfl, ho6, hb3⟩
        have HO6 := Lib.hid ho6
        have HB3 := Lib.hid (bel_then HB2.out hb3)
        clear ho6 hb3
        go_wp2
        go_ret2
        rw [HV.out, ← pick_miss]
        exact ⟨_, rfl, own_base HO6.out HB2.out.size, HB3.out⟩
      · have hne : needB need = false := by simpa using hne
        have HV := Lib.hid (missV_no2 (n := N) (l := l) (f := f) (x := src) hne)
        rw [hne]
        go_wp2
        go_ret2
        rw [HV.out]
        exact ⟨_, rfl, World.ownsRow_nil _ _ _ _, HB1.out⟩
    · have hx : inB x 0 (n - 1) = false := by simpa using hx
      have HV := Lib.hid (missV_no1 (l := l) (f := f) (x := x) (n := n) (need := need) (by unfold askD; rw [hx]; simp))
      rw [hx]
      go_wp2
      go_ret2
      rw [HV.out]
      exact ⟨_, rfl, World.ownsRow_nil _ _ _ _, HB1.out⟩
  · have hg : goodDs n l f = false := by simpa using hg
    have HV := Lib.hid (missV_no1 (x := x) (n := n) (l := l) (f := f) (need := need) (by unfold askD; rw [hg]; rfl))
    rw [hg]
    go_wp2
    go_ret2
    rw [HV.out]
    exact ⟨_, rfl, World.ownsRow_nil _ _ _ _, HB1.out⟩
end Go.Proofs.YthgegghdkoeofaaGreat

namespace Go.Proofs.YthgegghdkoeofaaGreat
set_option linter.unusedVariables false
set_option linter.unusedSimpArgs false
open Go.RowKit

theorem taken_snoc {f : List Ap} {q : List ByteArray} {k : Nat} {nm : ByteArray} (h : q[k]? = some nm) : takenL f (q.take (k + 1)) = takenL f (q.take k) ++ [findA nm f] := by unfold takenL; rw [take_succ_of h, List.map_append]; rfl
theorem okTk_len {f : List Ap} {R : List Int} {q : List ByteArray} {k : Nat} (hR : ∀ y ∈ R, ∃ (i : Nat) (a : Ap), y = (i : Int) ∧ f[i]? = some a) (hk : k ≤ q.length) (h : (List.range k).all (okTk f R q) = true) : k ≤ R.length := by
  have hname : ∀ nm, findA nm f ∈ R → nmI f (findA nm f) = nm := fun nm h => by
    obtain ⟨i, a, e, ha⟩ := hR _ h
    obtain ⟨b, hb, hbp⟩ := idxG_get e
    rw [e, nmI_at hb]
    exact of_decide_eq_true hbp
  have hok : ∀ j, j < k → okNm q j = true ∧ ∀ nm, q[j]? = some nm → findA nm f ∈ R := fun j hj => by
    have h1 := List.all_eq_true.1 h j (List.mem_range.2 hj)
    unfold okTk at h1
    rw [Bool.and_eq_true] at h1
    refine ⟨h1.1, fun nm hnm => ?_⟩
    have h2 := h1.2
    rw [hnm] at h2
    exact of_decide_eq_true h2
  have hrise : ∀ j a b, (q.take k)[j]? = some a → (q.take k)[j + 1]? = some b → Op.bytesLess a.toList b.toList = true := fun j a b ha hb => by
    have hj : j + 1 < k := by have := (List.getElem?_eq_some_iff.1 hb).1; rw [List.length_take] at this; omega
    rw [List.getElem?_take_of_lt (by omega)] at ha
    rw [List.getElem?_take_of_lt hj] at hb
    have := (hok (j + 1) hj).1
    rw [okNm_next hb ha] at this
    unfold geS at this
    simpa using this
  have hnd : (q.take k).Nodup := nodup_idx fun _ _ _ hi hj => rise_inj hrise hi hj
  have hin : ∀ nm ∈ q.take k, findA nm f ∈ R := fun nm hm => by
    obtain ⟨j, hj, e⟩ := List.getElem_of_mem hm
    have hj' : j < k := by rw [List.length_take] at hj; omega
    exact (hok j hj').2 nm (by rw [← e, List.getElem_take]; exact List.getElem?_eq_getElem _)
  have h1 := nodup_len _ _ (nodup_map_of (fun nm => findA nm f) _ hnd (fun x hx y hy e => by have e' : findA x f = findA y f := e; rw [← hname x (hin x hx), ← hname y (hin y hy), e'])) (fun z hz => by
    obtain ⟨nm, hm, rfl⟩ := List.mem_map.1 hz
    exact hin nm hm)
  rw [List.length_map, List.length_take] at h1
  omega
theorem bestI_noT {ev : List Int} {f : List Ap} {R need mis : List Int} {q : List ByteArray} {k : Nat} (hk : k < q.length) (h : okTk f R q k = false) : bestI ev f R need mis q = false := by
  unfold bestI
  have : (List.range q.length).all (okTk f R q) = false := List.all_eq_false.2 ⟨k, List.mem_range.2 hk, by rw [h]; simp⟩
  rw [this]; rfl
theorem bestI_noM {ev : List Int} {f : List Ap} {R need mis : List Int} {q : List ByteArray} (h : decide (missL f (takenL f q) need = mis) = false) : bestI ev f R need mis q = false := by
  unfold bestI; rw [h]; simp
theorem bestI_noR {ev : List Int} {f : List Ap} {R need mis : List Int} {q : List ByteArray} {i : Int} (hi : i ∈ R) (h : (decide (i ∈ takenL f q) || !decide (rdyKey ev f i < (wstL ev f (takenL f q)).getD (kdOf f i) 0)) = false) : bestI ev f R need mis q = false := by
  unfold bestI
  have : (R.all fun i => decide (i ∈ takenL f q) || !decide (rdyKey ev f i < (wstL ev f (takenL f q)).getD (kdOf f i) 0)) = false := List.all_eq_false.2 ⟨i, hi, by rw [h]; simp⟩
  rw [this]; simp
theorem bestI_all {ev : List Int} {f : List Ap} {R need mis : List Int} {q : List ByteArray} (h1 : (List.range q.length).all (okTk f R q) = true) (h2 : decide (missL f (takenL f q) need = mis) = true) (h3 : (R.all fun i => decide (i ∈ takenL f q) || !decide (rdyKey ev f i < (wstL ev f (takenL f q)).getD (kdOf f i) 0)) = true) : bestI ev f R need mis q = true := by
  unfold bestI; rw [h1, h2, h3]; rfl
theorem taken_mem {f : List Ap} {R : List Int} {q : List ByteArray} (h : (List.range q.length).all (okTk f R q) = true) : ∀ y ∈ takenL f q, y ∈ R := fun y hy => by
  obtain ⟨nm, hm, rfl⟩ := List.mem_map.1 hy
  obtain ⟨j, hj, e⟩ := List.getElem_of_mem hm
  have h1 := List.all_eq_true.1 h j (List.mem_range.2 hj)
  unfold okTk at h1
  rw [Bool.and_eq_true, List.getElem?_eq_getElem hj, e] at h1
  exact of_decide_eq_true h1.2

set_option maxRecDepth 100000 in
set_option maxHeartbeats 8000000 in
theorem bestI_c (N : Nat) (s : Value) (l : List St) (v : Value) (f : List Ap) (src B : Nat) (vn : Value) (need : List Int) (vq : Value) (q : List ByteArray) (w : World) (hg : goodTown N l = true) (hfl : goodFl f = true) (hnd : ∀ a ∈ f, 0 ≤ a.nd ∧ a.nd ≤ (N : Int) - 1) (hs : src < N) (hne : needB need = true)
    (t0 : w.cell? ⟨B, 0, none⟩ = some (.int .i64 N)) (t1 : w.cell? ⟨B, 1, none⟩ = some s) (hr : Rd w s l.length (l.flatMap St.cells)) (hf : Rd w v f.length (f.flatMap Ap.cells)) (hvn : RdI w vn need) (hq : RdS w vq q) (ev L mis : List Int) (hev : distT N (arcs l) src = ev) (hL : readyL ev f = L) (hmis : (pickL f L need).2 = mis) :
    Calls Tryz.prog 37 #[.pointer (some ⟨B, 0, none⟩), v, .int .i64 src, vn, vq] w fun e w' => e = .returned (.bool (bestI ev f L need mis q)) ∧ Below w.heap.size w w' := by
  have hB : B < w.heap.size := World.block_lt_of_cell? w _ t0
  have hf12 := (goodFl_true hfl).1
  have HR := Lib.hid hr
  have HF := Lib.hid hf
  have HN := Lib.hid hvn
  have HQ := Lib.hid hq
  have HGT := Lib.hid hg
  have HGF := Lib.hid hfl
  have HND := Lib.hid hnd
  have HNE := Lib.hid hne
  have HEV := Lib.hid hev
  have HLL := Lib.hid hL
  have HMIS := Lib.hid hmis
  have T0 := Lib.hid t0
  have T1 := Lib.hid t1
  have HND2 : Hid (∀ a ∈ f, 0 ≤ a.nd ∧ a.nd ≤ (ev.length : Int) - 1) := Lib.hid (by rw [← hev, dist_len]; exact hnd)
  obtain ⟨i0', hi, hz0, hz1, hz2⟩ := info_parts Tryz.infoInt
  obtain ⟨A, c, rfl, hc, hm, hcell0⟩ := hf
  rw [maxLen_eq] at hm
  have HCELL := Lib.hid hcell0
  obtain ⟨AQ, cq, rfl, hcq, hmq, hcellq⟩ := hq
  rw [maxLen_eq] at hmq
  have HCQ := Lib.hid hcellq
  obtain ⟨hm5, hl5⟩ := readyTimes_mem (ev := ev) hfl
  rw [hL] at hm5 hl5
  have HLM := Lib.hid hm5
  clear hr hcell0 hcellq hvn hg hfl hnd hne hev hL hmis t0 t1 hm5
  go_enter Tryz.func37, Tryz.ntmps37
  go_wp2_with fail
  refine (timesI_c N s l B src _ HGT.out hs T0.out T1.out HR.out).mono ?_
  rintro e w3 ⟨v6, rfl, ho6, hb2⟩
  rw [HEV.out] at ho6
  have f0 := (hb2.cell (p := ⟨B, 0, none⟩) hB).trans T0.out
  have f1 := (hb2.cell (p := ⟨B, 1, none⟩) hB).trans T1.out
  have HB2 := Lib.hid hb2
  have HO6 := Lib.hid ho6
  have F0 := Lib.hid f0
  have F1 := Lib.hid f1
  clear hb2 ho6 f0 f1
  go_wp2_with fail
  refine (readyOrder_c N s l _ f src B _ HGT.out HGF.out HND.out hs F0.out F1.out (rd_below HR.out HB2.out) (rd_below HF.out HB2.out)).mono ?_
  rintro e w4 ⟨v5, rfl, ho5, hb3⟩
  rw [HEV.out, HLL.out] at ho5
  have HB3 := Lib.hid (bel_then HB2.out hb3)
  have hs4 := hb3.size
  have hs24 := HB2.out.size
  have F0 := Lib.hid ((hb3.cell (p := ⟨B, 0, none⟩) (by show B < _; omega)).trans F0.out)
  have F1 := Lib.hid ((hb3.cell (p := ⟨B, 1, none⟩) (by show B < _; omega)).trans F1.out)
  have hu5 := rdi_own (own_below HO6.out hb3)
  have HLI := Lib.hid (rdi_own ho5)
  obtain ⟨A5, c5, rfl, hc5, hm5', hcell5⟩ := rdi_own ho5
  rw [maxLen_eq] at hm5'
  have HC5 := Lib.hid hcell5
  obtain ⟨A6, c6, rfl, hc6, hm6, hcell6⟩ := hu5
  rw [maxLen_eq] at hm6
  have HC6 := Lib.hid hcell6
  clear hb3 hcell5 hcell6 ho5
  go_wp2_with fail
  generalize hW : World.alloc w4 _ = wB
  have hrow2 : wB.ownsRow w4.heap.size 3 1 (.slice (some ⟨w4.heap.size, 0, none⟩) 4 4) 4 (ints [-1, -1, -1, -1]) := by subst hW; exact heap_own (heap_alloc_new w4 _) rfl (Nat.le_refl _) (by rw [maxLen_eq]; omega)
  have hbB : Below w4.heap.size w4 wB := by subst hW; exact bel_al (Below.refl _ _) _
  have hgwB : w4.heap.size < wB.heap.size := by subst hW; simp
  have HW0 := Lib.hid hrow2
  have HBB := Lib.hid hbB
  clear hW hrow2 hbB
  go_loopw [13, 30] (fun vt vi wr => ∃ (k : Nat) (T t : List Int), k ≤ q.length ∧ T.length = k ∧ wB.heap.size ≤ wr.heap.size ∧ vi = .int .i64 k ∧ Hid (takenL f (q.take k) = T) ∧ Hid (wstL ev f T = t) ∧ Hid ((List.range k).all (okTk f L q) = true) ∧ Hid (wr.ownsRow wB.heap.size 3 1 vt T.length (ints T)) ∧ Hid (wr.ownsRow w4.heap.size 3 1 (.slice (some ⟨w4.heap.size, 0, none⟩) 4 4) 4 (ints t)) ∧ Hid (Below w4.heap.size w4 wr)) (fun _ vi _ => q.length - (intOf vi).toNat)
  case atStart => exact ⟨0, [], [-1, -1, -1, -1], Nat.zero_le _, rfl, Nat.le_refl _, rfl, Lib.hid rfl, Lib.hid rfl, Lib.hid rfl, Lib.hid (World.ownsRow_nil _ _ _ _), HW0, HBB⟩
  case round =>
    obtain ⟨k, T, t, hk, hTk, hsw, rfl, HT, HWT, HOKA, HOW, HRW, HBL⟩ := hrel
    have HTK := Lib.hid hTk
    obtain ⟨wA, rfl⟩ : ∃ wA : World, wA = wr := ⟨_, rfl⟩
    have hsA := HBL.out.size
    have hTk12 : T.length ≤ 12 := by have := okTk_len HLM.out hk HOKA.out; omega
    clear hTk
    by_cases hlt : k < q.length
    · obtain ⟨bq, offq, rfl, hbq, hclq⟩ := HCQ.out (by omega)
      obtain ⟨nm, hy⟩ : ∃ nm, q[k]? = some nm := ⟨_, List.getElem?_eq_getElem hlt⟩
      have c0 := cell_at hclq (bel_then HB3.out HBL.out) hbq (strs_get hy)
      have HY := Lib.hid hy
      clear hy
      go_wp2_with fail
      refine (findI_c _ f nm _ (rd_below HF.out (bel_then HB3.out HBL.out))).mono ?_; rintro e w5 ⟨rfl, hb5'⟩
      have HB5 := Lib.hid (bel_then HBL.out hb5')
      have HOW5 := Lib.hid (own_below HOW.out hb5')
      have HRW5 := Lib.hid (own_below HRW.out hb5')
      have HLI5 := Lib.hid (rd_below HLI.out HB5.out)
      have hs5 := hb5'.size
      clear hb5' c0
      rcases k with _ | kp
      · have HOK := Lib.hid (okNm_first HY.out)
        have hd0 : decide ((0 : Int) < 0) = false := by decide
        clear hclq
        obtain ⟨i, hi'⟩ : ∃ i : Int, findA nm f = i := ⟨_, rfl⟩
        rw [hi']
        by_cases hin : i ∈ L
        · have HOKT : Hid (okTk f L q 0 = true) := Lib.hid (by unfold okTk; rw [HOK.out, HY.out]; dsimp only; rw [hi', decide_eq_true hin]; rfl)
          obtain ⟨i, a, rfl, ha⟩ := HLM.out i hin
          have hnn := HND2.out _ (List.mem_of_getElem? ha)
          have hkey := rdyKey_at (ev := ev) ha
          have hkq := kdOf_at ha
          have hgd := goodAp_true ((goodFl_true HGF.out).2 _ (List.mem_of_getElem? ha))
          obtain ⟨anm, kd, nd, cr, sv⟩ := a
          dsimp only at hnn hkey hkq hgd
          obtain ⟨_, hkd0, hkd3, _, _, _⟩ := hgd
          obtain ⟨kq, rfl⟩ := Int.eq_ofNat_of_zero_le hkd0
          obtain ⟨nd0, nd1⟩ := hnn
          obtain ⟨p, rfl⟩ := Int.eq_ofNat_of_zero_le nd0
          rw [Int.toNat_natCast] at hkq hkey
          have hif : i < f.length := (List.getElem?_eq_some_iff.1 ha).1
          obtain ⟨b, off, rfl, hbl, hcell⟩ := HCELL.out (by omega)
          obtain ⟨_, d1, d2, _, _⟩ := ap_at hcell (bel_then HB3.out HB5.out) hbl ha
          dsimp only at d1 d2
          obtain ⟨b6, off6, rfl, hb6, hcl6⟩ := HC6.out (by omega)
          obtain ⟨tm, htm⟩ : ∃ tm, ev.getD p 0 = tm := ⟨_, rfl⟩
          have htt : ev[p]? = some tm := by rw [← htm, List.getD_eq_getElem?_getD, List.getElem?_eq_getElem (show p < ev.length by omega)]; rfl
          rw [htm] at hkey
          have ct := cell_at hcl6 HB5.out hb6 (ints_get htt)
          have i0 : (0 : Int) ≤ (i : Int) := by omega
          have i1 : (i : Int) < (f.length : Int) := by omega
          have p0 : (0 : Int) ≤ (p : Int) := by omega
          have p1 : (p : Int) < (ev.length : Int) := by omega
          have q0 : (0 : Int) ≤ (kq : Int) := by omega
          have q4 : (kq : Int) < 4 := by omega
          have hq4 : kq < 4 := by omega
          obtain ⟨wv, hwvd⟩ : ∃ wv, t.getD kq 0 = wv := ⟨_, rfl⟩
          have HOKA2 := Lib.hid (all_rng_succ HOKA.out HOKT.out)
          have hk12 : 0 + 1 ≤ 12 := Nat.le_trans (okTk_len HLM.out (show 0 + 1 ≤ q.length by omega) HOKA2.out) (by omega)
          have HT2 : Hid (takenL f (q.take (0 + 1)) = T ++ [(i : Int)]) := Lib.hid (by rw [taken_snoc HY.out, HT.out, hi'])
          have HW2 : Hid (wstL ev f (T ++ [(i : Int)]) = t.set kq (max wv tm)) := Lib.hid (by rw [wst_snoc, HWT.out]; unfold wstStep; rw [hkq, hwvd, hkey])
          have HWV := Lib.hid hwvd
          have D1 := Lib.hid d1
          have D2 := Lib.hid d2
          have CT := Lib.hid ct
          clear hcl6 ha hcell htt hkey hkq hwvd hkd3 htm hi' nd1 d1 d2 ct
          go_wp2_with (first | (go_at_call 71; refine (contains_c _ _ L _ HLI5.out).mono ?_; rw [decide_eq_true hin]; rintro e w6 ⟨rfl, rfl⟩) | (at_builtin; refine wpList_app_rd _ rfl _ _ 28 rfl wB.heap.size 3 i0' (.int .i64 0) 1 8 Tryz.underlying28 hi hz0 hz1 hz2 rfl (by decide) _ _ _ rfl (HOW5.out.alloc _) _ 1 [.int .i64 i] rfl (rd_new _ rfl (Nat.le_refl _) (by rw [maxLen_eq]; omega)) rfl (ints_one [(i : Int)]) (by rw [maxLen_eq]; omega) (by omega) (by simp; omega) ?_; intro v7 w7 hown7 hgrow7 _))
          have hlo7 := HOW5.out.lt
          have hs7 := hgrow7.size
          rw [World.size_alloc] at hs7
          have hB7 : Below w4.heap.size w4 w7 := bel_grown (bel_al HB5.out _) hgrow7 (fun q' e => by have := (hlo7 q' e).1; omega)
          have hRW7 : w7.ownsRow w4.heap.size 3 1 (.slice (some ⟨w4.heap.size, 0, none⟩) 4 4) 4 (ints t) := kept3 (HRW5.out.alloc _) hgrow7 (fun p' p'' e e' => by have := (hlo7 p'' e').1; have h : w4.heap.size = p' := Option.some.inj e; omega)
          have hO7 : w7.ownsRow wB.heap.size 3 1 v7 (T ++ [(i : Int)]).length (ints (T ++ [(i : Int)])) := by rw [ints_append, List.length_append]; exact hown7
          have d1 := (hB7.cell (p := ⟨b, off + i * 5 + 1, none⟩) (Nat.lt_of_lt_of_le hbl HB3.out.size)).trans ((HB5.out.cell (p := ⟨b, off + i * 5 + 1, none⟩) (Nat.lt_of_lt_of_le hbl HB3.out.size)).symm.trans D1.out)
          have d2 := (hB7.cell (p := ⟨b, off + i * 5 + 2, none⟩) (Nat.lt_of_lt_of_le hbl HB3.out.size)).trans ((HB5.out.cell (p := ⟨b, off + i * 5 + 2, none⟩) (Nat.lt_of_lt_of_le hbl HB3.out.size)).symm.trans D2.out)
          have ct := (hB7.cell (p := ⟨b6, off6 + p, none⟩) hb6).trans ((HB5.out.cell (p := ⟨b6, off6 + p, none⟩) hb6).symm.trans CT.out)
          have cw := own_cell hRW7 hq4
          rw [HWV.out] at cw
          have fw := hRW7.frozenAt kq
          have HB7 := Lib.hid hB7
          have HRW7 := Lib.hid hRW7
          have HO7 := Lib.hid hO7
          have hlo8 := Lib.hid hO7.lt
          clear hB7 hRW7 hO7 hown7 hgrow7 hlo7 D1 D2 CT
          go_region
          all_goals
            go_wp2
            exact ⟨⟨0 + 1, T ++ [(i : Int)], _, by omega, (by rw [List.length_append, HTK.out]; rfl), by simp; omega, by go_num, HT2, HW2, HOKA2, Lib.hid (own_other (own_dr HO7.out) (by omega) _ _), Lib.hid (own_setI (own_dr HRW7.out) kq (max wv tm)), Lib.hid (Below.setCell (bel_dr HB7.out) (Nat.le_refl _) _)⟩, by simp [intOf]; omega⟩
        · have HNO : Hid (bestI ev f L need mis q = false) := Lib.hid (bestI_noT (k := 0) (by omega) (by unfold okTk; rw [HY.out]; dsimp only; rw [hi', decide_eq_false hin]; simp))
          go_wp2_with (go_at_call 71; refine (contains_c _ _ L _ HLI5.out).mono ?_; rw [decide_eq_false hin]; rintro e w6 ⟨rfl, rfl⟩)
          go_ret
          rw [HNO.out]
          exact ⟨rfl, bel_then HB3.out HB5.out⟩
      · have hlt' : kp < q.length := by omega
        obtain ⟨p9, hp9⟩ : ∃ p, q[kp]? = some p := ⟨_, List.getElem?_eq_getElem hlt'⟩
        have HOK0 := Lib.hid (okNm_next HY.out hp9)
        have d9 := cell_at hclq (bel_then HB3.out HB5.out) hbq (strs_get hp9)
        have y0 : (0 : Int) ≤ (kp : Int) := Int.natCast_nonneg _
        have y1 : (kp : Int) < (q.length : Int) := by omega
        have y2 : (0 : Int) < (kp : Int) + 1 := by omega
        have s9 : IntKind.i64.wrap (kp : Int) = (kp : Int) := by rw [IntKind.wrap_i64]; omega
        clear hclq hp9
        by_cases hbs : Op.bytesLess p9.toList nm.toList = true
        · have HOK : Hid (okNm q (kp + 1) = true) := Lib.hid (by rw [HOK0.out]; unfold geS; rw [hbs]; rfl)
          obtain ⟨i, hi'⟩ : ∃ i : Int, findA nm f = i := ⟨_, rfl⟩
          rw [hi']
          by_cases hin : i ∈ L
          · have HOKT : Hid (okTk f L q (kp + 1) = true) := Lib.hid (by unfold okTk; rw [HOK.out, HY.out]; dsimp only; rw [hi', decide_eq_true hin]; rfl)
            obtain ⟨i, a, rfl, ha⟩ := HLM.out i hin
            have hnn := HND2.out _ (List.mem_of_getElem? ha)
            have hkey := rdyKey_at (ev := ev) ha
            have hkq := kdOf_at ha
            have hgd := goodAp_true ((goodFl_true HGF.out).2 _ (List.mem_of_getElem? ha))
            obtain ⟨anm, kd, nd, cr, sv⟩ := a
            dsimp only at hnn hkey hkq hgd
            obtain ⟨_, hkd0, hkd3, _, _, _⟩ := hgd
            obtain ⟨kq, rfl⟩ := Int.eq_ofNat_of_zero_le hkd0
            obtain ⟨nd0, nd1⟩ := hnn
            obtain ⟨p, rfl⟩ := Int.eq_ofNat_of_zero_le nd0
            rw [Int.toNat_natCast] at hkq hkey
            have hif : i < f.length := (List.getElem?_eq_some_iff.1 ha).1
            obtain ⟨b, off, rfl, hbl, hcell⟩ := HCELL.out (by omega)
            obtain ⟨_, d1, d2, _, _⟩ := ap_at hcell (bel_then HB3.out HB5.out) hbl ha
            dsimp only at d1 d2
            obtain ⟨b6, off6, rfl, hb6, hcl6⟩ := HC6.out (by omega)
            obtain ⟨tm, htm⟩ : ∃ tm, ev.getD p 0 = tm := ⟨_, rfl⟩
            have htt : ev[p]? = some tm := by rw [← htm, List.getD_eq_getElem?_getD, List.getElem?_eq_getElem (show p < ev.length by omega)]; rfl
            rw [htm] at hkey
            have ct := cell_at hcl6 HB5.out hb6 (ints_get htt)
            have i0 : (0 : Int) ≤ (i : Int) := by omega
            have i1 : (i : Int) < (f.length : Int) := by omega
            have p0 : (0 : Int) ≤ (p : Int) := by omega
            have p1 : (p : Int) < (ev.length : Int) := by omega
            have q0 : (0 : Int) ≤ (kq : Int) := by omega
            have q4 : (kq : Int) < 4 := by omega
            have hq4 : kq < 4 := by omega
            obtain ⟨wv, hwvd⟩ : ∃ wv, t.getD kq 0 = wv := ⟨_, rfl⟩
            have HOKA2 := Lib.hid (all_rng_succ HOKA.out HOKT.out)
            have hk12 : (kp + 1) + 1 ≤ 12 := Nat.le_trans (okTk_len HLM.out (show (kp + 1) + 1 ≤ q.length by omega) HOKA2.out) (by omega)
            have HT2 : Hid (takenL f (q.take ((kp + 1) + 1)) = T ++ [(i : Int)]) := Lib.hid (by rw [taken_snoc HY.out, HT.out, hi'])
            have HW2 : Hid (wstL ev f (T ++ [(i : Int)]) = t.set kq (max wv tm)) := Lib.hid (by rw [wst_snoc, HWT.out]; unfold wstStep; rw [hkq, hwvd, hkey])
            have HWV := Lib.hid hwvd
            have D1 := Lib.hid d1
            have D2 := Lib.hid d2
            have CT := Lib.hid ct
            clear hcl6 ha hcell htt hkey hkq hwvd hkd3 htm hi' nd1 d1 d2 ct
            go_wp2_with (first | (go_at_call 71; refine (contains_c _ _ L _ HLI5.out).mono ?_; rw [decide_eq_true hin]; rintro e w6 ⟨rfl, rfl⟩) | (at_builtin; refine wpList_app_rd _ rfl _ _ 28 rfl wB.heap.size 3 i0' (.int .i64 0) 1 8 Tryz.underlying28 hi hz0 hz1 hz2 rfl (by decide) _ _ _ rfl (HOW5.out.alloc _) _ 1 [.int .i64 i] rfl (rd_new _ rfl (Nat.le_refl _) (by rw [maxLen_eq]; omega)) rfl (ints_one [(i : Int)]) (by rw [maxLen_eq]; omega) (by omega) (by simp; omega) ?_; intro v7 w7 hown7 hgrow7 _))
            have hlo7 := HOW5.out.lt
            have hs7 := hgrow7.size
            rw [World.size_alloc] at hs7
            have hB7 : Below w4.heap.size w4 w7 := bel_grown (bel_al HB5.out _) hgrow7 (fun q' e => by have := (hlo7 q' e).1; omega)
            have hRW7 : w7.ownsRow w4.heap.size 3 1 (.slice (some ⟨w4.heap.size, 0, none⟩) 4 4) 4 (ints t) := kept3 (HRW5.out.alloc _) hgrow7 (fun p' p'' e e' => by have := (hlo7 p'' e').1; have h : w4.heap.size = p' := Option.some.inj e; omega)
            have hO7 : w7.ownsRow wB.heap.size 3 1 v7 (T ++ [(i : Int)]).length (ints (T ++ [(i : Int)])) := by rw [ints_append, List.length_append]; exact hown7
            have d1 := (hB7.cell (p := ⟨b, off + i * 5 + 1, none⟩) (Nat.lt_of_lt_of_le hbl HB3.out.size)).trans ((HB5.out.cell (p := ⟨b, off + i * 5 + 1, none⟩) (Nat.lt_of_lt_of_le hbl HB3.out.size)).symm.trans D1.out)
            have d2 := (hB7.cell (p := ⟨b, off + i * 5 + 2, none⟩) (Nat.lt_of_lt_of_le hbl HB3.out.size)).trans ((HB5.out.cell (p := ⟨b, off + i * 5 + 2, none⟩) (Nat.lt_of_lt_of_le hbl HB3.out.size)).symm.trans D2.out)
            have ct := (hB7.cell (p := ⟨b6, off6 + p, none⟩) hb6).trans ((HB5.out.cell (p := ⟨b6, off6 + p, none⟩) hb6).symm.trans CT.out)
            have cw := own_cell hRW7 hq4
            rw [HWV.out] at cw
            have fw := hRW7.frozenAt kq
            have HB7 := Lib.hid hB7
            have HRW7 := Lib.hid hRW7
            have HO7 := Lib.hid hO7
            have hlo8 := Lib.hid hO7.lt
            clear hB7 hRW7 hO7 hown7 hgrow7 hlo7 D1 D2 CT
            go_region
            all_goals
              go_wp2
              exact ⟨⟨(kp + 1) + 1, T ++ [(i : Int)], _, by omega, (by rw [List.length_append, HTK.out]; rfl), by simp; omega, by go_num, HT2, HW2, HOKA2, Lib.hid (own_other (own_dr HO7.out) (by omega) _ _), Lib.hid (own_setI (own_dr HRW7.out) kq (max wv tm)), Lib.hid (Below.setCell (bel_dr HB7.out) (Nat.le_refl _) _)⟩, by simp [intOf]; omega⟩
          · have HNO : Hid (bestI ev f L need mis q = false) := Lib.hid (bestI_noT (k := (kp + 1)) (by omega) (by unfold okTk; rw [HY.out]; dsimp only; rw [hi', decide_eq_false hin]; simp))
            go_wp2_with (go_at_call 71; refine (contains_c _ _ L _ HLI5.out).mono ?_; rw [decide_eq_false hin]; rintro e w6 ⟨rfl, rfl⟩)
            go_ret
            rw [HNO.out]
            exact ⟨rfl, bel_then HB3.out HB5.out⟩
        · have hbs : Op.bytesLess p9.toList nm.toList = false := by simpa using hbs
          have HNO : Hid (bestI ev f L need mis q = false) := Lib.hid (bestI_noT hlt (by unfold okTk; rw [HOK0.out]; unfold geS; rw [hbs]; rfl))
          go_wp2
          go_ret
          rw [HNO.out]
          exact ⟨rfl, bel_then HB3.out HB5.out⟩
    · obtain rfl : k = q.length := by omega
      have ht := HT.out
      rw [List.take_length] at ht
      have HTT := Lib.hid ht
      have HTM : Hid (∀ y ∈ T, ∃ (i : Nat) (a : Ap), y = (i : Int) ∧ f[i]? = some a) := Lib.hid (fun y hy => HLM.out y (taken_mem HOKA.out y (by rw [ht]; exact hy)))
      clear ht
      go_wp2_with fail
      refine (missing_c _ f _ T _ need _ HGF.out HNE.out HTM.out hTk12 (rd_below HF.out (bel_then HB3.out HBL.out)) (rdi_own HOW.out) (rd_below HN.out (bel_then HB3.out HBL.out))).mono ?_
      rintro e w5 ⟨vm1, rfl, hom1, hb5⟩
      have HB5 := Lib.hid (bel_then HBL.out hb5)
      have HOW5 := Lib.hid (own_below HOW.out hb5)
      have HRW5 := Lib.hid (own_below HRW.out hb5)
      have HM1 := Lib.hid hom1
      have F05 := Lib.hid ((HB5.out.cell (p := ⟨B, 0, none⟩) (by show B < _; omega)).trans F0.out)
      have F15 := Lib.hid ((HB5.out.cell (p := ⟨B, 1, none⟩) (by show B < _; omega)).trans F1.out)
      clear hom1 hb5
      go_wp2_with fail
      refine (choose_c N s l _ f src B _ need _ HGT.out HGF.out HND.out hs HNE.out F05.out F15.out (rd_below HR.out (bel_then HB3.out HB5.out)) (rd_below HF.out (bel_then HB3.out HB5.out)) (rd_below HN.out (bel_then HB3.out HB5.out))).mono ?_
      rintro e w6 ⟨vc, rfl, hoc, hb6⟩
      rw [HEV.out, HLL.out] at hoc
      have HB6 := Lib.hid (bel_then HB5.out hb6)
      have HOW6 := Lib.hid (own_below HOW5.out hb6)
      have HRW6 := Lib.hid (own_below HRW5.out hb6)
      have HM16 := Lib.hid (own_below HM1.out hb6)
      have HCH := Lib.hid hoc
      obtain ⟨hpm, hpl⟩ := pick_mem f (fun y => ∃ (i : Nat) (a : Ap), y = (i : Int) ∧ f[i]? = some a) L need HLM.out
      have HPM := Lib.hid hpm
      have hpl12 : (pickL f L need).1.length ≤ 12 := by omega
      clear hoc hb6 hpm
      go_wp2_with fail
      refine (missing_c _ f _ (pickL f L need).1 _ need _ HGF.out HNE.out HPM.out hpl12 (rd_below HF.out (bel_then HB3.out HB6.out)) (rdi_own HCH.out) (rd_below HN.out (bel_then HB3.out HB6.out))).mono ?_
      rintro e w7 ⟨vm2, rfl, hom2, hb7⟩
      rw [pick_miss, HMIS.out] at hom2
      have HB7 := Lib.hid (bel_then HB6.out hb7)
      have HOW7 := Lib.hid (own_below HOW6.out hb7)
      have HRW7 := Lib.hid (own_below HRW6.out hb7)
      have HM17 := Lib.hid (own_below HM16.out hb7)
      have HM2 := Lib.hid hom2
      clear hom2 hb7 hpl hpl12
      go_wp2_with fail
      refine (equal_c _ _ (missL f T need) mis _ (rdi_own HM17.out) (rdi_own HM2.out)).mono ?_
      rintro e w8 ⟨rfl, hb8⟩
      have HB8 := Lib.hid (bel_then HB7.out hb8)
      have HOW8 := Lib.hid (own_below HOW7.out hb8)
      have HRW8 := Lib.hid (own_below HRW7.out hb8)
      clear hb8
      by_cases hmm : decide (missL f T need = mis) = true
      · have HMM := Lib.hid hmm
        rw [hmm]
        clear hmm
        go_wp2_with fail
        go_loopw [100] (fun vi wr => ∃ (k p : Nat), k ≤ L.length ∧ vi = .int .i64 k ∧ Hid (((L.take k).all fun i => decide (i ∈ T) || !decide (rdyKey ev f i < t.getD (kdOf f i) 0)) = true) ∧ wr = w8.drewN p) (fun vi _ => L.length - (intOf vi).toNat)
        case atStart => exact ⟨0, 0, by omega, rfl, Lib.hid rfl, rfl⟩
        case round =>
          obtain ⟨k, p2, hk2, rfl, HAL, rfl⟩ := hrel
          have HBP := Lib.hid (below_drewN HB8.out p2)
          have HRWP := Lib.hid (own_drewN HRW8.out p2)
          have HTWP := Lib.hid (own_drewN HOW8.out p2)
          obtain ⟨wP, hwP⟩ : ∃ wP, w8.drewN p2 = wP := ⟨_, rfl⟩
          rw [hwP] at HBP HRWP HTWP
          by_cases hlt2 : k < L.length
          · obtain ⟨b5, off5, rfl, hb5, hcl5⟩ := HC5.out (by omega)
            obtain ⟨y, hy⟩ : ∃ y, L[k]? = some y := ⟨_, List.getElem?_eq_getElem hlt2⟩
            have HMEM := Lib.hid (List.mem_of_getElem? hy)
            obtain ⟨i, a, rfl, ha⟩ := HLM.out y (List.mem_of_getElem? hy)
            have hnn := HND2.out _ (List.mem_of_getElem? ha)
            have hkey := rdyKey_at (ev := ev) ha
            have hkq := kdOf_at ha
            have hgd := goodAp_true ((goodFl_true HGF.out).2 _ (List.mem_of_getElem? ha))
            obtain ⟨nm, kd, nd, cr, sv⟩ := a
            dsimp only at hnn hkey hkq hgd
            obtain ⟨_, hkd0, hkd3, _, _, _⟩ := hgd
            obtain ⟨kq, rfl⟩ := Int.eq_ofNat_of_zero_le hkd0
            obtain ⟨nd0, nd1⟩ := hnn
            obtain ⟨p, rfl⟩ := Int.eq_ofNat_of_zero_le nd0
            rw [Int.toNat_natCast] at hkq hkey
            have hif : i < f.length := (List.getElem?_eq_some_iff.1 ha).1
            obtain ⟨b, off, rfl, hbl, hcell⟩ := HCELL.out (by omega)
            obtain ⟨_, d1, d2, _, _⟩ := ap_at hcell (bel_then HB3.out HBP.out) hbl ha
            dsimp only at d1 d2
            obtain ⟨b6, off6, rfl, hb6, hcl6⟩ := HC6.out (by omega)
            obtain ⟨tm, htm⟩ : ∃ tm, ev.getD p 0 = tm := ⟨_, rfl⟩
            have htt : ev[p]? = some tm := by rw [← htm, List.getD_eq_getElem?_getD, List.getElem?_eq_getElem (show p < ev.length by omega)]; rfl
            rw [htm] at hkey
            have co := cell_at hcl5 HBP.out hb5 (ints_get hy)
            have ct := cell_at hcl6 HBP.out hb6 (ints_get htt)
            have i0 : (0 : Int) ≤ (i : Int) := by omega
            have i1 : (i : Int) < (f.length : Int) := by omega
            have p0 : (0 : Int) ≤ (p : Int) := by omega
            have p1 : (p : Int) < (ev.length : Int) := by omega
            have q0 : (0 : Int) ≤ (kq : Int) := by omega
            have q4 : (kq : Int) < 4 := by omega
            have hq4 : kq < 4 := by omega
            have cw := own_cell HRWP.out hq4
            obtain ⟨wv, hwvd⟩ : ∃ wv, t.getD kq 0 = wv := ⟨_, rfl⟩
            rw [hwvd] at cw
            have HSN : Hid (((L.take (k + 1)).all fun i => decide (i ∈ T) || !decide (rdyKey ev f i < t.getD (kdOf f i) 0)) = (decide ((i : Int) ∈ T) || !decide (tm < wv))) := Lib.hid (by
              rw [take_succ_of hy, List.all_append, HAL.out]
              simp only [List.all_cons, List.all_nil, Bool.true_and, Bool.and_true]
              rw [hkey, hkq, hwvd])
            have HNO : Hid ((decide ((i : Int) ∈ T) || !decide (tm < wv)) = false → bestI ev f L need mis q = false) := Lib.hid (fun h => bestI_noR HMEM.out (by rw [HTT.out, HWT.out, hkey, hkq, hwvd]; exact h))
            clear hcl5 hy ha hcell hcl6 htt hkey hkq hwvd hkd3 htm nd1
            by_cases hh : (i : Int) ∈ T
            · have HHH : Hid (decide ((i : Int) ∈ T) = true) := Lib.hid (decide_eq_true hh)
              clear hh
              rw [hwP]
              go_wp2_with fail
              go_quiet ((go_at_call 71; exact Calls.quiet_of_same ((contains_c _ _ T _ (rdi_own (own_drewN HTWP.out _))).mono fun _ _ h => ⟨h.1.trans (by rw [HHH.out]), h.2.symm⟩)))
              go_wp2
              refine ⟨⟨k + 1, p2 + nq, by omega, by go_num, Lib.hid (by rw [HSN.out, HHH.out]; rfl), ?_⟩, by simp [intOf]; omega⟩
              rw [← hwP, World.drewN_drewN]
            · have HHH : Hid (decide ((i : Int) ∈ T) = false) := Lib.hid (decide_eq_false hh)
              clear hh
              by_cases hlw : tm < wv
              · have HN2 := Lib.hid (HNO.out (by rw [HHH.out, decide_eq_true hlw]; rfl))
                rw [hwP]
                go_wp2_with fail
                go_quiet ((go_at_call 71; exact Calls.quiet_of_same ((contains_c _ _ T _ (rdi_own (own_drewN HTWP.out _))).mono fun _ _ h => ⟨h.1.trans (by rw [HHH.out]), h.2.symm⟩)))
                go_wp2
                go_ret
                rw [HN2.out]
                exact ⟨rfl, below_drewN (bel_then HB3.out HBP.out) _⟩
              · have hlw2 : wv ≤ tm := by omega
                have HY2 : Hid ((decide ((i : Int) ∈ T) || !decide (tm < wv)) = true) := Lib.hid (by rw [decide_eq_false hlw]; simp)
                clear hlw
                rw [hwP]
                go_wp2_with fail
                go_quiet ((go_at_call 71; exact Calls.quiet_of_same ((contains_c _ _ T _ (rdi_own (own_drewN HTWP.out _))).mono fun _ _ h => ⟨h.1.trans (by rw [HHH.out]), h.2.symm⟩)))
                go_wp2
                refine ⟨⟨k + 1, p2 + nq, by omega, by go_num, Lib.hid (by rw [HSN.out]; exact HY2.out), ?_⟩, by simp [intOf]; omega⟩
                rw [← hwP, World.drewN_drewN]
          · obtain rfl : k = L.length := by omega
            have hal := HAL.out
            rw [List.take_length] at hal
            have HY := Lib.hid (bestI_all (ev := ev) (mis := mis) HOKA.out (by rw [HTT.out]; exact HMM.out) (by rw [HTT.out, HWT.out]; exact hal))
            clear hal
            rw [hwP]
            go_wp2
            go_ret
            rw [HY.out]
            exact ⟨rfl, bel_then HB3.out HBP.out⟩
      · have hmm : decide (missL f T need = mis) = false := by simpa using hmm
        have HNO : Hid (bestI ev f L need mis q = false) := Lib.hid (bestI_noM (by rw [HTT.out]; exact hmm))
        rw [hmm]
        go_wp2
        go_ret
        rw [HNO.out]
        exact ⟨rfl, bel_then HB3.out HB8.out⟩

set_option maxRecDepth 100000 in
set_option maxHeartbeats 4000000 in
theorem isBestChoiceI_c (n : Int) (s : Value) (l : List St) (v : Value) (f : List Ap) (x : Int) (vn : Value) (need : List Int) (vq : Value) (q : List ByteArray) (w : World) (hr : Rd w s l.length (l.flatMap St.cells)) (hz : ∀ x ∈ f, x.nm.size ≤ 9223372036854775807) (hf : Rd w v f.length (f.flatMap Ap.cells)) (hvn : RdI w vn need) (hq : RdS w vq q) :
    Calls Tryz.prog 15 #[.agg #[.int .i64 n, s], v, .int .i64 x, vn, vq] w (BestIs n l f x need q w) := by
  have HR := Lib.hid hr
  have HF := Lib.hid hf
  have HZ := Lib.hid hz
  have HN := Lib.hid hvn
  have HQ := Lib.hid hq
  clear hr hz hf hvn hq
  go_enter Tryz.func15, Tryz.ntmps15
  go_wp2_with fail
  (generalize hw1 : World.alloc w _ = w1; have k0 : w1.cell? ⟨w.heap.size, 0, none⟩ = some (.int .i64 n) := (by subst hw1; simp [go_sem]); have k1 : w1.cell? ⟨w.heap.size, 1, none⟩ = some s := (by subst hw1; simp [go_sem]); have hb0 : Below w.heap.size w w1 := (by subst hw1; exact bel_al (Below.refl _ _) _); have hsz1 : w.heap.size < w1.heap.size := (by subst hw1; simp); clear hw1)
  have HB := Lib.hid hb0
  refine (dispatchFits_c n s l _ f w.heap.size _ k0 k1 (rd_below HR.out HB.out) HZ.out (rd_below HF.out HB.out)).mono ?_; rintro e w2 ⟨rfl, hb1⟩
  have e0 := (hb1.cell (p := ⟨w.heap.size, 0, none⟩) (by show w.heap.size < _; omega)).trans k0
  have e1 := (hb1.cell (p := ⟨w.heap.size, 1, none⟩) (by show w.heap.size < _; omega)).trans k1
  have hs1 := hb1.size
  have HB1 := Lib.hid (bel_then HB.out hb1)
  clear k0 k1 hb0 hb1
  by_cases hg : goodDs n l f = true
  · have HDS := Lib.hid hg
    rw [hg]
    obtain ⟨hgt, hgf, hnd⟩ := goodDs_true hg
    obtain ⟨hn1, hn2, _⟩ := goodTown_true hgt
    have HGT := Lib.hid hgt
    have HGF := Lib.hid hgf
    have HND := Lib.hid hnd
    clear hg hgt hgf hnd
    go_wp2_with fail
    refine (has_c n x _ _ hn1 hn2 e0).mono ?_; rintro e w3 ⟨rfl, rfl⟩
    by_cases hx : inB x 0 (n - 1) = true
    · have HASK : Hid (askD n l f x = true) := Lib.hid (by unfold askD; rw [HDS.out, hx]; rfl)
      rw [hx]
      obtain ⟨hx0, hx1⟩ := inB_true hx
      obtain ⟨N, rfl⟩ := Int.eq_ofNat_of_zero_le (show 0 ≤ n by omega)
      obtain ⟨src, rfl⟩ := Int.eq_ofNat_of_zero_le hx0
      have hs : src < N := by omega
      have E0 := Lib.hid e0
      have E1 := Lib.hid e1
      clear hx hx0 hx1
      go_wp2_with fail
      refine (isNeed_c _ need _ (rd_below HN.out HB1.out)).mono ?_; rintro e w3 ⟨rfl, rfl⟩
      by_cases hne : needB need = true
      · have HNE := Lib.hid hne
        have HN4 := Lib.hid (needB_true hne).1
        rw [hne]
        clear hne
        obtain ⟨hm5, hl5⟩ := readyTimes_mem (ev := distT N (arcs l) src) HGF.out
        have HM5 := Lib.hid hm5
        clear hm5
        go_wp2_with fail
        have HV := Lib.hid (best_yes (q := q) HASK.out HNE.out rfl rfl rfl)
        refine (bestI_c N s l _ f src w.heap.size _ need _ q _ HGT.out HGF.out HND.out hs HNE.out E0.out E1.out (rd_below HR.out HB1.out) (rd_below HF.out HB1.out) (rd_below HN.out HB1.out) (rd_below HQ.out HB1.out) _ _ _ rfl rfl rfl).mono ?_
        rintro e w3 ⟨rfl, hb2⟩
        have HB2 := Lib.hid (bel_then HB1.out hb2)
        have HE := Lib.hid (best_eq (distT N (arcs l) src) f (readyL (distT N (arcs l) src) f) need q (pickL f (readyL (distT N (arcs l) src) f) need).1 HGF.out HM5.out (readyL_nodup _ _) HN4.out)
        clear hb2
        go_wp2
        go_ret2
        unfold BestIs
        have he := HE.out
        rw [pick_miss] at he
        rw [HV.out, ← he]
        exact ⟨rfl, HB2.out⟩
      · have hne : needB need = false := by simpa using hne
        have HV := Lib.hid (best_no2 (n := N) (l := l) (f := f) (x := src) (q := q) hne)
        rw [hne]
        go_wp2
        go_ret2
        unfold BestIs
        rw [HV.out]
        exact ⟨rfl, HB1.out⟩
    · have hx : inB x 0 (n - 1) = false := by simpa using hx
      have HV := Lib.hid (best_no1 (l := l) (f := f) (x := x) (n := n) (need := need) (q := q) (by unfold askD; rw [hx]; simp))
      rw [hx]
      go_wp2
      go_ret2
      unfold BestIs
      rw [HV.out]
      exact ⟨rfl, HB1.out⟩
  · have hg : goodDs n l f = false := by simpa using hg
    have HV := Lib.hid (best_no1 (x := x) (n := n) (l := l) (f := f) (need := need) (q := q) (by unfold askD; rw [hg]; rfl))
    rw [hg]
    go_wp2
    go_ret2
    unfold BestIs
    rw [HV.out]
    exact ⟨rfl, HB1.out⟩
end Go.Proofs.YthgegghdkoeofaaGreat
