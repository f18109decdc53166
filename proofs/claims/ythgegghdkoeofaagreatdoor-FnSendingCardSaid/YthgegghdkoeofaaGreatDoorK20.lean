/-
  The choice for a need: impl.choose, impl.missing, spec.dsPick (printed by gen_pick.py). IsBestChoice: the plain law: counting by kind and by names says the same as comparing what is missing. SendChoice: the plain law: those who are chosen are called, their names in the fleet's order. The choices of a list of appliances with their times (printed by gen_choices.py). ReadyTimes: both sides (printed by gen_ready.py). slices.Equal at ints; spec.dsHas; readyL has no repeats. IsBestChoice: the reference's side. ChooseFor: both sides (printed by gen_ready.py). MissingKinds: both sides. ServedNodes: the plain law and the reference's side. FnSending: the callees' contracts: fleets and texts compared, a name looked for, a fleet's validity. ServedNodes: the program's side. ServedNodes: the walk of the program's side. WithinTime: both sides (printed by gen_within.py). (joined by pack.py: Pick BestP SendP Choices Ready Equal BestS Choose Miss Serv SendC ServI ServJ Within)
-/
import Derived.Test.YthgegghdkoeofaaGreatDoorK18
import Derived.Test.YthgegghdkoeofaaGreatDoorK14
import Derived.Test.YthgegghdkoeofaaGreatDoorK19
import Derived.Test.YthgegghdkoeofaaGreatDoorK9
import Derived.Test.YthgegghdkoeofaaGreatDoorK12
import Derived.Test.YthgegghdkoeofaaGreatDoorK6
import Derived.Deep.RegionLaw
import Derived.Test.YthgegghdkoeofaaGreatDoorK16
import Derived.Test.YthgegghdkoeofaaGreatDoorK3
import Derived.Test.YthgegghdkoeofaaGreatDoorK10
import Derived.BigQuiet
namespace Go.Proofs.YthgegghdkoeofaaGreatDoor
set_option linter.unusedVariables false
set_option linter.unusedSimpArgs false
open Go.RowKit

def kdOf (f : List Ap) (i : Int) : Nat := match f[i.toNat]? with
  | some a => a.kd.toNat
  | none => 0
theorem kdOf_at {f : List Ap} {i : Nat} {a : Ap} (h : f[i]? = some a) : kdOf f (i : Int) = a.kd.toNat := by unfold kdOf; rw [Int.toNat_natCast, h]
def pickStep (f : List Ap) (st : List Int × List Int) (i : Int) : List Int × List Int :=
  if 0 < st.2.getD (kdOf f i) 0 then (st.1 ++ [i], st.2.set (kdOf f i) (st.2.getD (kdOf f i) 0 - 1)) else st
theorem pickStep_yes {f : List Ap} {S d : List Int} {i : Int} {q : Nat} {x : Int} (hq : kdOf f i = q) (hx : d.getD q 0 = x) (h : 0 < x) : pickStep f (S, d) i = (S ++ [i], d.set q (x - 1)) := by
  unfold pickStep; dsimp only; rw [hq, hx, if_pos h]
theorem pickStep_no {f : List Ap} {S d : List Int} {i : Int} {q : Nat} {x : Int} (hq : kdOf f i = q) (hx : d.getD q 0 = x) (h : ¬ 0 < x) : pickStep f (S, d) i = (S, d) := by
  unfold pickStep; dsimp only; rw [hq, hx, if_neg h]
def pickL (f : List Ap) (list need : List Int) : List Int × List Int := list.foldl (pickStep f) ([], need)
theorem pickL_snoc {f : List Ap} {L need : List Int} {k : Nat} {x : Int} (h : L[k]? = some x) : pickL f (L.take (k + 1)) need = pickStep f (pickL f (L.take k) need) x := by
  unfold pickL; rw [take_succ_of h, List.foldl_append]; rfl
def missStep (f : List Ap) (d : List Int) (i : Int) : List Int := d.set (kdOf f i) (d.getD (kdOf f i) 0 - 1)
def missL (f : List Ap) (out need : List Int) : List Int := out.foldl (missStep f) need
theorem missL_snoc {f : List Ap} {L need : List Int} {k : Nat} {x : Int} (h : L[k]? = some x) : missL f (L.take (k + 1)) need = missStep f (missL f (L.take k) need) x := by
  unfold missL; rw [take_succ_of h, List.foldl_append]; rfl
theorem pick_miss_aux (f : List Ap) (need : List Int) : ∀ (L : List Int) (st : List Int × List Int), st.2 = missL f st.1 need → (L.foldl (pickStep f) st).2 = missL f (L.foldl (pickStep f) st).1 need := by
  intro L
  induction L with
  | nil => intro st h; exact h
  | cons i L ih =>
    intro st h
    rw [List.foldl_cons]
    apply ih
    unfold pickStep
    split
    · dsimp only
      unfold missL at h ⊢
      rw [List.foldl_append, ← h]; rfl
    · exact h
theorem pick_miss (f : List Ap) (L need : List Int) : missL f (pickL f L need).1 need = (pickL f L need).2 := (pick_miss_aux f need L ([], need) rfl).symm
theorem pick_mem_aux (f : List Ap) (p : Int → Prop) : ∀ (L : List Int) (st : List Int × List Int), (∀ y ∈ st.1, p y) → (∀ y ∈ L, p y) → (∀ y ∈ (L.foldl (pickStep f) st).1, p y) ∧ (L.foldl (pickStep f) st).1.length ≤ st.1.length + L.length := by
  intro L
  induction L with
  | nil => intro st h _; exact ⟨h, by simp⟩
  | cons i L ih =>
    intro st h hL
    rw [List.foldl_cons]
    have h1 : (∀ y ∈ (pickStep f st i).1, p y) ∧ (pickStep f st i).1.length ≤ st.1.length + 1 := by
      unfold pickStep
      split
      · refine ⟨fun y hy => ?_, by simp⟩
        rcases List.mem_append.1 hy with hy | hy
        · exact h y hy
        · rw [List.mem_singleton] at hy; rw [hy]; exact hL i (by simp)
      · exact ⟨h, by omega⟩
    obtain ⟨a, b⟩ := ih (pickStep f st i) h1.1 (fun y hy => hL y (by simp [hy]))
    exact ⟨a, by rw [List.length_cons]; omega⟩
theorem pick_mem (f : List Ap) (p : Int → Prop) (L need : List Int) (hL : ∀ y ∈ L, p y) : (∀ y ∈ (pickL f L need).1, p y) ∧ (pickL f L need).1.length ≤ L.length := by
  obtain ⟨a, b⟩ := pick_mem_aux f p L ([], need) (by simp) hL
  exact ⟨a, by unfold pickL; simpa using b⟩
theorem getD_le (l : List Int) (c : Int) (h0 : 0 ≤ c) (h : ∀ y ∈ l, y ≤ c) (j : Nat) : l.getD j 0 ≤ c := by
  rw [List.getD_eq_getElem?_getD]
  cases hx : l[j]? with
  | none => exact h0
  | some y => exact h y (List.mem_of_getElem? hx)
theorem getD_ge (l : List Int) (c : Int) (h0 : c ≤ 0) (h : ∀ y ∈ l, c ≤ y) (j : Nat) : c ≤ l.getD j 0 := by
  rw [List.getD_eq_getElem?_getD]
  cases hx : l[j]? with
  | none => exact h0
  | some y => exact h y (List.mem_of_getElem? hx)
theorem getD_set' (l : List Int) (q j : Nat) (x : Int) : (l.set q x).getD j 0 = x ∨ (l.set q x).getD j 0 = l.getD j 0 := by
  rw [List.getD_eq_getElem?_getD, List.getD_eq_getElem?_getD, List.getElem?_set]
  by_cases h : q = j
  · subst h
    by_cases h2 : q < l.length
    · left; simp [h2]
    · right; simp [h2]
  · right; simp [h]
theorem set_le (l : List Int) (q : Nat) (x c : Int) (hx : x ≤ c) (h : ∀ j, l.getD j 0 ≤ c) (j : Nat) : (l.set q x).getD j 0 ≤ c := by
  rcases getD_set' l q j x with e | e
  · rw [e]; exact hx
  · rw [e]; exact h j
theorem set_ge (l : List Int) (q : Nat) (x c : Int) (hx : c ≤ x) (h : ∀ j, c ≤ l.getD j 0) (j : Nat) : c ≤ (l.set q x).getD j 0 := by
  rcases getD_set' l q j x with e | e
  · rw [e]; exact hx
  · rw [e]; exact h j
theorem gro_and {a b c : World} {r r' : Option Nat} (h : a.grownBy b r) (k : b.grownBy c r') (hr : ∀ q, r' = some q → a.heap.size ≤ q) : a.grownBy c r :=
  ⟨k.os.trans h.os, k.tape.trans h.tape, k.output.trans h.output, Nat.le_trans h.size k.size, fun i hi hne => (k.block i (Nat.lt_of_lt_of_le hi h.size) (fun e => by have := hr i e.symm; omega)).trans (h.block i hi hne)⟩
theorem rdi_gro {a b : World} {g : Nat} {v : Value} {l : List Int} (h : RdI a v l) (k : a.grownBy b (some g)) (hne : ∀ b' off n c, v = .slice (some ⟨b', off, none⟩) n c → 0 < l.length → b' ≠ g) : RdI b v l := by
  obtain ⟨A, c, rfl, hc, hm, hr⟩ := h
  refine ⟨A, c, rfl, hc, hm, fun hl => ?_⟩
  obtain ⟨b', off, rfl, hb, hcell⟩ := hr hl
  exact ⟨b', off, rfl, Nat.lt_of_lt_of_le hb k.size, fun j u hu => (gro_cell k hb (hne _ _ _ _ rfl hl)).trans (hcell j u hu)⟩

set_option maxRecDepth 100000 in
set_option maxHeartbeats 4000000 in
theorem choose_c (n : Nat) (s : Value) (l : List St) (v : Value) (f : List Ap) (src B : Nat) (vn : Value) (need : List Int) (w : World) (hg : goodTown n l = true) (hfl : goodFl f = true) (hnd : ∀ a ∈ f, 0 ≤ a.nd ∧ a.nd ≤ (n : Int) - 1) (hs : src < n) (hne : needB need = true)
    (t0 : w.cell? ⟨B, 0, none⟩ = some (.int .i64 n)) (t1 : w.cell? ⟨B, 1, none⟩ = some s) (hr : Rd w s l.length (l.flatMap St.cells)) (hf : Rd w v f.length (f.flatMap Ap.cells)) (hvn : RdI w vn need) :
    Calls Tryz.prog 99 #[.pointer (some ⟨B, 0, none⟩), v, .int .i64 src, vn] w (OwnI (pickL f (readyL (distT n (arcs l) src) f) need).1 w) := by
  have hB : B < w.heap.size := World.block_lt_of_cell? w _ t0
  obtain ⟨hf12, hfg⟩ := goodFl_true hfl
  obtain ⟨hn4, hnb⟩ := needB_true hne
  have HR := Lib.hid hr
  have HF := Lib.hid hf
  have HN := Lib.hid hvn
  have HG := Lib.hid hg
  have HFL := Lib.hid hfl
  have HND := Lib.hid hnd
  have HFG := Lib.hid hfg
  have HN4 := Lib.hid hn4
  have HNB := Lib.hid hnb
  have T0 := Lib.hid t0
  have T1 := Lib.hid t1
  obtain ⟨A, c, rfl, hc, hm, hcell0⟩ := hf
  rw [maxLen_eq] at hm
  have HCELL := Lib.hid hcell0
  obtain ⟨i0', hi, hz0, hz1, hz2⟩ := info_parts Tryz.infoInt
  clear hr hcell0 hfl hfg hg hnd hvn hnb t0 t1 hne
  go_enter Tryz.func99, Tryz.ntmps99
  go_wp2_with fail
  refine (clone_c _ need _ HN.out (by omega)).mono ?_
  rintro e w1 ⟨v9, rfl, ho9, hb1⟩
  rw [hn4] at ho9
  obtain ⟨g, cg, rfl, hbg, hgl, hcg, hcmg⟩ := own_shape ho9 (by omega)
  have e0 := (hb1.cell (p := ⟨B, 0, none⟩) hB).trans T0.out
  have e1 := (hb1.cell (p := ⟨B, 1, none⟩) hB).trans T1.out
  have HB1 := Lib.hid hb1
  have HL1 := Lib.hid ho9
  have hs1 := hb1.size
  have E0 := Lib.hid e0
  have E1 := Lib.hid e1
  clear ho9 hb1 e0 e1
  go_wp2_with fail
  refine (readyOrder_c n s l _ f src B _ HG.out HFL.out HND.out hs E0.out E1.out (rd_below HR.out HB1.out) (rd_below HF.out HB1.out)).mono ?_
  rintro e w2 ⟨v5, rfl, ho5, hb2⟩
  have HB2 := Lib.hid (bel_then HB1.out hb2)
  have hs2 := hb2.size
  have HLW0 := Lib.hid (own_below HL1.out hb2)
  have HLO5 := Lib.hid ho5.lt
  clear hb2
  have hrl := readyL_len (distT n (arcs l) src) f
  have hlm : ∀ y ∈ readyL (distT n (arcs l) src) f, ∃ (i : Nat) (a : Ap), y = (i : Int) ∧ f[i]? = some a := fun y hy => by
    obtain ⟨i, a, h1, h2, _⟩ := readyL_mem hy
    exact ⟨i, a, h1, h2⟩
  obtain ⟨L, hL⟩ : ∃ L, readyL (distT n (arcs l) src) f = L := ⟨_, rfl⟩
  rw [hL] at ho5 hrl hlm
  have HLL := Lib.hid hL
  have HLM := Lib.hid hlm
  obtain ⟨A5, c5, rfl, hc5, hm5, hcell5⟩ := rdi_own ho5
  rw [maxLen_eq] at hm5
  have HC5 := Lib.hid hcell5
  clear ho5 hcell5 hlm hL
  go_wp2_with fail
  go_loopw [10, 20] (fun vo vi wr => ∃ (k : Nat) (S d : List Int), k ≤ L.length ∧ S.length ≤ k ∧ vi = .int .i64 k ∧ Hid (pickL f (L.take k) need = (S, d)) ∧ Hid (d.length = 4) ∧ Hid (∀ j, d.getD j 0 ≤ 6) ∧ Hid (wr.ownsRow w2.heap.size 3 1 vo S.length (ints S)) ∧ Hid (wr.ownsRow w.heap.size 3 1 (.slice (some ⟨g, 0, none⟩) 4 cg) 4 (ints d)) ∧ Hid (w2.grownBy wr (some g))) (fun _ vi _ => L.length - (intOf vi).toNat)
  case atStart => exact ⟨0, [], need, Nat.zero_le _, Nat.le_refl _, rfl, Lib.hid rfl, HN4, Lib.hid (fun j => getD_le _ _ (by omega) (fun y hy => (HNB.out y hy).2) j), Lib.hid (World.ownsRow_nil _ _ _ _), HLW0, Lib.hid (World.grownBy.refl _ _)⟩
  case round =>
    obtain ⟨k, S, d, hk, hSk, rfl, HPK, HDL, HDB, HOW, HLW, HGR⟩ := hrel
    obtain ⟨wA, rfl⟩ : ∃ wA : World, wA = wr := ⟨_, rfl⟩
    have hsA := HGR.out.size
    by_cases hlt : k < L.length
    · obtain ⟨b5, off5, rfl, hb5, hcl5⟩ := HC5.out (by omega)
      have h5 := (HLO5.out b5 rfl).1
      obtain ⟨y, hy⟩ : ∃ y, L[k]? = some y := ⟨_, List.getElem?_eq_getElem hlt⟩
      obtain ⟨i, a, rfl, ha⟩ := HLM.out y (List.mem_of_getElem? hy)
      obtain ⟨nm, kd, nd, cr, sv⟩ := a
      have hgd := goodAp_true (HFG.out _ (List.mem_of_getElem? ha))
      dsimp only at hgd
      obtain ⟨_, hkd0, hkd3, _, _, _⟩ := hgd
      obtain ⟨q, rfl⟩ := Int.eq_ofNat_of_zero_le hkd0
      have hif : i < f.length := (List.getElem?_eq_some_iff.1 ha).1
      obtain ⟨b, off, rfl, hbl, hcell⟩ := HCELL.out (by omega)
      obtain ⟨_, d1, _, _, _⟩ := ap_at hcell (bel_grown HB2.out HGR.out (fun q e => by have := Option.some.inj e; omega)) hbl ha
      dsimp only at d1
      have hkq := kdOf_at ha
      dsimp only at hkq
      rw [Int.toNat_natCast] at hkq
      have co := (gro_cell HGR.out (o := off5 + k) hb5 (by omega)).trans (hcl5 k _ (ints_get hy))
      have ca := own_cell HLW.out (show q < 4 by omega)
      have fb := HLW.out.frozenAt q
      obtain ⟨x, hx⟩ : ∃ x, d.getD q 0 = x := ⟨_, rfl⟩
      rw [hx] at ca
      have hx6 : x ≤ 6 := by rw [← hx]; exact HDB.out q
      have HST := Lib.hid (pickL_snoc (f := f) (need := need) hy)
      have HQ := Lib.hid hkq
      have HX := Lib.hid hx
      have i0 : (0 : Int) ≤ (i : Int) := by omega
      have i1 : (i : Int) < (f.length : Int) := by omega
      have q0 : (0 : Int) ≤ (q : Int) := by omega
      have q4 : (q : Int) < 4 := by omega
      have HOWS := Lib.hid (own_other HOW.out (g := g) (by omega) q (.int .i64 (x - 1)))
      have HLWS := Lib.hid (own_setI HLW.out q (x - 1))
      have HGRS := Lib.hid (only_setCell HGR.out q (.int .i64 (x - 1)))
      have hz0' : (wA.setCell ⟨g, q, none⟩ (.int .i64 (x - 1))).heap.size = wA.heap.size := by simp
      clear hcl5 hy ha hcell hkq hx hkd3
      by_cases hpos : 0 < x
      · have HYES : Hid (pickL f (L.take (k + 1)) need = (S ++ [(i : Int)], d.set q (x - 1))) := Lib.hid (by
          rw [HST.out, HPK.out]; exact pickStep_yes HQ.out HX.out hpos)
        have s3 : IntKind.i64.wrap (x - 1) = x - 1 := IntWalk.i64_in _ (by omega)
        go_wp2_with (at_builtin; refine wpList_app_rd _ rfl _ _ 48 rfl w2.heap.size 3 i0' (.int .i64 0) 1 8 Tryz.underlying48 hi hz0 hz1 hz2 rfl (by decide) _ _ _ rfl (HOWS.out.alloc _) _ 1 [.int .i64 i] rfl (rd_new _ hz0'.symm (Nat.le_refl _) (by rw [maxLen_eq]; omega)) rfl (ints_one [(i : Int)]) (by rw [maxLen_eq]; omega) (by omega) (by simp; omega) ?_; intro v7 w7 hown7 hgrow7 _)
        have hlo := HOW.out.lt
        refine ⟨⟨k + 1, S ++ [(i : Int)], d.set q (x - 1), by omega, by simp; omega, by go_num, HYES, Lib.hid (by rw [List.length_set]; exact HDL.out), Lib.hid (fun j => by have := HDB.out j; exact set_le _ _ _ _ (by omega) HDB.out j), Lib.hid ?_, Lib.hid ?_, Lib.hid ?_⟩, by simp [intOf]; omega⟩
        · rw [ints_append, List.length_append]; exact hown7
        · exact kept3 (HLWS.out.alloc _) hgrow7 (fun p p' e e' => by have := (hlo p' e').1; have : g = p := Option.some.inj e; omega)
        · exact gro_and (gro_al HGRS.out _) hgrow7 (fun p e => (hlo p e).1)
      · have HNO : Hid (pickL f (L.take (k + 1)) need = (S, d)) := Lib.hid (by rw [HST.out, HPK.out]; exact pickStep_no HQ.out HX.out (by omega))
        go_wp2
        exact ⟨⟨k + 1, S, d, by omega, by omega, by go_num, HNO, HDL, HDB, HOW, HLW, HGR⟩, by simp [intOf]; omega⟩
    · obtain rfl : k = L.length := by omega
      have hpk := HPK.out
      rw [List.take_length] at hpk
      have HP := Lib.hid hpk
      clear hpk
      go_wp2
      go_ret
      rw [HLL.out, HP.out]
      refine ⟨_, rfl, own_base HOW.out HB2.out.size, bel_grown HB2.out HGR.out (fun q e => by have := Option.some.inj e; omega)⟩

set_option maxRecDepth 100000 in
set_option maxHeartbeats 4000000 in
theorem missing_c (v : Value) (f : List Ap) (vo : Value) (L : List Int) (vn : Value) (need : List Int) (w : World) (hfl : goodFl f = true) (hne : needB need = true) (hlm' : ∀ y ∈ L, ∃ (i : Nat) (a : Ap), y = (i : Int) ∧ f[i]? = some a) (hl12 : L.length ≤ 12)
    (hf : Rd w v f.length (f.flatMap Ap.cells)) (hvo : RdI w vo L) (hvn : RdI w vn need) :
    Calls Tryz.prog 103 #[v, vo, vn] w (OwnI (missL f L need) w) := by
  obtain ⟨hf12, hfg⟩ := goodFl_true hfl
  obtain ⟨hn4, hnb⟩ := needB_true hne
  have HN := Lib.hid hvn
  have HFG := Lib.hid hfg
  have HN4 := Lib.hid hn4
  have HNB := Lib.hid hnb
  have HLM := Lib.hid hlm'
  obtain ⟨A, c, rfl, hc, hm, hcell0⟩ := hf
  rw [maxLen_eq] at hm
  have HCELL := Lib.hid hcell0
  obtain ⟨A5, c5, rfl, hc5, hm5, hcell5⟩ := hvo
  rw [maxLen_eq] at hm5
  have HC5 := Lib.hid hcell5
  clear hcell0 hfl hfg hvn hnb hne hlm' hcell5
  go_enter Tryz.func103, Tryz.ntmps103
  go_wp2_with fail
  refine (clone_c _ need _ HN.out (by omega)).mono ?_
  rintro e w2 ⟨v9, rfl, ho9, hb1⟩
  rw [hn4] at ho9
  obtain ⟨g, cg, rfl, hbg, hgl, hcg, hcmg⟩ := own_shape ho9 (by omega)
  have HB2 := Lib.hid hb1
  have HLW0 := Lib.hid ho9
  clear ho9 hb1
  go_wp2_with fail
  go_loopw [14] (fun vi wr => ∃ (k : Nat) (d : List Int), k ≤ L.length ∧ vi = .int .i64 k ∧ Hid (missL f (L.take k) need = d) ∧ Hid (d.length = 4) ∧ Hid (∀ j, -(k : Int) ≤ d.getD j 0 ∧ d.getD j 0 ≤ 6) ∧ Hid (wr.ownsRow w.heap.size 3 1 (.slice (some ⟨g, 0, none⟩) 4 cg) 4 (ints d)) ∧ Hid (w2.grownBy wr (some g))) (fun vi _ => L.length - (intOf vi).toNat)
  case atStart => exact ⟨0, need, Nat.zero_le _, rfl, Lib.hid rfl, HN4, Lib.hid (fun j => ⟨by have := getD_ge need 0 (by omega) (fun y hy => (HNB.out y hy).1) j; omega, getD_le _ _ (by omega) (fun y hy => (HNB.out y hy).2) j⟩), HLW0, Lib.hid (World.grownBy.refl _ _)⟩
  case round =>
    obtain ⟨k, d, hk, rfl, HPK, HDL, HDB, HLW, HGR⟩ := hrel
    obtain ⟨wA, rfl⟩ : ∃ wA : World, wA = wr := ⟨_, rfl⟩
    have hsA := HGR.out.size
    by_cases hlt : k < L.length
    · obtain ⟨b5, off5, rfl, hb5, hcl5⟩ := HC5.out (by omega)
      obtain ⟨y, hy⟩ : ∃ y, L[k]? = some y := ⟨_, List.getElem?_eq_getElem hlt⟩
      obtain ⟨i, a, rfl, ha⟩ := HLM.out y (List.mem_of_getElem? hy)
      obtain ⟨nm, kd, nd, cr, sv⟩ := a
      have hgd := goodAp_true (HFG.out _ (List.mem_of_getElem? ha))
      dsimp only at hgd
      obtain ⟨_, hkd0, hkd3, _, _, _⟩ := hgd
      obtain ⟨q, rfl⟩ := Int.eq_ofNat_of_zero_le hkd0
      have hif : i < f.length := (List.getElem?_eq_some_iff.1 ha).1
      obtain ⟨b, off, rfl, hbl, hcell⟩ := HCELL.out (by omega)
      have HBA : Hid (Below w.heap.size w wA) := Lib.hid (bel_grown HB2.out HGR.out (fun q e => by have := Option.some.inj e; omega))
      obtain ⟨_, d1, _, _, _⟩ := ap_at hcell HBA.out hbl ha
      dsimp only at d1
      have hkq := kdOf_at ha
      dsimp only at hkq
      rw [Int.toNat_natCast] at hkq
      have co := cell_at hcl5 HBA.out hb5 (ints_get hy)
      have ca := own_cell HLW.out (show q < 4 by omega)
      have fb := HLW.out.frozenAt q
      obtain ⟨x, hx⟩ : ∃ x, d.getD q 0 = x := ⟨_, rfl⟩
      rw [hx] at ca
      obtain ⟨hx0, hx6⟩ : -(k : Int) ≤ x ∧ x ≤ 6 := by rw [← hx]; exact HDB.out q
      have HST : Hid (missL f (L.take (k + 1)) need = d.set q (x - 1)) := Lib.hid (by rw [missL_snoc hy, HPK.out]; unfold missStep; rw [hkq, hx])
      have i0 : (0 : Int) ≤ (i : Int) := by omega
      have i1 : (i : Int) < (f.length : Int) := by omega
      have q0 : (0 : Int) ≤ (q : Int) := by omega
      have q4 : (q : Int) < 4 := by omega
      clear hcl5 hy ha hcell hkq hx hkd3
      have s3 : IntKind.i64.wrap (x - 1) = x - 1 := IntWalk.i64_in _ (by omega)
      go_wp2
      exact ⟨⟨k + 1, _, by omega, by go_num, HST, Lib.hid (by rw [List.length_set]; exact HDL.out), Lib.hid (fun j => ⟨set_ge _ _ _ _ (by omega) (fun j => by have := (HDB.out j).1; omega) j, set_le _ _ _ _ (by omega) (fun j => (HDB.out j).2) j⟩), Lib.hid (own_setI HLW.out q (x - 1)), Lib.hid (only_setCell HGR.out q _)⟩, by simp [intOf]; omega⟩
    · obtain rfl : k = L.length := by omega
      have hpk := HPK.out
      rw [List.take_length] at hpk
      have HP := Lib.hid hpk
      clear hpk
      go_wp2
      go_ret
      rw [HP.out]
      refine ⟨_, rfl, ?_, bel_grown HB2.out HGR.out (fun q e => by have := Option.some.inj e; omega)⟩
      rw [HDL.out]; exact HLW.out

def PickIs (n : Nat) (l : List St) (f : List Ap) (src : Nat) (need : List Int) (w : World) (e : Ending) (w' : World) : Prop :=
  ∃ x y z, e = .returned (.tuple #[x, y, z]) ∧ RdI w' x (pickL f (readyL (distT n (arcs l) src) f) need).1 ∧ w'.ownsRow w.heap.size 3 1 y (pickL f (readyL (distT n (arcs l) src) f) need).2.length (ints (pickL f (readyL (distT n (arcs l) src) f) need).2) ∧ RdI w' z (allT (distT n (arcs l) src) f) ∧ Below w.heap.size w w'
set_option maxRecDepth 100000 in
set_option maxHeartbeats 4000000 in
theorem dsPick_c (n : Nat) (s : Value) (l : List St) (v : Value) (f : List Ap) (src : Nat) (vn : Value) (need : List Int) (w : World) (hg : goodTown n l = true) (hfl : goodFl f = true) (hnd : ∀ a ∈ f, 0 ≤ a.nd ∧ a.nd ≤ (n : Int) - 1) (hs : src < n) (hne : needB need = true)
    (hr : Rd w s l.length (l.flatMap St.cells)) (hf : Rd w v f.length (f.flatMap Ap.cells)) (hvn : RdI w vn need) :
    Calls Tryz.prog 86 #[.agg #[.int .i64 n, s], v, .int .i64 src, vn] w (PickIs n l f src need w) := by
  obtain ⟨hf12, hfg⟩ := goodFl_true hfl
  obtain ⟨hn4, hnb⟩ := needB_true hne
  have HR := Lib.hid hr
  have HF := Lib.hid hf
  have HN := Lib.hid hvn
  have HG := Lib.hid hg
  have HFL := Lib.hid hfl
  have HND := Lib.hid hnd
  have HFG := Lib.hid hfg
  have HN4 := Lib.hid hn4
  have HNB := Lib.hid hnb
  obtain ⟨A, c, rfl, hc, hm, hcell0⟩ := hf
  rw [maxLen_eq] at hm
  have HCELL := Lib.hid hcell0
  obtain ⟨i0', hi, hz0, hz1, hz2⟩ := info_parts Tryz.infoInt
  clear hr hcell0 hfl hfg hg hnd hvn hnb hne
  go_enter Tryz.func86, Tryz.ntmps86
  go_wp2_with fail
  generalize hW : World.alloc w _ = w0
  have hb0 : Below w.heap.size w w0 := by subst hW; exact bel_al (Below.refl _ _) _
  have HB := Lib.hid hb0
  clear hW hb0
  refine (dsReady_c n s l _ f src _ HG.out HFL.out HND.out hs (rd_below HR.out HB.out) (rd_below HF.out HB.out)).mono ?_
  rintro e w1 ⟨v5, u5, rfl, hv5, hu5, hb1⟩
  have HB1 := Lib.hid (bel_then HB.out hb1)
  have HU5 := Lib.hid hu5
  clear hb1
  have hrl := readyL_len (distT n (arcs l) src) f
  have hlm : ∀ y ∈ readyL (distT n (arcs l) src) f, ∃ (i : Nat) (a : Ap), y = (i : Int) ∧ f[i]? = some a := fun y hy => by
    obtain ⟨i, a, h1, h2, _⟩ := readyL_mem hy
    exact ⟨i, a, h1, h2⟩
  obtain ⟨L, hL⟩ : ∃ L, readyL (distT n (arcs l) src) f = L := ⟨_, rfl⟩
  rw [hL] at hv5 hrl hlm
  have HLL := Lib.hid hL
  have HLM := Lib.hid hlm
  have HV5 := Lib.hid hv5
  obtain ⟨A5, c5, rfl, hc5, hm5, hcell5⟩ := hv5
  rw [maxLen_eq] at hm5
  have HC5' := Lib.hid hcell5
  clear hcell5 hlm hL hu5
  go_wp2_with fail
  refine (l1Own_c _ need _ (rd_below HN.out HB1.out) (by omega)).mono ?_
  rintro e w2 ⟨v9, rfl, ho9, hb2⟩
  rw [hn4] at ho9
  obtain ⟨g, cg, rfl, hbg, hgl, hcg, hcmg⟩ := own_shape ho9 (by omega)
  have HB2 := Lib.hid (bel_then HB1.out hb2)
  have HLW0 := Lib.hid (own_base ho9 HB1.out.size)
  have hs1 := HB1.out.size
  have hs2 := hb2.size
  have hc52 : 0 < L.length → ∃ b off, A5 = some ⟨b, off, none⟩ ∧ b < w1.heap.size ∧ ∀ j u, (ints L)[j]? = some u → w2.cell? ⟨b, off + j, none⟩ = some u := fun h => by
    obtain ⟨b, off, e, hb, hcl⟩ := HC5'.out h
    exact ⟨b, off, e, hb, fun j u hu => (hb2.cell (p := ⟨b, off + j, none⟩) hb).trans (hcl j u hu)⟩
  have HC5 := Lib.hid hc52
  have HZ := Lib.hid (rd_below HU5.out hb2)
  have HZB : Hid (∀ b' off' n' c', u5 = .slice (some ⟨b', off', none⟩) n' c' → 0 < (allT (distT n (arcs l) src) f).length → b' ≠ g) := Lib.hid (fun b' off' n' c' e hl => by
    obtain ⟨A6, c6, rfl, _, _, h6⟩ := HU5.out
    obtain ⟨b6, off6, rfl, hb6, _⟩ := h6 hl
    cases e
    omega)
  clear ho9 hb2 hc52
  go_wp2_with fail
  go_loopw [14, 28] (fun vo vi wr => ∃ (k : Nat) (S d : List Int), k ≤ L.length ∧ S.length ≤ k ∧ vi = .int .i64 k ∧ Hid (pickL f (L.take k) need = (S, d)) ∧ Hid (d.length = 4) ∧ Hid (∀ j, d.getD j 0 ≤ 6) ∧ Hid (wr.ownsRow w2.heap.size 3 1 vo S.length (ints S)) ∧ Hid (wr.ownsRow w.heap.size 3 1 (.slice (some ⟨g, 0, none⟩) 4 cg) 4 (ints d)) ∧ Hid (w2.grownBy wr (some g))) (fun _ vi _ => L.length - (intOf vi).toNat)
  case atStart => exact ⟨0, [], need, Nat.zero_le _, Nat.le_refl _, rfl, Lib.hid rfl, HN4, Lib.hid (fun j => getD_le _ _ (by omega) (fun y hy => (HNB.out y hy).2) j), Lib.hid (World.ownsRow_nil _ _ _ _), HLW0, Lib.hid (World.grownBy.refl _ _)⟩
  case round =>
    obtain ⟨k, S, d, hk, hSk, rfl, HPK, HDL, HDB, HOW, HLW, HGR⟩ := hrel
    obtain ⟨wA, rfl⟩ : ∃ wA : World, wA = wr := ⟨_, rfl⟩
    have hsA := HGR.out.size
    by_cases hlt : k < L.length
    · obtain ⟨b5, off5, rfl, hb5, hcl5⟩ := HC5.out (by omega)
      have hb5 : b5 < w2.heap.size := by omega
      obtain ⟨y, hy⟩ : ∃ y, L[k]? = some y := ⟨_, List.getElem?_eq_getElem hlt⟩
      obtain ⟨i, a, rfl, ha⟩ := HLM.out y (List.mem_of_getElem? hy)
      obtain ⟨nm, kd, nd, cr, sv⟩ := a
      have hgd := goodAp_true (HFG.out _ (List.mem_of_getElem? ha))
      dsimp only at hgd
      obtain ⟨_, hkd0, hkd3, _, _, _⟩ := hgd
      obtain ⟨q, rfl⟩ := Int.eq_ofNat_of_zero_le hkd0
      have hif : i < f.length := (List.getElem?_eq_some_iff.1 ha).1
      obtain ⟨b, off, rfl, hbl, hcell⟩ := HCELL.out (by omega)
      obtain ⟨_, d1, _, _, _⟩ := ap_at hcell (bel_grown HB2.out HGR.out (fun q e => by have := Option.some.inj e; omega)) hbl ha
      dsimp only at d1
      have hkq := kdOf_at ha
      dsimp only at hkq
      rw [Int.toNat_natCast] at hkq
      have co := (gro_cell HGR.out (o := off5 + k) hb5 (by omega)).trans (hcl5 k _ (ints_get hy))
      have ca := own_cell HLW.out (show q < 4 by omega)
      have fb := HLW.out.frozenAt q
      obtain ⟨x, hx⟩ : ∃ x, d.getD q 0 = x := ⟨_, rfl⟩
      rw [hx] at ca
      have hx6 : x ≤ 6 := by rw [← hx]; exact HDB.out q
      have HST := Lib.hid (pickL_snoc (f := f) (need := need) hy)
      have HQ := Lib.hid hkq
      have HX := Lib.hid hx
      have i0 : (0 : Int) ≤ (i : Int) := by omega
      have i1 : (i : Int) < (f.length : Int) := by omega
      have q0 : (0 : Int) ≤ (q : Int) := by omega
      have q4 : (q : Int) < 4 := by omega
      have HOWS := Lib.hid (own_other HOW.out (g := g) (by omega) q (.int .i64 (x - 1)))
      have HLWS := Lib.hid (own_setI HLW.out q (x - 1))
      have HGRS := Lib.hid (only_setCell HGR.out q (.int .i64 (x - 1)))
      have hz0' : (wA.setCell ⟨g, q, none⟩ (.int .i64 (x - 1))).heap.size = wA.heap.size := by simp
      clear hcl5 hy ha hcell hkq hx hkd3
      by_cases hpos : 0 < x
      · have HYES : Hid (pickL f (L.take (k + 1)) need = (S ++ [(i : Int)], d.set q (x - 1))) := Lib.hid (by
          rw [HST.out, HPK.out]; exact pickStep_yes HQ.out HX.out hpos)
        have s3 : IntKind.i64.wrap (x - 1) = x - 1 := IntWalk.i64_in _ (by omega)
        go_wp2_with (at_builtin; refine wpList_app_rd _ rfl _ _ 48 rfl w2.heap.size 3 i0' (.int .i64 0) 1 8 Tryz.underlying48 hi hz0 hz1 hz2 rfl (by decide) _ _ _ rfl (HOWS.out.alloc _) _ 1 [.int .i64 i] rfl (rd_new _ hz0'.symm (Nat.le_refl _) (by rw [maxLen_eq]; omega)) rfl (ints_one [(i : Int)]) (by rw [maxLen_eq]; omega) (by omega) (by simp; omega) ?_; intro v7 w7 hown7 hgrow7 _)
        have hlo := HOW.out.lt
        refine ⟨⟨k + 1, S ++ [(i : Int)], d.set q (x - 1), by omega, by simp; omega, by go_num, HYES, Lib.hid (by rw [List.length_set]; exact HDL.out), Lib.hid (fun j => by have := HDB.out j; exact set_le _ _ _ _ (by omega) HDB.out j), Lib.hid ?_, Lib.hid ?_, Lib.hid ?_⟩, by simp [intOf]; omega⟩
        · rw [ints_append, List.length_append]; exact hown7
        · exact kept3 (HLWS.out.alloc _) hgrow7 (fun p p' e e' => by have := (hlo p' e').1; have : g = p := Option.some.inj e; omega)
        · exact gro_and (gro_al HGRS.out _) hgrow7 (fun p e => (hlo p e).1)
      · have HNO : Hid (pickL f (L.take (k + 1)) need = (S, d)) := Lib.hid (by rw [HST.out, HPK.out]; exact pickStep_no HQ.out HX.out (by omega))
        go_wp2
        exact ⟨⟨k + 1, S, d, by omega, by omega, by go_num, HNO, HDL, HDB, HOW, HLW, HGR⟩, by simp [intOf]; omega⟩
    · obtain rfl : k = L.length := by omega
      have hpk := HPK.out
      rw [List.take_length] at hpk
      have HP := Lib.hid hpk
      clear hpk
      go_wp2
      go_ret3
      have hzz : RdI wA u5 (allT (distT n (arcs l) src) f) := rdi_gro HZ.out HGR.out (fun b' off' n' c' e hl => HZB.out b' off' n' c' e hl)
      refine ⟨_, _, _, rfl, ?_, ?_, hzz, bel_grown HB2.out HGR.out (fun q e => by have := Option.some.inj e; omega)⟩
      · rw [HLL.out, HP.out]; exact rdi_own HOW.out
      · rw [HLL.out, HP.out]; dsimp only; rw [HDL.out]; exact HLW.out
end Go.Proofs.YthgegghdkoeofaaGreatDoor

namespace Go.Proofs.YthgegghdkoeofaaGreatDoor
set_option linter.unusedVariables false
set_option linter.unusedSimpArgs false
open Go.RowKit

/-! a list without repeats inside another -/
theorem nodup_len {α : Type} [DecidableEq α] : ∀ (a b : List α), a.Nodup → (∀ x ∈ a, x ∈ b) → a.length ≤ b.length := by
  intro a
  induction a with
  | nil => intro b _ _; simp
  | cons x a ih =>
    intro b hn hs
    obtain ⟨hx, hn⟩ := List.nodup_cons.1 hn
    have hxb := hs x (by simp)
    have h := ih (b.erase x) hn (fun y hy => (List.mem_erase_of_ne (fun e => hx (by rw [← e]; exact hy))).2 (hs y (by simp [hy])))
    rw [List.length_erase_of_mem hxb] at h
    have := List.length_pos_of_mem hxb
    rw [List.length_cons]; omega
theorem nodup_back {α : Type} [DecidableEq α] {a b : List α} (hn : a.Nodup) (hs : ∀ x ∈ a, x ∈ b) (hl : a.length = b.length) : ∀ x ∈ b, x ∈ a := fun x hx => by
  rcases Classical.em (x ∈ a) with h | h
  · exact h
  · have := nodup_len (x :: a) b (List.nodup_cons.2 ⟨h, hn⟩) (fun y hy => by
      rcases List.mem_cons.1 hy with rfl | hy
      · exact hx
      · exact hs y hy)
    rw [List.length_cons] at this; omega
theorem nodup_filter {α : Type} {l : List α} (p : α → Bool) (h : l.Nodup) : (l.filter p).Nodup := List.Nodup.sublist List.filter_sublist h
theorem nodup_map_of {α β : Type} (g : α → β) : ∀ (l : List α), l.Nodup → (∀ x ∈ l, ∀ y ∈ l, g x = g y → x = y) → (l.map g).Nodup := by
  intro l
  induction l with
  | nil => intro _ _; simp
  | cons x l ih =>
    intro hn hi
    obtain ⟨hx, hn⟩ := List.nodup_cons.1 hn
    rw [List.map_cons, List.nodup_cons]
    refine ⟨fun h => ?_, ih hn (fun a ha b hb => hi a (by simp [ha]) b (by simp [hb]))⟩
    obtain ⟨y, hy, e⟩ := List.mem_map.1 h
    exact hx (hi y (by simp [hy]) x (by simp) e ▸ hy)
/-! names that rise are different -/
theorem bLess_irrefl : ∀ x : List UInt8, Op.bytesLess x x = false := by
  intro x
  induction x with
  | nil => rfl
  | cons a x ih => simp [Op.bytesLess, ih]
theorem bLess_trans : ∀ x y z : List UInt8, Op.bytesLess x y = true → Op.bytesLess y z = true → Op.bytesLess x z = true := by
  intro x
  induction x with
  | nil => intro y z h1 h2; cases z with
    | nil => cases y <;> simp [Op.bytesLess] at h2
    | cons c z => rfl
  | cons a x ih => intro y z h1 h2; cases y with
    | nil => simp [Op.bytesLess] at h1
    | cons b y => cases z with
      | nil => simp [Op.bytesLess] at h2
      | cons c z =>
        simp only [Op.bytesLess, Bool.or_eq_true, Bool.and_eq_true, decide_eq_true_eq, beq_iff_eq] at h1 h2 ⊢
        rcases h1 with h1 | ⟨rfl, h1⟩
        · rcases h2 with h2 | ⟨rfl, h2⟩
          · exact .inl (UInt8.lt_trans h1 h2)
          · exact .inl h1
        · rcases h2 with h2 | ⟨rfl, h2⟩
          · exact .inl h2
          · exact .inr ⟨rfl, ih _ _ h1 h2⟩
/-- Neighbours that rise: any two rise. -/
theorem rise_all {l : List ByteArray} (h : ∀ k a b, l[k]? = some a → l[k + 1]? = some b → Op.bytesLess a.toList b.toList = true) : ∀ (d i : Nat) (a b : ByteArray), l[i]? = some a → l[i + 1 + d]? = some b → Op.bytesLess a.toList b.toList = true := by
  intro d
  induction d with
  | zero => intro i a b ha hb; exact h i a b ha hb
  | succ d ih =>
    intro i a b ha hb
    have hlt : i + 1 + d < l.length := by have := (List.getElem?_eq_some_iff.1 hb).1; omega
    obtain ⟨c, hc⟩ : ∃ c, l[i + 1 + d]? = some c := ⟨_, List.getElem?_eq_getElem hlt⟩
    exact bLess_trans _ _ _ (ih i a c ha hc) (h _ c b hc hb)
theorem rise_inj {l : List ByteArray} (h : ∀ k a b, l[k]? = some a → l[k + 1]? = some b → Op.bytesLess a.toList b.toList = true) {i j : Nat} {a : ByteArray} (hi : l[i]? = some a) (hj : l[j]? = some a) : i = j := by
  rcases Nat.lt_trichotomy i j with hlt | rfl | hlt
  · obtain ⟨d, rfl⟩ : ∃ d, j = i + 1 + d := ⟨j - i - 1, by omega⟩
    have := rise_all h d i a a hi hj
    rw [bLess_irrefl] at this; cases this
  · rfl
  · obtain ⟨d, rfl⟩ : ∃ d, i = j + 1 + d := ⟨i - j - 1, by omega⟩
    have := rise_all h d j a a hj hi
    rw [bLess_irrefl] at this; cases this
theorem names_rise {q : List ByteArray} (h : namesB q = true) : ∀ k a b, q[k]? = some a → q[k + 1]? = some b → Op.bytesLess a.toList b.toList = true := fun k a b ha hb => by
  unfold namesB at h
  have := List.all_eq_true.1 h (k + 1) (List.mem_range.2 (List.getElem?_eq_some_iff.1 hb).1)
  rw [okNm_next hb ha] at this
  unfold geS at this
  simpa using this
theorem nodup_idx {α : Type} {l : List α} (h : ∀ (i j : Nat) (a : α), l[i]? = some a → l[j]? = some a → i = j) : l.Nodup := by
  rw [List.nodup_iff_pairwise_ne, List.pairwise_iff_getElem]
  intro i j hi hj hij e
  have := h i j _ (List.getElem?_eq_getElem hi) (by rw [e]; exact List.getElem?_eq_getElem hj)
  omega
theorem names_nodup {q : List ByteArray} (h : namesB q = true) : q.Nodup := nodup_idx fun _ _ _ hi hj => rise_inj (names_rise h) hi hj
theorem fleet_rise {f : List Ap} (h : goodFl f = true) : ∀ k a b, (f.map Ap.nm)[k]? = some a → (f.map Ap.nm)[k + 1]? = some b → Op.bytesLess a.toList b.toList = true := fun k a b ha hb => by
  unfold goodFl at h
  rw [Bool.and_eq_true] at h
  rw [List.getElem?_map, Option.map_eq_some_iff] at ha hb
  obtain ⟨x, hx, rfl⟩ := ha
  obtain ⟨y, hy, rfl⟩ := hb
  have := List.all_eq_true.1 h.2 (k + 1) (List.mem_range.2 (List.getElem?_eq_some_iff.1 hy).1)
  unfold okAp at this
  rw [hy] at this
  simp only [Nat.add_sub_cancel, hx] at this
  unfold geS at this
  simp at this
  exact this.2
theorem fleet_inj {f : List Ap} (h : goodFl f = true) {i j : Nat} {a b : Ap} (hi : f[i]? = some a) (hj : f[j]? = some b) (e : a.nm = b.nm) : i = j :=
  rise_inj (fleet_rise h) (a := a.nm) (by rw [List.getElem?_map, hi]; rfl) (by rw [List.getElem?_map, hj, e]; rfl)
/-! the plain values -/
def nmI (f : List Ap) (i : Int) : ByteArray := match f[i.toNat]? with
  | some a => a.nm
  | none => ⟨#[]⟩
theorem nmI_at {f : List Ap} {i : Nat} {a : Ap} (h : f[i]? = some a) : nmI f (i : Int) = a.nm := by unfold nmI; rw [Int.toNat_natCast, h]
def hasN (q : List ByteArray) (nm : ByteArray) : Bool := q.any fun s => decide (s = nm)
theorem hasN_iff {q : List ByteArray} {nm : ByteArray} : hasN q nm = true ↔ nm ∈ q := by
  unfold hasN
  rw [List.any_eq_true]
  constructor
  · rintro ⟨s, hs, h⟩; exact of_decide_eq_true h ▸ hs
  · intro h; exact ⟨nm, h, decide_eq_true rfl⟩
theorem hasN_false {q : List ByteArray} {nm : ByteArray} (h : nm ∉ q) : hasN q nm = false := by
  cases e : hasN q nm
  · rfl
  · exact absurd (hasN_iff.1 e) h
def cntStep (f : List Ap) (d : List Int) (i : Int) : List Int := d.set (kdOf f i) (d.getD (kdOf f i) 0 + 1)
def cntL (f : List Ap) (H : List Int) : List Int := H.foldl (cntStep f) [0, 0, 0, 0]
def wstStep (ev : List Int) (f : List Ap) (d : List Int) (i : Int) : List Int := d.set (kdOf f i) (max (d.getD (kdOf f i) 0) (rdyKey ev f i))
def wstL (ev : List Int) (f : List Ap) (H : List Int) : List Int := H.foldl (wstStep ev f) [-1, -1, -1, -1]
def hasL (f : List Ap) (q : List ByteArray) (R : List Int) : List Int := R.filter fun i => hasN q (nmI f i)
/-- What the reference says. -/
def bestS (ev : List Int) (f : List Ap) (R : List Int) (need mis : List Int) (q : List ByteArray) : Bool :=
  namesB q && ((List.range 4).all (fun k => (cntL f (hasL f q R)).getD k 0 == need.getD k 0 - mis.getD k 0) && ((cntL f (hasL f q R)).sum == (q.length : Int) && R.all fun i => hasN q (nmI f i) || !decide (rdyKey ev f i < (wstL ev f (hasL f q R)).getD (kdOf f i) 0)))
def okTk (f : List Ap) (R : List Int) (q : List ByteArray) (k : Nat) : Bool := okNm q k && match q[k]? with
  | some nm => decide (findA nm f ∈ R)
  | none => true
def takenL (f : List Ap) (q : List ByteArray) : List Int := q.map fun nm => findA nm f
/-- What the program says. -/
def bestI (ev : List Int) (f : List Ap) (R : List Int) (need mis : List Int) (q : List ByteArray) : Bool :=
  (List.range q.length).all (okTk f R q) && (decide (missL f (takenL f q) need = mis) && R.all fun i => decide (i ∈ takenL f q) || !decide (rdyKey ev f i < (wstL ev f (takenL f q)).getD (kdOf f i) 0))
/-! what the steps hold -/
theorem set4_len {d : List Int} {k : Nat} {x : Int} : (d.set k x).length = d.length := List.length_set
theorem getD_set_eq {d : List Int} {k : Nat} {x : Int} (h : k < d.length) : (d.set k x).getD k 0 = x := by simp [List.getD, h]
theorem getD_set_ne {d : List Int} {k j : Nat} {x : Int} (h : k ≠ j) : (d.set k x).getD j 0 = d.getD j 0 := by simp [List.getD, List.getElem?_set_ne h]
theorem cnt_aux (f : List Ap) : ∀ (H d : List Int), d.length = 4 → (H.foldl (cntStep f) d).length = 4 ∧ ∀ k, k < 4 → (H.foldl (cntStep f) d).getD k 0 = d.getD k 0 + ((H.filter fun i => kdOf f i == k).length : Int) := by
  intro H
  induction H with
  | nil => intro d hd; exact ⟨hd, fun k _ => by simp⟩
  | cons i H ih =>
    intro d hd
    obtain ⟨h1, h2⟩ := ih (cntStep f d i) (by unfold cntStep; rw [set4_len, hd])
    refine ⟨h1, fun k hk => ?_⟩
    rw [List.foldl_cons, h2 k hk, List.filter_cons]
    unfold cntStep
    by_cases e : kdOf f i = k
    · subst e
      rw [getD_set_eq (by omega)]
      simp
      omega
    · rw [getD_set_ne e]
      simp [e]
theorem cnt_len (f : List Ap) (H : List Int) : (cntL f H).length = 4 := (cnt_aux f H _ rfl).1
theorem cnt_get (f : List Ap) (H : List Int) {k : Nat} (hk : k < 4) : (cntL f H).getD k 0 = ((H.filter fun i => kdOf f i == k).length : Int) := by
  have h := (cnt_aux f H [0, 0, 0, 0] rfl).2 k hk
  have e : ([0, 0, 0, 0] : List Int).getD k 0 = 0 := by rcases k with _ | _ | _ | _ | k <;> first | rfl | omega
  unfold cntL
  rw [h, e]; omega
theorem miss_aux (f : List Ap) : ∀ (H d : List Int), d.length = 4 → (H.foldl (missStep f) d).length = 4 ∧ ∀ k, k < 4 → (H.foldl (missStep f) d).getD k 0 = d.getD k 0 - ((H.filter fun i => kdOf f i == k).length : Int) := by
  intro H
  induction H with
  | nil => intro d hd; exact ⟨hd, fun k _ => by simp⟩
  | cons i H ih =>
    intro d hd
    obtain ⟨h1, h2⟩ := ih (missStep f d i) (by unfold missStep; rw [set4_len, hd])
    refine ⟨h1, fun k hk => ?_⟩
    rw [List.foldl_cons, h2 k hk, List.filter_cons]
    unfold missStep
    by_cases e : kdOf f i = k
    · subst e
      rw [getD_set_eq (by omega)]
      simp
      omega
    · rw [getD_set_ne e]
      simp [e]
theorem sum_kinds (g : Int → Nat) : ∀ H : List Int, (∀ i ∈ H, g i < 4) → (H.filter fun i => g i == 0).length + (H.filter fun i => g i == 1).length + (H.filter fun i => g i == 2).length + (H.filter fun i => g i == 3).length = H.length := by
  intro H
  induction H with
  | nil => intro _; rfl
  | cons i H ih =>
    intro h
    have hi := h i (by simp)
    have := ih (fun x hx => h x (by simp [hx]))
    rcases (show g i = 0 ∨ g i = 1 ∨ g i = 2 ∨ g i = 3 by omega) with e | e | e | e <;> simp [List.filter_cons, e] <;> omega
theorem list4g {d : List Int} (h : d.length = 4) : d = [d.getD 0 0, d.getD 1 0, d.getD 2 0, d.getD 3 0] := by
  match d, h with
  | [a, b, c, e], _ => rfl
theorem sum4 {d : List Int} (h : d.length = 4) : d.sum = d.getD 0 0 + d.getD 1 0 + d.getD 2 0 + d.getD 3 0 := by
  match d, h with
  | [a, b, c, e], _ => simp [List.getD]; omega
theorem cnt_sum (f : List Ap) (H : List Int) (h : ∀ i ∈ H, kdOf f i < 4) : (cntL f H).sum = (H.length : Int) := by
  rw [sum4 (cnt_len f H), cnt_get f H (by omega), cnt_get f H (by omega), cnt_get f H (by omega), cnt_get f H (by omega)]
  have := sum_kinds (kdOf f) H h
  omega
theorem wst_aux (ev : List Int) (f : List Ap) : ∀ (H d : List Int), d.length = 4 → (H.foldl (wstStep ev f) d).length = 4 ∧ ∀ k, k < 4 → d.getD k 0 ≤ (H.foldl (wstStep ev f) d).getD k 0 ∧ (∀ i ∈ H, kdOf f i = k → rdyKey ev f i ≤ (H.foldl (wstStep ev f) d).getD k 0) ∧
    ∀ c, d.getD k 0 ≤ c → (∀ i ∈ H, kdOf f i = k → rdyKey ev f i ≤ c) → (H.foldl (wstStep ev f) d).getD k 0 ≤ c := by
  intro H
  induction H with
  | nil => intro d hd; exact ⟨hd, fun k _ => ⟨Int.le_refl _, by simp, fun c h _ => h⟩⟩
  | cons i H ih =>
    intro d hd
    obtain ⟨h1, h2⟩ := ih (wstStep ev f d i) (by unfold wstStep; rw [set4_len, hd])
    refine ⟨h1, fun k hk => ?_⟩
    obtain ⟨a, b, c⟩ := h2 k hk
    rw [List.foldl_cons]
    by_cases e : kdOf f i = k
    · have hg : (wstStep ev f d i).getD k 0 = max (d.getD k 0) (rdyKey ev f i) := by unfold wstStep; rw [e, getD_set_eq (by omega)]
      rw [hg] at a c
      refine ⟨by omega, fun j hj hjk => ?_, fun c' h3 h4 => c c' (by have := h4 i (by simp) e; omega) (fun j hj => h4 j (by simp [hj]))⟩
      rcases List.mem_cons.1 hj with rfl | hj
      · omega
      · exact b j hj hjk
    · have hg : (wstStep ev f d i).getD k 0 = d.getD k 0 := by unfold wstStep; rw [getD_set_ne e]
      rw [hg] at a c
      refine ⟨a, fun j hj hjk => ?_, fun c' h3 h4 => c c' h3 (fun j hj => h4 j (by simp [hj]))⟩
      rcases List.mem_cons.1 hj with rfl | hj
      · exact absurd hjk e
      · exact b j hj hjk
theorem wst_congr (ev : List Int) (f : List Ap) {H T : List Int} (h1 : ∀ x ∈ H, x ∈ T) (h2 : ∀ x ∈ T, x ∈ H) {k : Nat} (hk : k < 4) : (wstL ev f H).getD k 0 = (wstL ev f T).getD k 0 := by
  obtain ⟨a, b, c⟩ := (wst_aux ev f H [-1, -1, -1, -1] rfl).2 k hk
  obtain ⟨a', b', c'⟩ := (wst_aux ev f T [-1, -1, -1, -1] rfl).2 k hk
  exact Int.le_antisymm (c _ a' (fun i hi => b' i (h1 i hi))) (c' _ a (fun i hi => b i (h2 i hi)))
/-! the two agree -/
theorem best_eq (ev : List Int) (f : List Ap) (R : List Int) (need : List Int) (q : List ByteArray) (P : List Int) (hfl : goodFl f = true) (hR : ∀ y ∈ R, ∃ (i : Nat) (a : Ap), y = (i : Int) ∧ f[i]? = some a) (hnd : R.Nodup) (hn4 : need.length = 4) :
    bestI ev f R need (missL f P need) q = bestS ev f R need (missL f P need) q := by
  have hkd : ∀ y ∈ R, kdOf f y < 4 := fun y hy => by
    obtain ⟨i, a, rfl, ha⟩ := hR y hy
    obtain ⟨_, h0, h3, _⟩ := goodAp_true ((goodFl_true hfl).2 a (List.mem_of_getElem? ha))
    rw [kdOf_at ha]; omega
  have hfind : ∀ y ∈ R, findA (nmI f y) f = y := fun y hy => by
    obtain ⟨i, a, rfl, ha⟩ := hR y hy
    rw [nmI_at ha]
    have h0 : 0 ≤ findA a.nm f := of_decide_eq_true (by unfold findA; rw [(idxG_any _ _).1]; exact List.any_eq_true.2 ⟨a, List.mem_of_getElem? ha, by simp⟩)
    obtain ⟨j, hj⟩ := Int.eq_ofNat_of_zero_le h0
    obtain ⟨b, hb, hbp⟩ := idxG_get hj
    have := fleet_inj hfl ha hb (of_decide_eq_true hbp).symm
    rw [hj, this]
  have hname : ∀ nm ∈ q, findA nm f ∈ R → nmI f (findA nm f) = nm := fun nm _ h => by
    obtain ⟨i, a, e, ha⟩ := hR _ h
    obtain ⟨b, hb, hbp⟩ := idxG_get e
    rw [e, nmI_at hb]
    exact of_decide_eq_true hbp
  by_cases hN : namesB q = true
  · have hqn := names_nodup hN
    have hHn : (hasL f q R).Nodup := nodup_filter _ hnd
    have hHR : ∀ y ∈ hasL f q R, y ∈ R := fun y hy => (List.mem_filter.1 hy).1
    have hinj : ∀ x ∈ R, ∀ y ∈ R, nmI f x = nmI f y → x = y := fun x hx y hy e => by rw [← hfind x hx, ← hfind y hy, e]
    have hmn : ((hasL f q R).map (nmI f)).Nodup := nodup_map_of _ _ hHn (fun x hx y hy => hinj x (hHR x hx) y (hHR y hy))
    have hms : ∀ z ∈ (hasL f q R).map (nmI f), z ∈ q := fun z hz => by
      obtain ⟨y, hy, rfl⟩ := List.mem_map.1 hz
      exact hasN_iff.1 (List.mem_filter.1 hy).2
    have hall : (List.range q.length).all (okTk f R q) = decide (∀ nm ∈ q, findA nm f ∈ R) := by
      by_cases h : ∀ nm ∈ q, findA nm f ∈ R
      · rw [decide_eq_true h, List.all_eq_true]
        intro k hk
        unfold okTk
        rw [List.all_eq_true.1 hN k hk]
        obtain ⟨nm, hnm⟩ : ∃ nm, q[k]? = some nm := ⟨_, List.getElem?_eq_getElem (List.mem_range.1 hk)⟩
        rw [hnm]
        exact decide_eq_true (h nm (List.mem_of_getElem? hnm))
      · rw [decide_eq_false h, List.all_eq_false]
        have ⟨nm, hnm, hno⟩ : ∃ nm, nm ∈ q ∧ findA nm f ∉ R := by
          apply Classical.byContradiction
          intro hc
          exact h (fun nm hm => Classical.byContradiction fun hn => hc ⟨nm, hm, hn⟩)
        obtain ⟨k, hk, e⟩ := List.getElem_of_mem hnm
        refine ⟨k, List.mem_range.2 hk, ?_⟩
        unfold okTk
        rw [List.getElem?_eq_getElem hk, e]
        simp [hno]
    by_cases hA : ∀ nm ∈ q, findA nm f ∈ R
    · have hTn : (takenL f q).Nodup := nodup_map_of _ _ hqn (fun x hx y hy e => by rw [← hname x hx (hA x hx), ← hname y hy (hA y hy), e])
      have hTH : ∀ x ∈ takenL f q, x ∈ hasL f q R := fun x hx => by
        obtain ⟨nm, hm, rfl⟩ := List.mem_map.1 hx
        exact List.mem_filter.2 ⟨hA nm hm, by rw [hname nm hm (hA nm hm)]; exact hasN_iff.2 hm⟩
      have hHT : ∀ x ∈ hasL f q R, x ∈ takenL f q := fun x hx => by
        obtain ⟨h1, h2⟩ := List.mem_filter.1 hx
        exact List.mem_map.2 ⟨nmI f x, hasN_iff.1 h2, hfind x h1⟩
      have hTl : (takenL f q).length = q.length := by unfold takenL; rw [List.length_map]
      have hHl : (hasL f q R).length = q.length := by
        have h1 := nodup_len _ _ hTn hTH
        have h2 := nodup_len _ _ hHn hHT
        omega
      have hkeq : ∀ k, ((takenL f q).filter fun i => kdOf f i == k).length = ((hasL f q R).filter fun i => kdOf f i == k).length := fun k => by
        have h1 := nodup_len _ _ (nodup_filter (fun i => kdOf f i == k) hTn) (fun x hx => List.mem_filter.2 ⟨hTH x (List.mem_filter.1 hx).1, (List.mem_filter.1 hx).2⟩)
        have h2 := nodup_len _ _ (nodup_filter (fun i => kdOf f i == k) hHn) (fun x hx => List.mem_filter.2 ⟨hHT x (List.mem_filter.1 hx).1, (List.mem_filter.1 hx).2⟩)
        omega
      have hsum : (cntL f (hasL f q R)).sum == (q.length : Int) := by
        rw [cnt_sum f _ (fun i hi => hkd i (hHR i hi)), hHl]; exact beq_iff_eq.2 rfl
      have hmiss : decide (missL f (takenL f q) need = missL f P need) = (List.range 4).all (fun k => (cntL f (hasL f q R)).getD k 0 == need.getD k 0 - (missL f P need).getD k 0) := by
        have hm1 := miss_aux f (takenL f q) need hn4
        have hm2 := (miss_aux f P need hn4).1
        have hval : ∀ k, k < 4 → (missL f (takenL f q) need).getD k 0 = need.getD k 0 - (cntL f (hasL f q R)).getD k 0 := fun k hk => by
          unfold missL
          rw [hm1.2 k hk, cnt_get f _ hk, hkeq]
        rw [Bool.eq_iff_iff, decide_eq_true_iff, List.all_eq_true]
        constructor
        · intro e k hk
          have := hval k (List.mem_range.1 hk)
          rw [e] at this
          exact beq_iff_eq.2 (by omega)
        · intro h
          have e : ∀ k, k < 4 → (missL f (takenL f q) need).getD k 0 = (missL f P need).getD k 0 := fun k hk => by
            have h1 := beq_iff_eq.1 (h k (List.mem_range.2 hk))
            have h2 := hval k hk
            omega
          rw [list4g (d := missL f (takenL f q) need) hm1.1, list4g (d := missL f P need) hm2, e 0 (by omega), e 1 (by omega), e 2 (by omega), e 3 (by omega)]
      have hlast : (R.all fun i => decide (i ∈ takenL f q) || !decide (rdyKey ev f i < (wstL ev f (takenL f q)).getD (kdOf f i) 0)) = R.all fun i => hasN q (nmI f i) || !decide (rdyKey ev f i < (wstL ev f (hasL f q R)).getD (kdOf f i) 0) := by
        rw [Bool.eq_iff_iff, List.all_eq_true, List.all_eq_true]
        have e : ∀ i ∈ R, (decide (i ∈ takenL f q) || !decide (rdyKey ev f i < (wstL ev f (takenL f q)).getD (kdOf f i) 0)) = (hasN q (nmI f i) || !decide (rdyKey ev f i < (wstL ev f (hasL f q R)).getD (kdOf f i) 0)) := fun i hi => by
          rw [wst_congr ev f hTH hHT (hkd i hi)]
          have : decide (i ∈ takenL f q) = hasN q (nmI f i) := by
            by_cases h : i ∈ takenL f q
            · rw [decide_eq_true h]
              exact ((List.mem_filter.1 (hTH i h)).2).symm
            · rw [decide_eq_false h]
              exact (hasN_false (fun hm => h (hHT i (List.mem_filter.2 ⟨hi, hasN_iff.2 hm⟩)))).symm
          rw [this]
        constructor
        · intro h i hi; rw [← e i hi]; exact h i hi
        · intro h i hi; rw [e i hi]; exact h i hi
      unfold bestI bestS
      rw [hall, decide_eq_true hA, hN, hmiss, hsum, hlast]
      simp
    · have hsum : ((cntL f (hasL f q R)).sum == (q.length : Int)) = false := by
        rw [cnt_sum f _ (fun i hi => hkd i (hHR i hi))]
        refine beq_false_of_ne (fun e => hA (fun nm hm => ?_))
        have := nodup_back hmn hms (by rw [List.length_map]; omega) nm hm
        obtain ⟨y, hy, rfl⟩ := List.mem_map.1 this
        rw [hfind y (hHR y hy)]; exact hHR y hy
      unfold bestI bestS
      rw [hall, decide_eq_false hA, hsum]
      simp
  · have hN' : namesB q = false := by simpa using hN
    have : (List.range q.length).all (okTk f R q) = false := by
      rw [List.all_eq_false]
      obtain ⟨k, hk, h⟩ := List.all_eq_false.1 hN'
      refine ⟨k, hk, ?_⟩
      unfold okTk
      have h' : okNm q k = false := by simpa using h
      rw [h']; simp
    unfold bestI bestS
    rw [this, hN']
    simp
end Go.Proofs.YthgegghdkoeofaaGreatDoor

namespace Go.Proofs.YthgegghdkoeofaaGreatDoor
set_option linter.unusedVariables false
set_option linter.unusedSimpArgs false
open Go.RowKit

def callA (a : Ap) : Ap := ⟨a.nm, a.kd, a.nd, a.cr, 1⟩
def sendF (f : List Ap) (L : List Int) : List Ap := f.mapIdx fun i a => if (i : Int) ∈ L then callA a else a
theorem sendF_len (f : List Ap) (L : List Int) : (sendF f L).length = f.length := by simp [sendF]
theorem sendF_get (f : List Ap) (L : List Int) (i : Nat) : (sendF f L)[i]? = (f[i]?).map fun a => if (i : Int) ∈ L then callA a else a := by simp [sendF, List.getElem?_mapIdx]
theorem sendF_nil (f : List Ap) : sendF f [] = f := by
  apply List.ext_getElem?
  intro i
  rw [sendF_get]
  cases f[i]? <;> simp
theorem callA_callA (a : Ap) : callA (callA a) = callA a := rfl
theorem sendF_snoc {f : List Ap} {S : List Int} {i : Nat} {a : Ap} (h : (sendF f S)[i]? = some a) : (sendF f S).set i (callA a) = sendF f (S ++ [(i : Int)]) := by
  apply List.ext_getElem?
  intro j
  rw [List.getElem?_set, sendF_get, sendF_get]
  by_cases e : i = j
  · subst e
    have hi := (List.getElem?_eq_some_iff.1 h).1
    rw [if_pos rfl, if_pos hi]
    rw [sendF_get] at h
    cases hf : f[i]? with
    | none => rw [hf] at h; cases h
    | some b =>
      rw [hf] at h
      simp only [Option.map_some, Option.some.injEq] at h ⊢
      have hm : (i : Int) ∈ S ++ [(i : Int)] := by simp
      rw [if_pos hm, ← h]
      split <;> rfl
  · rw [if_neg e]
    cases f[j]? with
    | none => rfl
    | some b =>
      simp only [Option.map_some, Option.some.injEq]
      have : ((j : Int) ∈ S ++ [(i : Int)]) ↔ (j : Int) ∈ S := by
        rw [List.mem_append, List.mem_singleton]
        constructor
        · rintro (h | h)
          · exact h
          · exact absurd (by omega : i = j) e
        · exact .inl
      simp only [this]
theorem put_state {F : List Ap} {i : Nat} {a : Ap} (h : F[i]? = some a) : (F.flatMap Ap.cells).set (i * 5 + 4) (.int .i64 1) = (F.set i (callA a)).flatMap Ap.cells := by
  have hi := (List.getElem?_eq_some_iff.1 h).1
  have ha := (List.getElem?_eq_some_iff.1 h).2
  have hd : F = F.take i ++ (a :: F.drop (i + 1)) := by rw [← ha, ← List.drop_eq_getElem_cons hi, List.take_append_drop]
  have hl : (F.take i).length = i := by rw [List.length_take]; omega
  have h2 : F.set i (callA a) = F.take i ++ (callA a :: F.drop (i + 1)) := by
    conv => lhs; rw [hd]
    rw [List.set_append_right _ _ (by omega), hl, Nat.sub_self]; rfl
  rw [h2]
  conv => lhs; rw [hd]
  rw [List.flatMap_append, List.flatMap_append, List.set_append_right _ _ (by rw [len_flat Ap.cells_len, hl]; omega), len_flat Ap.cells_len, hl]
  have e : i * 5 + 4 - i * 5 = 4 := by omega
  rw [e]; rfl
/-! one rising list for each set -/
theorem strict_eq : ∀ (a b : List Int), a.Pairwise (· < ·) → b.Pairwise (· < ·) → (∀ x, x ∈ a ↔ x ∈ b) → a = b := by
  intro a
  induction a with
  | nil =>
    intro b _ _ h
    cases b with
    | nil => rfl
    | cons y b => exact absurd ((h y).2 (by simp)) (by simp)
  | cons x a ih =>
    intro b ha hb h
    cases b with
    | nil => exact absurd ((h x).1 (by simp)) (by simp)
    | cons y b =>
      obtain ⟨ha1, ha2⟩ := List.pairwise_cons.1 ha
      obtain ⟨hb1, hb2⟩ := List.pairwise_cons.1 hb
      have hxy : x = y := by
        rcases List.mem_cons.1 ((h x).1 (by simp)) with e | e
        · exact e
        · rcases List.mem_cons.1 ((h y).2 (by simp)) with e' | e'
          · exact e'.symm
          · have := hb1 x e; have := ha1 y e'; omega
      subst hxy
      rw [ih b ha2 hb2 (fun z => ?_)]
      constructor
      · intro hz
        rcases List.mem_cons.1 ((h z).1 (by simp [hz])) with e | e
        · have := ha1 z hz; omega
        · exact e
      · intro hz
        rcases List.mem_cons.1 ((h z).2 (by simp [hz])) with e | e
        · have := hb1 z hz; omega
        · exact e
theorem selD_rise (p : Nat → Bool) (n : Nat) : (selD p n).Pairwise (· < ·) := by
  unfold selD
  rw [List.pairwise_map]
  refine List.Pairwise.imp (R := fun a b : Nat => a < b) (fun h => by omega) ?_
  exact List.Pairwise.sublist List.filter_sublist List.pairwise_lt_range
theorem sort_eq {L : List Int} {n : Nat} (hn : L.Nodup) (hm : ∀ y ∈ L, ∃ i : Nat, y = (i : Int) ∧ i < n) : (L.mergeSort fun x y => decide (x ≤ y)) = selD (fun i => decide ((i : Int) ∈ L)) n := by
  have hp := List.mergeSort_perm L (fun x y => decide (x ≤ y))
  have hs := List.pairwise_mergeSort (le := fun x y : Int => decide (x ≤ y)) (fun a b c h1 h2 => by simp at h1 h2 ⊢; omega) (fun a b => by simp; omega) L
  have hnd : (L.mergeSort fun x y => decide (x ≤ y)).Nodup := hp.nodup_iff.2 hn
  refine strict_eq _ _ ?_ (selD_rise _ _) (fun x => ?_)
  · rw [List.nodup_iff_pairwise_ne] at hnd
    refine List.Pairwise.imp ?_ (hs.and hnd)
    rintro a b ⟨h1, h2⟩
    simp at h1; omega
  · rw [hp.mem_iff]
    unfold selD
    rw [List.mem_map]
    constructor
    · intro h
      obtain ⟨i, rfl, hi⟩ := hm x h
      exact ⟨i, List.mem_filter.2 ⟨List.mem_range.2 hi, decide_eq_true h⟩, rfl⟩
    · rintro ⟨i, hi, rfl⟩
      exact of_decide_eq_true (List.mem_filter.1 hi).2
theorem pick_sub_aux (f : List Ap) : ∀ (L : List Int) (st : List Int × List Int), ∃ T, (L.foldl (pickStep f) st).1 = st.1 ++ T ∧ T.Sublist L := by
  intro L
  induction L with
  | nil => intro st; exact ⟨[], by simp, List.Sublist.refl _⟩
  | cons i L ih =>
    intro st
    obtain ⟨T, h1, h2⟩ := ih (pickStep f st i)
    rw [List.foldl_cons, h1]
    unfold pickStep
    split
    · exact ⟨i :: T, by simp, h2.cons_cons i⟩
    · exact ⟨T, rfl, h2.cons i⟩
theorem pick_nodup (f : List Ap) {L : List Int} (need : List Int) (h : L.Nodup) : (pickL f L need).1.Nodup := by
  obtain ⟨T, h1, h2⟩ := pick_sub_aux f L ([], need)
  unfold pickL
  rw [h1]
  simpa using h.sublist h2
end Go.Proofs.YthgegghdkoeofaaGreatDoor

namespace Go.Proofs.YthgegghdkoeofaaGreatDoor
set_option linter.unusedVariables false
set_option linter.unusedSimpArgs false
open Go.RowKit

def chAt (f : List Ap) (ev : List Int) (i : Int) : Ch := match f[i.toNat]? with
  | some a => ⟨a.nm, ev.getD a.nd.toNat 0⟩
  | none => ⟨⟨#[]⟩, 0⟩
theorem chAt_at {f : List Ap} {ev : List Int} {i : Nat} {a : Ap} (h : f[i]? = some a) : chAt f ev (i : Int) = ⟨a.nm, ev.getD a.nd.toNat 0⟩ := by unfold chAt; rw [Int.toNat_natCast, h]
def chL (f : List Ap) (ev L : List Int) : List Ch := L.map (chAt f ev)
theorem chL_len (f : List Ap) (ev L : List Int) : (chL f ev L).length = L.length := by simp [chL]
theorem chL_snoc {f : List Ap} {ev L : List Int} {k : Nat} {y : Int} (h : L[k]? = some y) : chL f ev (L.take (k + 1)) = chL f ev (L.take k) ++ [chAt f ev y] := by unfold chL; rw [take_succ_of h, List.map_append]; rfl
theorem ch_flat (l : List Ch) (c : Ch) : (l ++ [c]).flatMap Ch.cells = l.flatMap Ch.cells ++ [.string c.cn, .int .i64 c.cs] := by rw [List.flatMap_append]; simp [Ch.cells]
theorem gro_cellr {a b : World} {r : Option Nat} (h : a.grownBy b r) {x o : Nat} (hx : x < a.heap.size) (hne : ∀ q, r = some q → x ≠ q) : b.cell? ⟨x, o, none⟩ = a.cell? ⟨x, o, none⟩ := World.cell?_of_block (h.block x hx (fun e => hne x e.symm rfl))
def OwnCh (l : List Ch) (w : World) (e : Ending) (w' : World) : Prop := ∃ x, e = .returned x ∧ w'.ownsRow w.heap.size 62 2 x l.length (l.flatMap Ch.cells) ∧ Below w.heap.size w w'

set_option maxRecDepth 100000 in
set_option maxHeartbeats 4000000 in
theorem dsChoices_c (v : Value) (f : List Ap) (vl : Value) (L : List Int) (vt : Value) (ev : List Int) (w : World) (hlm' : ∀ y ∈ L, ∃ (i : Nat) (a : Ap), y = (i : Int) ∧ f[i]? = some a) (hl12 : L.length ≤ 12) (hnd : ∀ a ∈ f, 0 ≤ a.nd ∧ a.nd ≤ (ev.length : Int) - 1)
    (hf : Rd w v f.length (f.flatMap Ap.cells)) (hvl : RdI w vl L) (hvt : RdI w vt (allT ev f)) :
    Calls Tryz.prog 97 #[v, vl, vt] w (OwnCh (chL f ev L) w) := by
  have HLM := Lib.hid hlm'
  have HND := Lib.hid hnd
  obtain ⟨A, c, rfl, hc, hm, hcell0⟩ := hf
  rw [maxLen_eq] at hm
  have HCELL := Lib.hid hcell0
  obtain ⟨A5, c5, rfl, hc5, hm5, hcell5⟩ := hvl
  rw [maxLen_eq] at hm5
  have HC5 := Lib.hid hcell5
  obtain ⟨A6, c6, rfl, hc6, hm6, hcell6⟩ := hvt
  rw [maxLen_eq] at hm6
  rw [allT_len] at hc6 hcell6 ⊢
  have HC6 := Lib.hid hcell6
  obtain ⟨i0', hi, hz0, hz1, hz2⟩ := info_parts Tryz.infoCh
  clear hcell0 hlm' hcell5 hcell6 hnd
  go_enter Tryz.func97, Tryz.ntmps97
  go_wp2_with fail
  go_loopw [7, 12] (fun vo vi wr => ∃ (k : Nat) (S : List Ch), k ≤ L.length ∧ S.length = k ∧ vi = .int .i64 k ∧ Hid (chL f ev (L.take k) = S) ∧ Hid (wr.ownsRow w.heap.size 62 2 vo k (S.flatMap Ch.cells)) ∧ Hid (Below w.heap.size w wr)) (fun _ vi _ => L.length - (intOf vi).toNat)
  case atStart => exact ⟨0, [], Nat.zero_le _, rfl, rfl, Lib.hid rfl, Lib.hid (World.ownsRow_nil _ _ _ _), Lib.hid (Below.refl _ _)⟩
  case round =>
    obtain ⟨k, S, hk, hSk, rfl, HS, HOW, HBL⟩ := hrel
    obtain ⟨wA, rfl⟩ : ∃ wA : World, wA = wr := ⟨_, rfl⟩
    have hsA := HBL.out.size
    by_cases hlt : k < L.length
    · obtain ⟨b5, off5, rfl, hb5, hcl5⟩ := HC5.out (by omega)
      obtain ⟨y, hy⟩ : ∃ y, L[k]? = some y := ⟨_, List.getElem?_eq_getElem hlt⟩
      obtain ⟨i, a, rfl, ha⟩ := HLM.out y (List.mem_of_getElem? hy)
      have hnn := HND.out _ (List.mem_of_getElem? ha)
      obtain ⟨nm, kd, nd, cr, sv⟩ := a
      dsimp only at hnn
      obtain ⟨nd0, nd1⟩ := hnn
      obtain ⟨p, rfl⟩ := Int.eq_ofNat_of_zero_le nd0
      have hif : i < f.length := (List.getElem?_eq_some_iff.1 ha).1
      obtain ⟨b, off, rfl, hbl, hcell⟩ := HCELL.out (by omega)
      obtain ⟨d0, _, d2, _, _⟩ := ap_at hcell HBL.out hbl ha
      dsimp only at d0 d2
      obtain ⟨b6, off6, rfl, hb6, hcl6⟩ := HC6.out (by omega)
      obtain ⟨t, ht⟩ : ∃ t, ev.getD p 0 = t := ⟨_, rfl⟩
      have htt := allT_get (ev := ev) ha
      dsimp only at htt
      rw [Int.toNat_natCast, ht] at htt
      have co := cell_at hcl5 HBL.out hb5 (ints_get hy)
      have ct := cell_at hcl6 HBL.out hb6 (ints_get htt)
      have HSN : Hid (chL f ev (L.take (k + 1)) = S ++ [⟨nm, t⟩]) := Lib.hid (by
        rw [chL_snoc hy, HS.out, chAt_at ha]; dsimp only; rw [Int.toNat_natCast, ht])
      have i0 : (0 : Int) ≤ (i : Int) := by omega
      have i1 : (i : Int) < (f.length : Int) := by omega
      have p0 : (0 : Int) ≤ (p : Int) := by omega
      have p1 : (p : Int) < (ev.length : Int) := by omega
      clear hcl5 hy ha hcell hcl6 ht htt nd1
      go_wp2_with fail
      have HLT := Lib.hid HOW.out.lt
      go_region_held3 (fun W' => W'.cell? ⟨b, off + i * 5, none⟩ = some (.string nm) ∧ W'.cell? ⟨b, off + i * 5 + 2, none⟩ = some (.int .i64 p) ∧ W'.cell? ⟨b6, off6 + i, none⟩ = some (.int .i64 t)) (first | go_keep | (go_split_ands; refine ⟨?_, ?_, ?_⟩ <;> (rw [gro_cellr hgrow7 (by simp; omega) (fun q e => by have := (HLT.out q e).1; omega)]; first | assumption | (simp only [go_sem]; assumption) | (rw [World.cell?_alloc_lt _ _ _ (by simp; omega)]; assumption)))) (first | (refine step_app_rd _ rfl (.tmp 16) (.tmp 27) 58 rfl w.heap.size 62 i0' _ 2 24 Tryz.underlying58 hi hz0 hz1 hz2 rfl (by decide) _ k (S.flatMap Ch.cells) rfl ((own_dr HOW.out).alloc _) _ 1 [.string nm, .int .i64 t] rfl (rd_new _ rfl (Nat.le_refl _) (by rw [maxLen_eq]; omega)) rfl (by intro u hu; simp at hu; rcases hu with rfl | rfl <;> rfl) (by rw [maxLen_eq]; omega) (by omega) (by simp; omega) ?_; intro v7 w7 hown7 hgrow7 _))
      all_goals
        go_wp2
        refine ⟨⟨k + 1, S ++ [⟨nm, t⟩], by omega, by simp; omega, by go_num, HSN, Lib.hid ?_, Lib.hid (bel_grown (bel_al (bel_dr HBL.out) _) hgrow7 (fun q e => (HOW.out.lt q e).1))⟩, by simp [intOf]; omega⟩
        rw [ch_flat]; exact hown7
    · obtain rfl : k = L.length := by omega
      have hs := HS.out
      rw [List.take_length] at hs
      have HSS := Lib.hid hs
      clear hs
      go_wp2
      go_ret
      rw [HSS.out]
      refine ⟨_, rfl, ?_, HBL.out⟩
      rw [hSk]; exact HOW.out

end Go.Proofs.YthgegghdkoeofaaGreatDoor

namespace Go.Proofs.YthgegghdkoeofaaGreatDoor
set_option linter.unusedVariables false
set_option linter.unusedSimpArgs false
open Go.RowKit

def OwnChB (r : List Ch × Bool) (w : World) (e : Ending) (w' : World) : Prop := ∃ x, e = .returned (.tuple #[x, .bool r.2]) ∧ w'.ownsRow w.heap.size 62 2 x r.1.length (r.1.flatMap Ch.cells) ∧ Below w.heap.size w w'
theorem dist_len (n : Nat) (l : List St) (src : Nat) : (distT n (arcs l) src).length = n := by unfold distT; rw [iterT_len, startT_len]
def readyTimesV (n : Int) (l : List St) (f : List Ap) (x : Int) : List Ch × Bool :=
  if askD n l f x = true then (chL f (distT n.toNat (arcs l) x.toNat) (readyL (distT n.toNat (arcs l) x.toNat) f), true) else ([], false)
theorem readyTimes_no1 {n : Int} {l : List St} {f : List Ap} {x : Int} (h : askD n l f x = false) : readyTimesV n l f x = ([], false) := by
  unfold readyTimesV; rw [if_neg (by rw [h]; simp)]
theorem readyTimes_yes {n src : Nat} {l : List St} {f : List Ap} (h : askD n l f src = true) : readyTimesV n l f src = (chL f (distT n (arcs l) src) (readyL (distT n (arcs l) src) f), true) := by
  unfold readyTimesV; rw [if_pos h, Int.toNat_natCast, Int.toNat_natCast]
theorem readyTimes_mem {ev : List Int} {f : List Ap} (hfl : goodFl f = true) : (∀ y ∈ (readyL ev f), ∃ (i : Nat) (a : Ap), y = (i : Int) ∧ f[i]? = some a) ∧ (readyL ev f).length ≤ 12 := by
  have hm : ∀ y ∈ readyL ev f, ∃ (i : Nat) (a : Ap), y = (i : Int) ∧ f[i]? = some a := fun y hy => by
    obtain ⟨i, a, h1, h2, _⟩ := readyL_mem hy
    exact ⟨i, a, h1, h2⟩
  have hl := Nat.le_trans (readyL_len ev f) (goodFl_true hfl).1
  exact ⟨hm, hl⟩
theorem readyTimesV_len (n : Int) (l : List St) (f : List Ap) (x : Int) : (readyTimesV n l f x).1.length ≤ 1000000 := by
  unfold readyTimesV
  split
  · dsimp only
    rw [chL_len]
    have := (readyTimes_mem (ev := distT n.toNat (arcs l) x.toNat) (goodDs_true (askD_true (by rename_i h; exact h)).1).2.1).2
    omega
  · simp

end Go.Proofs.YthgegghdkoeofaaGreatDoor

namespace Go.Proofs.YthgegghdkoeofaaGreatDoor
set_option linter.unusedVariables false
set_option linter.unusedSimpArgs false
open Go.RowKit

theorem readyL_nodup (ev : List Int) (f : List Ap) : (readyL ev f).Nodup := by
  unfold readyL
  rw [(isort_perm _ _).nodup_iff]
  unfold selD
  exact nodup_map_of _ _ (nodup_filter _ List.nodup_range) (fun (x : Nat) _ (y : Nat) _ e => by have h : (x : Int) = (y : Int) := e; omega)
end Go.Proofs.YthgegghdkoeofaaGreatDoor

namespace Go.Proofs.YthgegghdkoeofaaGreatDoor
set_option linter.unusedVariables false
set_option linter.unusedSimpArgs false
open Go.RowKit

theorem missL_len2 (f : List Ap) : ∀ (L d : List Int), (missL f L d).length = d.length := by
  intro L
  induction L with
  | nil => intro d; rfl
  | cons i L ih => intro d; unfold missL; rw [List.foldl_cons]; have := ih (missStep f d i); unfold missL at this; rw [this]; unfold missStep; simp
theorem own_far {w : World} {base : Nat} {e : TypeId} {sz : Nat} {v : Value} {n : Nat} {xs : List Value} (h : w.ownsRow base e sz v n xs) {g : Nat} (hne : ∀ q, v.ownBlock = some q → q ≠ g) (j : Nat) (u : Value) : (w.setCell ⟨g, j, none⟩ u).ownsRow base e sz v n xs :=
  h.kept (only_setCell (World.grownBy.refl w (some g)) j u) (by
    cases hv : v.ownBlock with
    | none => exact .inl rfl
    | some q => exact .inr (fun hq => hne q hv (Option.some.inj hq)))
def isBestChoiceV (n : Int) (l : List St) (f : List Ap) (x : Int) (need : List Int) (q : List ByteArray) : Bool × Bool :=
  if askD n l f x = true ∧ needB need = true then (bestS (distT n.toNat (arcs l) x.toNat) f (readyL (distT n.toNat (arcs l) x.toNat) f) need (pickL f (readyL (distT n.toNat (arcs l) x.toNat) f) need).2 q, true) else (false, false)
theorem best_no1 {n : Int} {l : List St} {f : List Ap} {x : Int} {need : List Int} {q : List ByteArray} (h : askD n l f x = false) : isBestChoiceV n l f x need q = (false, false) := by unfold isBestChoiceV; rw [if_neg (by rw [h]; simp)]
theorem best_no2 {n : Int} {l : List St} {f : List Ap} {x : Int} {need : List Int} {q : List ByteArray} (h : needB need = false) : isBestChoiceV n l f x need q = (false, false) := by unfold isBestChoiceV; rw [if_neg (by rw [h]; simp)]
theorem best_yes {n src : Nat} {l : List St} {f : List Ap} {need : List Int} {q : List ByteArray} {ev L mis : List Int} (h : askD n l f src = true) (h2 : needB need = true) (hev : distT n (arcs l) src = ev) (hL : readyL ev f = L) (hm : (pickL f L need).2 = mis) :
    isBestChoiceV n l f src need q = (bestS ev f L need mis q, true) := by
  unfold isBestChoiceV; rw [if_pos ⟨h, h2⟩, Int.toNat_natCast, Int.toNat_natCast, hev, hL, hm]
def BestIs (n : Int) (l : List St) (f : List Ap) (x : Int) (need : List Int) (q : List ByteArray) (w : World) (e : Ending) (w' : World) : Prop :=
  e = .returned (.tuple #[.bool (isBestChoiceV n l f x need q).1, .bool (isBestChoiceV n l f x need q).2]) ∧ Below w.heap.size w w'
theorem hasL_yes {f : List Ap} {q : List ByteArray} {L : List Int} {k : Nat} {y : Int} (h : L[k]? = some y) (hy : hasN q (nmI f y) = true) : hasL f q (L.take (k + 1)) = hasL f q (L.take k) ++ [y] := by
  unfold hasL; rw [take_succ_of h, List.filter_append]; simp [hy]
theorem hasL_no {f : List Ap} {q : List ByteArray} {L : List Int} {k : Nat} {y : Int} (h : L[k]? = some y) (hy : hasN q (nmI f y) = false) : hasL f q (L.take (k + 1)) = hasL f q (L.take k) := by
  unfold hasL; rw [take_succ_of h, List.filter_append]; simp [hy]
theorem cnt_snoc (f : List Ap) (H : List Int) (y : Int) : cntL f (H ++ [y]) = cntStep f (cntL f H) y := by unfold cntL; rw [List.foldl_append]; rfl
theorem wst_snoc (ev : List Int) (f : List Ap) (H : List Int) (y : Int) : wstL ev f (H ++ [y]) = wstStep ev f (wstL ev f H) y := by unfold wstL; rw [List.foldl_append]; rfl
theorem hasL_len (f : List Ap) (q : List ByteArray) (L : List Int) : (hasL f q L).length ≤ L.length := List.length_filter_le _ _
theorem best_noN {ev : List Int} {f : List Ap} {R need mis : List Int} {q : List ByteArray} (h : namesB q = false) : bestS ev f R need mis q = false := by unfold bestS; rw [h]; rfl
theorem best_noK {ev : List Int} {f : List Ap} {R need mis : List Int} {q : List ByteArray} {k : Nat} (hk : k < 4) (h : (cntL f (hasL f q R)).getD k 0 ≠ need.getD k 0 - mis.getD k 0) : bestS ev f R need mis q = false := by
  unfold bestS
  have : (List.range 4).all (fun k => (cntL f (hasL f q R)).getD k 0 == need.getD k 0 - mis.getD k 0) = false := List.all_eq_false.2 ⟨k, List.mem_range.2 hk, by simpa using h⟩
  rw [this]; simp
theorem best_noS {ev : List Int} {f : List Ap} {R need mis : List Int} {q : List ByteArray} (h : ((cntL f (hasL f q R)).sum == (q.length : Int)) = false) : bestS ev f R need mis q = false := by unfold bestS; rw [h]; simp
theorem best_noR {ev : List Int} {f : List Ap} {R need mis : List Int} {q : List ByteArray} {i : Int} (hi : i ∈ R) (h : (hasN q (nmI f i) || !decide (rdyKey ev f i < (wstL ev f (hasL f q R)).getD (kdOf f i) 0)) = false) : bestS ev f R need mis q = false := by
  unfold bestS
  have : (R.all fun i => hasN q (nmI f i) || !decide (rdyKey ev f i < (wstL ev f (hasL f q R)).getD (kdOf f i) 0)) = false := List.all_eq_false.2 ⟨i, hi, by rw [h]; simp⟩
  rw [this]; simp
theorem best_all {ev : List Int} {f : List Ap} {R need mis : List Int} {q : List ByteArray} (hN : namesB q = true) (hK : ∀ k, k < 4 → (cntL f (hasL f q R)).getD k 0 = need.getD k 0 - mis.getD k 0) (hS : ((cntL f (hasL f q R)).sum == (q.length : Int)) = true)
    (hR : (R.all fun i => hasN q (nmI f i) || !decide (rdyKey ev f i < (wstL ev f (hasL f q R)).getD (kdOf f i) 0)) = true) : bestS ev f R need mis q = true := by
  unfold bestS
  have : (List.range 4).all (fun k => (cntL f (hasL f q R)).getD k 0 == need.getD k 0 - mis.getD k 0) = true := List.all_eq_true.2 (fun k hk => beq_iff_eq.2 (hK k (List.mem_range.1 hk)))
  rw [hN, this, hS, hR]; rfl
theorem wst_bd {ev : List Int} {f : List Ap} {H : List Int} {c : Int} (hc : -1 ≤ c) (h : ∀ i ∈ H, rdyKey ev f i ≤ c) {k : Nat} (hk : k < 4) : -1 ≤ (wstL ev f H).getD k 0 := by
  have := ((wst_aux ev f H [-1, -1, -1, -1] rfl).2 k hk).1
  have e : ([-1, -1, -1, -1] : List Int).getD k 0 = -1 := by rcases k with _ | _ | _ | _ | k <;> first | rfl | omega
  rw [e] at this; exact this
theorem wst_len (ev : List Int) (f : List Ap) (H : List Int) : (wstL ev f H).length = 4 := (wst_aux ev f H _ rfl).1

end Go.Proofs.YthgegghdkoeofaaGreatDoor

namespace Go.Proofs.YthgegghdkoeofaaGreatDoor
set_option linter.unusedVariables false
set_option linter.unusedSimpArgs false
open Go.RowKit

def chooseForV (n : Int) (l : List St) (f : List Ap) (x : Int) (need : List Int) : List Ch × Bool :=
  if askD n l f x = true ∧ needB need = true then (chL f (distT n.toNat (arcs l) x.toNat) (pickL f (readyL (distT n.toNat (arcs l) x.toNat) f) need).1, true) else ([], false)
theorem chooseFor_no1 {n : Int} {l : List St} {f : List Ap} {x : Int} {need : List Int} (h : askD n l f x = false) : chooseForV n l f x need = ([], false) := by
  unfold chooseForV; rw [if_neg (by rw [h]; simp)]
theorem chooseFor_no2 {n : Int} {l : List St} {f : List Ap} {x : Int} {need : List Int} (h : needB need = false) : chooseForV n l f x need = ([], false) := by
  unfold chooseForV; rw [if_neg (by rw [h]; simp)]
theorem chooseFor_yes {n src : Nat} {l : List St} {f : List Ap} {need : List Int} (h : askD n l f src = true) (h2 : needB need = true) : chooseForV n l f src need = (chL f (distT n (arcs l) src) (pickL f (readyL (distT n (arcs l) src) f) need).1, true) := by
  unfold chooseForV; rw [if_pos ⟨h, h2⟩, Int.toNat_natCast, Int.toNat_natCast]
theorem chooseFor_mem {ev : List Int} {f : List Ap} (hfl : goodFl f = true) {need : List Int} : (∀ y ∈ (pickL f (readyL ev f) need).1, ∃ (i : Nat) (a : Ap), y = (i : Int) ∧ f[i]? = some a) ∧ (pickL f (readyL ev f) need).1.length ≤ 12 := by
  have hm : ∀ y ∈ readyL ev f, ∃ (i : Nat) (a : Ap), y = (i : Int) ∧ f[i]? = some a := fun y hy => by
    obtain ⟨i, a, h1, h2, _⟩ := readyL_mem hy
    exact ⟨i, a, h1, h2⟩
  have hl := Nat.le_trans (readyL_len ev f) (goodFl_true hfl).1
  exact ⟨(pick_mem f _ _ need hm).1, Nat.le_trans (pick_mem f _ _ need hm).2 hl⟩
theorem chooseForV_len (n : Int) (l : List St) (f : List Ap) (x : Int) (need : List Int) : (chooseForV n l f x need).1.length ≤ 1000000 := by
  unfold chooseForV
  split
  · dsimp only
    rw [chL_len]
    have := (chooseFor_mem (ev := distT n.toNat (arcs l) x.toNat) (need := need) (goodDs_true (askD_true (by rename_i h; exact h.1)).1).2.1).2
    omega
  · simp

set_option maxRecDepth 100000 in
set_option maxHeartbeats 4000000 in
theorem chooseForS_c (n : Int) (s : Value) (l : List St) (v : Value) (f : List Ap) (x : Int) (vn : Value) (need : List Int) (w : World) (hr : Rd w s l.length (l.flatMap St.cells)) (hz : ∀ x ∈ f, x.nm.size ≤ 9223372036854775807) (hf : Rd w v f.length (f.flatMap Ap.cells)) (hvn : RdI w vn need) :
    Calls Tryz.prog 34 #[.agg #[.int .i64 n, s], v, .int .i64 x, vn] w (OwnChB (chooseForV n l f x need) w) := by
  have HR := Lib.hid hr
  have HF := Lib.hid hf
  have HZ := Lib.hid hz
  have HN := Lib.hid hvn
  clear hr hz hf hvn
  go_enter Tryz.func34, Tryz.ntmps34
  go_wp2_with fail
  (generalize hw1 : World.alloc w _ = w1; have k0 : w1.cell? ⟨w.heap.size, 0, none⟩ = some (.int .i64 n) := (by subst hw1; simp [go_sem]); have k1 : w1.cell? ⟨w.heap.size, 1, none⟩ = some s := (by subst hw1; simp [go_sem]); have hb0 : Below w.heap.size w w1 := (by subst hw1; exact bel_al (Below.refl _ _) _); have hsz1 : w.heap.size < w1.heap.size := (by subst hw1; simp); clear hw1)
  have HB := Lib.hid hb0
  refine (dsAsked_c n s l _ f x _ (rd_below HR.out HB.out) HZ.out (rd_below HF.out HB.out)).mono ?_; rintro e w2 ⟨rfl, hb1⟩
  have e0 := (hb1.cell (p := ⟨w.heap.size, 0, none⟩) (by show w.heap.size < _; omega)).trans k0
  have e1 := (hb1.cell (p := ⟨w.heap.size, 1, none⟩) (by show w.heap.size < _; omega)).trans k1
  have HB1 := Lib.hid (bel_then HB.out hb1)
  clear k0 k1 hb0 hb1
  by_cases hg : askD n l f x = true
  · have HASK := Lib.hid hg
    rw [hg]
    obtain ⟨hds, hx0, hx1⟩ := askD_true hg
    obtain ⟨hgt, hgf, hnd⟩ := goodDs_true hds
    have hn1 := (goodTown_true hgt).1
    obtain ⟨N, rfl⟩ := Int.eq_ofNat_of_zero_le (show 0 ≤ n by omega)
    obtain ⟨src, rfl⟩ := Int.eq_ofNat_of_zero_le hx0
    have hs : src < N := by omega
    have HGT := Lib.hid hgt
    have HGF := Lib.hid hgf
    have HND := Lib.hid hnd
    have HND2 : Hid (∀ a ∈ f, 0 ≤ a.nd ∧ a.nd ≤ ((distT N (arcs l) src).length : Int) - 1) := Lib.hid (by rw [dist_len]; exact hnd)
    clear hg hds hgt hgf hnd hx0 hx1
    go_wp2_with fail
    refine (tbNeed_c _ need _ (rd_below HN.out HB1.out)).mono ?_; rintro e w3 ⟨rfl, rfl⟩
    by_cases hne : needB need = true
    · have HV := Lib.hid (chooseFor_yes HASK.out hne)
      have HNE := Lib.hid hne
      rw [hne]
      clear hne
      go_wp2_with fail
      clear e0 e1
      refine (dsPick_c N s l _ f src _ need _ HGT.out HGF.out HND.out hs HNE.out (rd_below HR.out HB1.out) (rd_below HF.out HB1.out) (rd_below HN.out HB1.out)).mono ?_
      rintro e w3 ⟨v5, yy, u5, rfl, hv5, _, hu5, hb2⟩
      have HB2 := Lib.hid (bel_then HB1.out hb2)
      have HL5 := Lib.hid hv5
      have HU5 := Lib.hid hu5
      obtain ⟨hm, hl⟩ := chooseFor_mem (ev := distT N (arcs l) src) (need := need) HGF.out
      have HM := Lib.hid hm
      clear hm hb2 hv5 hu5
      go_wp2_with fail
      refine (dsChoices_c _ f _ _ _ (distT N (arcs l) src) _ HM.out hl HND2.out (rd_below HF.out HB2.out) HL5.out HU5.out).mono ?_
      rintro e w4 ⟨xx, rfl, ho, hb3⟩
      have HO := Lib.hid ho
      have HB3 := Lib.hid (bel_then HB2.out hb3)
      clear ho hb3
      go_wp2
      go_ret2
      rw [HV.out]
      exact ⟨_, rfl, own_base HO.out HB2.out.size, HB3.out⟩
    · have hne : needB need = false := by simpa using hne
      have HV := Lib.hid (chooseFor_no2 (n := N) (l := l) (f := f) (x := src) hne)
      rw [hne]
      go_wp2
      go_ret2
      rw [HV.out]
      exact ⟨_, rfl, World.ownsRow_nil _ _ _ _, HB1.out⟩
  · have hg : askD n l f x = false := by simpa using hg
    have HV := Lib.hid (chooseFor_no1 (need := need) hg)
    rw [hg]
    go_wp2
    go_ret2
    rw [HV.out]
    exact ⟨_, rfl, World.ownsRow_nil _ _ _ _, HB1.out⟩

end Go.Proofs.YthgegghdkoeofaaGreatDoor

namespace Go.Proofs.YthgegghdkoeofaaGreatDoor
set_option linter.unusedVariables false
set_option linter.unusedSimpArgs false
open Go.RowKit

theorem missL_len (f : List Ap) : ∀ (L d : List Int), (missL f L d).length = d.length := by
  intro L
  induction L with
  | nil => intro d; rfl
  | cons i L ih => intro d; unfold missL; rw [List.foldl_cons]; have := ih (missStep f d i); unfold missL at this; rw [this]; unfold missStep; simp
def missingKindsV (n : Int) (l : List St) (f : List Ap) (x : Int) (need : List Int) : List Int × Bool :=
  if askD n l f x = true ∧ needB need = true then ((pickL f (readyL (distT n.toNat (arcs l) x.toNat) f) need).2, true) else ([], false)
theorem missV_no1 {n : Int} {l : List St} {f : List Ap} {x : Int} {need : List Int} (h : askD n l f x = false) : missingKindsV n l f x need = ([], false) := by
  unfold missingKindsV; rw [if_neg (by rw [h]; simp)]
theorem missV_no2 {n : Int} {l : List St} {f : List Ap} {x : Int} {need : List Int} (h : needB need = false) : missingKindsV n l f x need = ([], false) := by
  unfold missingKindsV; rw [if_neg (by rw [h]; simp)]
theorem missV_yes {n src : Nat} {l : List St} {f : List Ap} {need : List Int} (h : askD n l f src = true) (h2 : needB need = true) : missingKindsV n l f src need = ((pickL f (readyL (distT n (arcs l) src) f) need).2, true) := by
  unfold missingKindsV; rw [if_pos ⟨h, h2⟩, Int.toNat_natCast, Int.toNat_natCast]
theorem missingKindsV_len (n : Int) (l : List St) (f : List Ap) (x : Int) (need : List Int) : (missingKindsV n l f x need).1.length ≤ 1000000 := by
  unfold missingKindsV
  split
  · dsimp only
    rw [← pick_miss, missL_len, (needB_true (by rename_i h; exact h.2)).1]; omega
  · simp

set_option maxRecDepth 100000 in
set_option maxHeartbeats 4000000 in
theorem missingKindsS_c (n : Int) (s : Value) (l : List St) (v : Value) (f : List Ap) (x : Int) (vn : Value) (need : List Int) (w : World) (hr : Rd w s l.length (l.flatMap St.cells)) (hz : ∀ x ∈ f, x.nm.size ≤ 9223372036854775807) (hf : Rd w v f.length (f.flatMap Ap.cells)) (hvn : RdI w vn need) :
    Calls Tryz.prog 40 #[.agg #[.int .i64 n, s], v, .int .i64 x, vn] w (OwnIB (missingKindsV n l f x need) w) := by
  have HR := Lib.hid hr
  have HF := Lib.hid hf
  have HZ := Lib.hid hz
  have HN := Lib.hid hvn
  clear hr hz hf hvn
  go_enter Tryz.func40, Tryz.ntmps40
  go_wp2_with fail
  (generalize hw1 : World.alloc w _ = w1; have k0 : w1.cell? ⟨w.heap.size, 0, none⟩ = some (.int .i64 n) := (by subst hw1; simp [go_sem]); have k1 : w1.cell? ⟨w.heap.size, 1, none⟩ = some s := (by subst hw1; simp [go_sem]); have hb0 : Below w.heap.size w w1 := (by subst hw1; exact bel_al (Below.refl _ _) _); have hsz1 : w.heap.size < w1.heap.size := (by subst hw1; simp); clear hw1)
  have HB := Lib.hid hb0
  refine (dsAsked_c n s l _ f x _ (rd_below HR.out HB.out) HZ.out (rd_below HF.out HB.out)).mono ?_; rintro e w2 ⟨rfl, hb1⟩
  have e0 := (hb1.cell (p := ⟨w.heap.size, 0, none⟩) (by show w.heap.size < _; omega)).trans k0
  have e1 := (hb1.cell (p := ⟨w.heap.size, 1, none⟩) (by show w.heap.size < _; omega)).trans k1
  have HB1 := Lib.hid (bel_then HB.out hb1)
  clear k0 k1 hb0 hb1
  by_cases hg : askD n l f x = true
  · have HASK := Lib.hid hg
    rw [hg]
    obtain ⟨hds, hx0, hx1⟩ := askD_true hg
    obtain ⟨hgt, hgf, hnd⟩ := goodDs_true hds
    have hn1 := (goodTown_true hgt).1
    obtain ⟨N, rfl⟩ := Int.eq_ofNat_of_zero_le (show 0 ≤ n by omega)
    obtain ⟨src, rfl⟩ := Int.eq_ofNat_of_zero_le hx0
    have hs : src < N := by omega
    have HGT := Lib.hid hgt
    have HGF := Lib.hid hgf
    have HND := Lib.hid hnd
    clear hg hds hgt hgf hnd hx0 hx1
    go_wp2_with fail
    refine (tbNeed_c _ need _ (rd_below HN.out HB1.out)).mono ?_; rintro e w3 ⟨rfl, rfl⟩
    by_cases hne : needB need = true
    · have HV := Lib.hid (missV_yes HASK.out hne)
      have HNE := Lib.hid hne
      rw [hne]
      clear hne
      go_wp2_with fail
      refine (dsPick_c N s l _ f src _ need _ HGT.out HGF.out HND.out hs HNE.out (rd_below HR.out HB1.out) (rd_below HF.out HB1.out) (rd_below HN.out HB1.out)).mono ?_
      rintro e w3 ⟨xx, yy, zz, rfl, _, hy, _, hb2⟩
      have HY := Lib.hid hy
      have HB2 := Lib.hid (bel_then HB1.out hb2)
      clear e0 e1 hb2 hy
      go_wp2
      go_ret2
      rw [HV.out]
      exact ⟨_, rfl, own_base HY.out HB1.out.size, HB2.out⟩
    · have hne : needB need = false := by simpa using hne
      have HV := Lib.hid (missV_no2 (n := N) (l := l) (f := f) (x := src) hne)
      rw [hne]
      go_wp2
      go_ret2
      rw [HV.out]
      exact ⟨_, rfl, World.ownsRow_nil _ _ _ _, HB1.out⟩
  · have hg : askD n l f x = false := by simpa using hg
    have HV := Lib.hid (missV_no1 (need := need) hg)
    rw [hg]
    go_wp2
    go_ret2
    rw [HV.out]
    exact ⟨_, rfl, World.ownsRow_nil _ _ _ _, HB1.out⟩

set_option maxRecDepth 100000 in
set_option maxHeartbeats 4000000 in
theorem missingKindsI_c (n : Int) (s : Value) (l : List St) (v : Value) (f : List Ap) (x : Int) (vn : Value) (need : List Int) (w : World) (hr : Rd w s l.length (l.flatMap St.cells)) (hz : ∀ x ∈ f, x.nm.size ≤ 9223372036854775807) (hf : Rd w v f.length (f.flatMap Ap.cells)) (hvn : RdI w vn need) :
    Calls Tryz.prog 39 #[.agg #[.int .i64 n, s], v, .int .i64 x, vn] w (OwnIB (missingKindsV n l f x need) w) := by
  have HR := Lib.hid hr
  have HF := Lib.hid hf
  have HZ := Lib.hid hz
  have HN := Lib.hid hvn
  clear hr hz hf hvn
  go_enter Tryz.func39, Tryz.ntmps39
  go_wp2_with fail
  (generalize hw1 : World.alloc w _ = w1; have k0 : w1.cell? ⟨w.heap.size, 0, none⟩ = some (.int .i64 n) := (by subst hw1; simp [go_sem]); have k1 : w1.cell? ⟨w.heap.size, 1, none⟩ = some s := (by subst hw1; simp [go_sem]); have hb0 : Below w.heap.size w w1 := (by subst hw1; exact bel_al (Below.refl _ _) _); have hsz1 : w.heap.size < w1.heap.size := (by subst hw1; simp); clear hw1)
  have HB := Lib.hid hb0
  refine (dispatchFits_c n s l _ f w.heap.size _ k0 k1 (rd_below HR.out HB.out) HZ.out (rd_below HF.out HB.out)).mono ?_; rintro e w2 ⟨rfl, hb1⟩
  have e0 := (hb1.cell (p := ⟨w.heap.size, 0, none⟩) (by show w.heap.size < _; omega)).trans k0
  have e1 := (hb1.cell (p := ⟨w.heap.size, 1, none⟩) (by show w.heap.size < _; omega)).trans k1
  have hs1 := hb1.size
  have HB1 := Lib.hid (bel_then HB.out hb1)
  clear k0 k1 hb0 hb1
  by_cases hg : goodDs n l f = true
  · have HDS := Lib.hid hg
    rw [hg]
    obtain ⟨hgt, hgf, hnd⟩ := goodDs_true hg
    obtain ⟨hn1, hn2, _⟩ := goodTown_true hgt
    have HGT := Lib.hid hgt
    have HGF := Lib.hid hgf
    have HND := Lib.hid hnd
    clear hg hgt hgf hnd
    go_wp2_with fail
    refine (has_c n x _ _ hn1 hn2 e0).mono ?_; rintro e w3 ⟨rfl, rfl⟩
    by_cases hx : inB x 0 (n - 1) = true
    · have HASK : Hid (askD n l f x = true) := Lib.hid (by unfold askD; rw [HDS.out, hx]; rfl)
      rw [hx]
      obtain ⟨hx0, hx1⟩ := inB_true hx
      obtain ⟨N, rfl⟩ := Int.eq_ofNat_of_zero_le (show 0 ≤ n by omega)
      obtain ⟨src, rfl⟩ := Int.eq_ofNat_of_zero_le hx0
      have hs : src < N := by omega
      have E0 := Lib.hid e0
      have E1 := Lib.hid e1
      clear hx hx0 hx1
      go_wp2_with fail
      refine (isNeed_c _ need _ (rd_below HN.out HB1.out)).mono ?_; rintro e w3 ⟨rfl, rfl⟩
      by_cases hne : needB need = true
      · have HV := Lib.hid (missV_yes HASK.out hne)
        have HNE := Lib.hid hne
        rw [hne]
        clear hne
        go_wp2_with fail
        refine (choose_c N s l _ f src w.heap.size _ need _ HGT.out HGF.out HND.out hs HNE.out E0.out E1.out (rd_below HR.out HB1.out) (rd_below HF.out HB1.out) (rd_below HN.out HB1.out)).mono ?_
        rintro e w3 ⟨v5, rfl, ho5, hb2⟩
        have HB2 := Lib.hid (bel_then HB1.out hb2)
        have HO5 := Lib.hid ho5
        have hpm := pick_mem f (fun y => ∃ (i : Nat) (a : Ap), y = (i : Int) ∧ f[i]? = some a) (readyL (distT N (arcs l) src) f) need (fun y hy => by
          obtain ⟨i, a, h1, h2, _⟩ := readyL_mem hy
          exact ⟨i, a, h1, h2⟩)
        have HPM := Lib.hid hpm.1
        have hpl := Nat.le_trans hpm.2 (Nat.le_trans (readyL_len _ _) (goodFl_true HGF.out).1)
        have HPL := Lib.hid hpl
        clear hb2 ho5 hpm hpl e0 e1
        go_wp2_with fail
        refine (missing_c _ f _ _ _ need _ HGF.out HNE.out HPM.out HPL.out (rd_below HF.out HB2.out) (rdi_own HO5.out) (rd_below HN.out HB2.out)).mono ?_
        rintro e w4 ⟨v6, rfl, ho6, hb3⟩
        have HO6 := Lib.hid ho6
        have HB3 := Lib.hid (bel_then HB2.out hb3)
        clear ho6 hb3
        go_wp2
        go_ret2
        rw [HV.out, ← pick_miss]
        exact ⟨_, rfl, own_base HO6.out HB2.out.size, HB3.out⟩
      · have hne : needB need = false := by simpa using hne
        have HV := Lib.hid (missV_no2 (n := N) (l := l) (f := f) (x := src) hne)
        rw [hne]
        go_wp2
        go_ret2
        rw [HV.out]
        exact ⟨_, rfl, World.ownsRow_nil _ _ _ _, HB1.out⟩
    · have hx : inB x 0 (n - 1) = false := by simpa using hx
      have HV := Lib.hid (missV_no1 (l := l) (f := f) (x := x) (n := n) (need := need) (by unfold askD; rw [hx]; simp))
      rw [hx]
      go_wp2
      go_ret2
      rw [HV.out]
      exact ⟨_, rfl, World.ownsRow_nil _ _ _ _, HB1.out⟩
  · have hg : goodDs n l f = false := by simpa using hg
    have HV := Lib.hid (missV_no1 (x := x) (n := n) (l := l) (f := f) (need := need) (by unfold askD; rw [hg]; rfl))
    rw [hg]
    go_wp2
    go_ret2
    rw [HV.out]
    exact ⟨_, rfl, World.ownsRow_nil _ _ _ _, HB1.out⟩
end Go.Proofs.YthgegghdkoeofaaGreatDoor

namespace Go.Proofs.YthgegghdkoeofaaGreatDoor
set_option linter.unusedVariables false
set_option linter.unusedSimpArgs false
open Go.RowKit

def servP (l : List St) (f : List Ap) (need : List Int) (limit : Int) (N node : Nat) : Bool :=
  (pickL f (readyL (distT N (arcs l) node) f) need).2.all (fun x => inB x 0 0) && (pickL f (readyL (distT N (arcs l) node) f) need).1.all (fun i => decide (rdyKey (distT N (arcs l) node) f i ≤ limit))
def servedNodesV (n : Int) (l : List St) (f : List Ap) (need : List Int) (limit : Int) : List Int × Bool :=
  if goodDs n l f = true ∧ needB need = true ∧ inB limit 0 36000 = true then (selD (servP l f need limit n.toNat) n.toNat, true) else ([], false)
theorem serv_no1 {n : Int} {l : List St} {f : List Ap} {need : List Int} {limit : Int} (h : goodDs n l f = false) : servedNodesV n l f need limit = ([], false) := by unfold servedNodesV; rw [if_neg (by rw [h]; simp)]
theorem serv_no2 {n : Int} {l : List St} {f : List Ap} {need : List Int} {limit : Int} (h : needB need = false) : servedNodesV n l f need limit = ([], false) := by unfold servedNodesV; rw [if_neg (by rw [h]; simp)]
theorem serv_no3 {n : Int} {l : List St} {f : List Ap} {need : List Int} {limit : Int} (h : inB limit 0 36000 = false) : servedNodesV n l f need limit = ([], false) := by unfold servedNodesV; rw [if_neg (by rw [h]; simp)]
theorem serv_yes {n : Nat} {l : List St} {f : List Ap} {need : List Int} {limit : Int} (h : goodDs n l f = true) (h2 : needB need = true) (h3 : inB limit 0 36000 = true) : servedNodesV n l f need limit = (selD (servP l f need limit n) n, true) := by
  unfold servedNodesV; rw [if_pos ⟨h, h2, h3⟩, Int.toNat_natCast]
theorem servedNodesV_len (n : Int) (l : List St) (f : List Ap) (need : List Int) (limit : Int) : (servedNodesV n l f need limit).1.length ≤ 1000000 := by
  unfold servedNodesV
  split
  · dsimp only
    rename_i h
    have h1 := (goodTown_true (goodDs_true h.1).1).2.1
    exact Nat.le_trans (selD_len _ _) (by omega)
  · simp
set_option maxHeartbeats 400000 in
theorem dsLimit_c (x : Int) (w : World) : Calls Tryz.prog 105 #[.int .i64 x] w fun e w' => e = .returned (.bool (inB x 0 36000)) ∧ w = w' := by
  go_enter Tryz.func105, Tryz.ntmps105
  go_wp2_with (go_at_call 66; refine (l1In_c _ _ _ _).mono ?_; rintro e w' ⟨rfl, rfl⟩)
  go_ret
  exact ⟨rfl, rfl⟩
theorem all_take_sv {p : Int → Bool} {a0 b : Bool} {l : List Int} {j : Nat} {y : Int} (hy : l[j]? = some y) (h : (a0 && (l.take j).all p) = b) : (a0 && (l.take (j + 1)).all p) = (b && p y) := by
  rw [take_succ_of hy, List.all_append, ← h]; simp [Bool.and_assoc]

set_option maxRecDepth 100000 in
set_option maxHeartbeats 4000000 in
theorem servedNodesS_c (n : Int) (s : Value) (l : List St) (v : Value) (f : List Ap) (vn : Value) (need : List Int) (limit : Int) (w : World) (hr : Rd w s l.length (l.flatMap St.cells)) (hz : ∀ x ∈ f, x.nm.size ≤ 9223372036854775807) (hf : Rd w v f.length (f.flatMap Ap.cells)) (hvn : RdI w vn need) :
    Calls Tryz.prog 37 #[.agg #[.int .i64 n, s], v, vn, .int .i64 limit] w (OwnIB (servedNodesV n l f need limit) w) := by
  have HR := Lib.hid hr
  have HF := Lib.hid hf
  have HZ := Lib.hid hz
  have HN := Lib.hid hvn
  obtain ⟨i0', hi, hz0, hz1, hz2⟩ := info_parts Tryz.infoInt
  clear hr hz hf hvn
  go_enter Tryz.func37, Tryz.ntmps37
  go_wp2_with fail
  (generalize hw1 : World.alloc w _ = w1; have k0 : w1.cell? ⟨w.heap.size, 0, none⟩ = some (.int .i64 n) := (by subst hw1; simp [go_sem]); have k1 : w1.cell? ⟨w.heap.size, 1, none⟩ = some s := (by subst hw1; simp [go_sem]); have hb0 : Below w.heap.size w w1 := (by subst hw1; exact bel_al (Below.refl _ _) _); have hsz1 : w.heap.size < w1.heap.size := (by subst hw1; simp); clear hw1)
  have HB := Lib.hid hb0
  refine (dsGood_c n s l _ f _ (rd_below HR.out HB.out) HZ.out (rd_below HF.out HB.out)).mono ?_; rintro e w2 ⟨rfl, hb1⟩
  have e0 := (hb1.cell (p := ⟨w.heap.size, 0, none⟩) (by show w.heap.size < _; omega)).trans k0
  have e1 := (hb1.cell (p := ⟨w.heap.size, 1, none⟩) (by show w.heap.size < _; omega)).trans k1
  have hs1 := hb1.size
  have HB1 := Lib.hid (bel_then HB.out hb1)
  clear k0 k1 hb0 hb1
  by_cases hg : goodDs n l f = true
  · have HDS := Lib.hid hg
    rw [hg]
    obtain ⟨hgt, hgf, hnd⟩ := goodDs_true hg
    obtain ⟨hn1, hn2, _⟩ := goodTown_true hgt
    obtain ⟨N, rfl⟩ := Int.eq_ofNat_of_zero_le (show 0 ≤ n by omega)
    have HGT := Lib.hid hgt
    have HGF := Lib.hid hgf
    have HND := Lib.hid hnd
    clear hg hgt hgf hnd
    go_wp2_with fail
    refine (tbNeed_c _ need _ (rd_below HN.out HB1.out)).mono ?_; rintro e w3 ⟨rfl, rfl⟩
    by_cases hne : needB need = true
    · have HNE := Lib.hid hne
      rw [hne]
      clear hne
      go_wp2_with fail
      refine (dsLimit_c limit _).mono ?_; rintro e w3 ⟨rfl, rfl⟩
      by_cases hli : inB limit 0 36000 = true
      · have HV := Lib.hid (serv_yes HDS.out HNE.out hli)
        have E0 := Lib.hid e0
        have E1 := Lib.hid e1
        rw [hli]
        clear hli e0 e1
        go_wp2_with fail
        go_loopw [10, 11] (fun vo vi wr => ∃ (k : Nat) (S : List Int), k ≤ N ∧ S.length ≤ k ∧ vi = .int .i64 k ∧ Hid (selD (servP l f need limit N) k = S) ∧ Hid (wr.ownsRow w2.heap.size 3 1 vo S.length (ints S)) ∧ Hid (Below w2.heap.size w2 wr)) (fun _ vi _ => N - (intOf vi).toNat)
        case atStart => exact ⟨0, [], Nat.zero_le _, Nat.le_refl _, rfl, Lib.hid rfl, Lib.hid (World.ownsRow_nil _ _ _ _), Lib.hid (Below.refl _ _)⟩
        case round =>
          obtain ⟨k, S, hk, hSk, rfl, HS, HOW, HBL⟩ := hrel
          obtain ⟨wA, rfl⟩ : ∃ wA : World, wA = wr := ⟨_, rfl⟩
          have hsA := HBL.out.size
          have t0 := (HBL.out.cell (p := ⟨w.heap.size, 0, none⟩) (by show w.heap.size < _; omega)).trans E0.out
          have t1 := (HBL.out.cell (p := ⟨w.heap.size, 1, none⟩) (by show w.heap.size < _; omega)).trans E1.out
          by_cases hlt : k < N
          · go_wp2_with fail
            refine (dsPick_c N s l _ f k _ need _ HGT.out HGF.out HND.out hlt HNE.out (rd_below HR.out (bel_then HB1.out HBL.out)) (rd_below HF.out (bel_then HB1.out HBL.out)) (rd_below HN.out (bel_then HB1.out HBL.out))).mono ?_
            rintro e w5 ⟨xx, yy, zz, rfl, hx, hy, hzz, hb5⟩
            have HB5 := Lib.hid (bel_then HBL.out hb5)
            have HOW5 := Lib.hid (own_below HOW.out hb5)
            obtain ⟨ev, hev⟩ : ∃ ev, distT N (arcs l) k = ev := ⟨_, rfl⟩
            have hsp : servP l f need limit N k = ((pickL f (readyL ev f) need).2.all (fun x => inB x 0 0) && (pickL f (readyL ev f) need).1.all (fun i => decide (rdyKey ev f i ≤ limit))) := by unfold servP; rw [hev]
            have hpm := pick_mem f (fun y => ∃ (i : Nat) (a : Ap), y = (i : Int) ∧ f[i]? = some a) (readyL ev f) need (fun y hy => by
              obtain ⟨i, a, h1, h2, _⟩ := readyL_mem hy
              exact ⟨i, a, h1, h2⟩)
            rw [hev] at hx hy hzz
            obtain ⟨M, hM⟩ : ∃ M, (pickL f (readyL ev f) need).1 = M := ⟨_, rfl⟩
            obtain ⟨dd, hdd⟩ : ∃ dd, (pickL f (readyL ev f) need).2 = dd := ⟨_, rfl⟩
            rw [hM] at hx hsp hpm
            rw [hdd] at hy hsp
            obtain ⟨a0, ha0⟩ : ∃ a0, dd.all (fun x => inB x 0 0) = a0 := ⟨_, rfl⟩
            rw [ha0] at hsp
            have HSP := Lib.hid hsp
            have HA0 := Lib.hid ha0
            have HPM := Lib.hid hpm.1
            have HY := Lib.hid hy
            obtain ⟨AM, cM, rfl, hcM, hmM, hcellM⟩ := hx
            rw [maxLen_eq] at hmM
            have HCM := Lib.hid hcellM
            obtain ⟨AZ, cZ, rfl, hcZ, hmZ, hcellZ⟩ := hzz
            rw [maxLen_eq] at hmZ
            rw [allT_len] at hcZ hcellZ ⊢
            have HCZ := Lib.hid hcellZ
            have hs5 := HB5.out.size
            clear hb5 hev hsp hpm hM hdd ha0 hy hcellM hcellZ t0 t1
            go_wp2_with fail
            refine (all2_c _ dd _ _ _ (rdi_own HY.out)).mono ?_; rw [HA0.out]; rintro e w6 ⟨rfl, rfl⟩
            go_wp2_with fail
            go_loopw [15, 51] (fun v15 v51 wr2 => ∃ (j : Nat) (bb : Bool), j ≤ M.length ∧ v51 = .int .i64 j ∧ v15 = .bool bb ∧ Hid ((a0 && (M.take j).all (fun i => decide (rdyKey ev f i ≤ limit))) = bb) ∧ wr2 = w5) (fun _ v51 _ => M.length - (intOf v51).toNat)
            case atStart => exact ⟨0, a0, Nat.zero_le _, rfl, rfl, Lib.hid (by simp), rfl⟩
            case round =>
              obtain ⟨j, bb, hj, rfl, rfl, HBB, rfl⟩ := hrel
              by_cases hjl : j < M.length
              · obtain ⟨b5, off5, rfl, hb5, hcl5⟩ := HCM.out (by omega)
                obtain ⟨y, hy⟩ : ∃ y, M[j]? = some y := ⟨_, List.getElem?_eq_getElem hjl⟩
                obtain ⟨i, a, rfl, ha⟩ := HPM.out y (List.mem_of_getElem? hy)
                have hif : i < f.length := (List.getElem?_eq_some_iff.1 ha).1
                obtain ⟨b6, off6, rfl, hb6, hcl6⟩ := HCZ.out (by omega)
                have co := hcl5 j _ (ints_get hy)
                have ct := hcl6 i _ (ints_get (allT_get (ev := ev) ha))
                rw [← rdyKey_at (ev := ev) ha] at ct
                obtain ⟨t, ht⟩ : ∃ t, rdyKey ev f (i : Int) = t := ⟨_, rfl⟩
                rw [ht] at ct
                have HNX := Lib.hid (all_take_sv hy HBB.out)
                have HTT := Lib.hid ht
                have i0 : (0 : Int) ≤ (i : Int) := by omega
                have i1 : (i : Int) < (f.length : Int) := by omega
                clear hcl5 hcl6 hy ha ht
                cases bb with
                | true =>
                  by_cases htl : t ≤ limit
                  · go_wp2
                    exact ⟨⟨j + 1, true, by omega, by go_num, (by first | rfl | (simp; omega)), Lib.hid (by rw [HNX.out, HTT.out, decide_eq_true htl]; rfl), (by first | rfl | trivial)⟩, by simp [intOf]; omega⟩
                  · have htn : limit < t := by omega
                    have HF2 : Hid (decide (t ≤ limit) = false) := Lib.hid (decide_eq_false htl)
                    clear htl
                    go_wp2
                    exact ⟨⟨j + 1, false, by omega, by go_num, (by first | rfl | (simp; omega)), Lib.hid (by rw [HNX.out, HTT.out, HF2.out]; rfl), (by first | rfl | trivial)⟩, by simp [intOf]; omega⟩
                | false =>
                  go_wp2
                  exact ⟨⟨j + 1, false, by omega, by go_num, (by first | rfl | simp), Lib.hid (by rw [HNX.out]; rfl), (by first | rfl | trivial)⟩, by simp [intOf]; omega⟩
              · obtain rfl : j = M.length := by omega
                have hbb := HBB.out
                rw [List.take_length] at hbb
                have hfin : servP l f need limit N k = bb := by rw [HSP.out]; exact hbb
                cases bb with
                | true =>
                  have HYES := Lib.hid (selD_yes (k := k) hfin)
                  clear hbb hfin
                  go_wp2_with (at_builtin; refine wpList_app_rd _ rfl _ _ 48 rfl w2.heap.size 3 i0' (.int .i64 0) 1 8 Tryz.underlying48 hi hz0 hz1 hz2 rfl (by decide) _ _ _ rfl (HOW5.out.alloc _) _ 1 [.int .i64 k] rfl (rd_new _ rfl (Nat.le_refl _) (by rw [maxLen_eq]; omega)) rfl (ints_one [(k : Int)]) (by rw [maxLen_eq]; omega) (by omega) (by have := HB5.out.size; simp; omega) ?_; intro v7 w7 hown7 hgrow7 _)
                  refine ⟨⟨k + 1, S ++ [(k : Int)], by omega, by simp; omega, by go_num, Lib.hid (by rw [HYES.out, HS.out]), Lib.hid ?_, Lib.hid (bel_grown (bel_al HB5.out _) hgrow7 (fun q e => (HOW.out.lt q e).1))⟩, by simp [intOf]; omega⟩
                  rw [ints_append, List.length_append]; exact hown7
                | false =>
                  have HNO := Lib.hid (selD_no (k := k) hfin)
                  clear hbb hfin
                  go_wp2
                  exact ⟨⟨k + 1, S, by omega, by omega, by go_num, Lib.hid (by rw [HNO.out, HS.out]), HOW5, HB5⟩, by simp [intOf]; omega⟩
          · obtain rfl : k = N := by omega
            go_wp2
            go_ret2
            rw [HV.out, HS.out]
            exact ⟨_, rfl, own_base HOW.out HB1.out.size, bel_then HB1.out HBL.out⟩
      · have hli : inB limit 0 36000 = false := by simpa using hli
        have HV := Lib.hid (serv_no3 (n := N) (l := l) (f := f) (need := need) hli)
        rw [hli]
        go_wp2
        go_ret2
        rw [HV.out]
        exact ⟨_, rfl, World.ownsRow_nil _ _ _ _, HB1.out⟩
    · have hne : needB need = false := by simpa using hne
      have HV := Lib.hid (serv_no2 (n := N) (l := l) (f := f) (limit := limit) hne)
      rw [hne]
      go_wp2
      go_ret2
      rw [HV.out]
      exact ⟨_, rfl, World.ownsRow_nil _ _ _ _, HB1.out⟩
  · have hg : goodDs n l f = false := by simpa using hg
    have HV := Lib.hid (serv_no1 (need := need) (limit := limit) hg)
    rw [hg]
    go_wp2
    go_ret2
    rw [HV.out]
    exact ⟨_, rfl, World.ownsRow_nil _ _ _ _, HB1.out⟩
end Go.Proofs.YthgegghdkoeofaaGreatDoor

namespace Go.Proofs.YthgegghdkoeofaaGreatDoor
set_option linter.unusedVariables false
set_option linter.unusedSimpArgs false
open Go.RowKit

set_option maxRecDepth 100000 in
set_option maxHeartbeats 1000000 in
theorem pSameFleet_c (v v' : Value) (l : List Ap) (w : World) (hr : Rd w v l.length (l.flatMap Ap.cells)) (hr' : Rd w v' l.length (l.flatMap Ap.cells)) :
    Calls Tryz.prog 11 #[v, v'] w fun en w' => en = .returned (.bool true) ∧ Below w.heap.size w w' := by
  obtain ⟨A, c, rfl, hc, hm, hr⟩ := hr
  obtain ⟨A', c', rfl, hc', hm', hr'⟩ := hr'
  rw [maxLen_eq] at hm hm'
  have HS := Lib.hid hr
  have HT := Lib.hid hr'
  clear hr hr'
  have hlb : ((l.length : Int) != l.length) = false := by simp
  go_enter Tryz.func11, Tryz.ntmps11
  go_wp2_with fail
  go_loopw [13] (fun v6 wr => ∃ k : Nat, k ≤ l.length ∧ v6 = .int .i64 k ∧ Hid (Below w.heap.size w wr)) (fun v6 _ => l.length - (intOf v6).toNat)
  case atStart => exact ⟨0, Nat.zero_le _, rfl, Lib.hid (Below.refl _ _)⟩
  case round =>
    obtain ⟨k, hk, rfl, HB⟩ := hrel
    have i0 : (0 : Int) ≤ (k : Int) := by omega
    by_cases hlt : k < l.length
    · obtain ⟨b, off, rfl, hbl, hcell⟩ := HS.out (by omega)
      obtain ⟨b', off', rfl, hbl', hcell'⟩ := HT.out (by omega)
      obtain ⟨nm, kd, nd, cr, sv, hx, c0, c1, c2, c3, c4⟩ := ap_at' hcell HB.out hbl hlt
      obtain ⟨nm', kd', nd', cr', sv', hx', d0, d1, d2, d3, d4⟩ := ap_at' hcell' HB.out hbl' hlt
      rw [hx] at hx'
      injection hx' with hx'
      injection hx' with e1 e2 e3 e4 e5
      subst e1; subst e2; subst e3; subst e4; subst e5
      have i1 : (k : Int) < (l.length : Int) := by omega
      clear hcell hcell' hx
      go_wp2_with fail
      go_quiet (fail)
      go_wp2
      exact ⟨⟨k + 1, by omega, by go_num, Lib.hid (below_drewN HB.out _)⟩, by simp [intOf]; omega⟩
    · obtain rfl : k = l.length := by omega
      go_wp2
      go_ret
      exact ⟨rfl, HB.out⟩
set_option maxRecDepth 100000 in
set_option maxHeartbeats 1000000 in
theorem pSameTexts_c (v v' : Value) (l : List ByteArray) (w : World) (hr : RdS w v l) (hr' : RdS w v' l) :
    Calls Tryz.prog 29 #[v, v'] w fun en w' => en = .returned (.bool true) ∧ Below w.heap.size w w' := by
  obtain ⟨A, c, rfl, hc, hm, hr⟩ := hr
  obtain ⟨A', c', rfl, hc', hm', hr'⟩ := hr'
  rw [maxLen_eq] at hm hm'
  have HS := Lib.hid hr
  have HT := Lib.hid hr'
  clear hr hr'
  have hlb : ((l.length : Int) != l.length) = false := by simp
  go_enter Tryz.func29, Tryz.ntmps29
  go_wp2_with fail
  go_loopw [13] (fun v6 wr => ∃ k : Nat, k ≤ l.length ∧ v6 = .int .i64 k ∧ Hid (Below w.heap.size w wr)) (fun v6 _ => l.length - (intOf v6).toNat)
  case atStart => exact ⟨0, Nat.zero_le _, rfl, Lib.hid (Below.refl _ _)⟩
  case round =>
    obtain ⟨k, hk, rfl, HB⟩ := hrel
    have i0 : (0 : Int) ≤ (k : Int) := by omega
    by_cases hlt : k < l.length
    · obtain ⟨b, off, rfl, hbl, hcell⟩ := HS.out (by omega)
      obtain ⟨b', off', rfl, hbl', hcell'⟩ := HT.out (by omega)
      obtain ⟨x, hx⟩ : ∃ x, l[k]? = some x := ⟨_, List.getElem?_eq_getElem hlt⟩
      have c0 := cell_at hcell HB.out hbl (strs_get hx)
      have d0 := cell_at hcell' HB.out hbl' (strs_get hx)
      have e0 : (x.toList != x.toList) = false := by simp
      have i1 : (k : Int) < (l.length : Int) := by omega
      clear hcell hcell' hx
      go_wp2_with fail
      go_quiet (fail)
      go_wp2
      exact ⟨⟨k + 1, by omega, by go_num, Lib.hid (below_drewN HB.out _)⟩, by simp [intOf]; omega⟩
    · obtain rfl : k = l.length := by omega
      go_wp2
      go_ret
      exact ⟨rfl, HB.out⟩
set_option maxRecDepth 100000 in
set_option maxHeartbeats 1000000 in
theorem pHas_c (v : Value) (l : List ByteArray) (nm : ByteArray) (w : World) (hr : RdS w v l) :
    Calls Tryz.prog 31 #[v, .string nm] w fun en w' => en = .returned (.bool (hasN l nm)) ∧ Below w.heap.size w w' := by
  obtain ⟨A, c, rfl, hc, hm, hr⟩ := hr
  rw [maxLen_eq] at hm
  have HS := Lib.hid hr
  clear hr
  go_enter Tryz.func31, Tryz.ntmps31
  go_wp2_with fail
  go_loopw [9] (fun v6 wr => ∃ k : Nat, k ≤ l.length ∧ v6 = .int .i64 k ∧ Hid (nm ∉ l.take k) ∧ Hid (Below w.heap.size w wr)) (fun v6 _ => l.length - (intOf v6).toNat)
  case atStart => exact ⟨0, Nat.zero_le _, rfl, Lib.hid (by simp), Lib.hid (Below.refl _ _)⟩
  case round =>
    obtain ⟨k, hk, rfl, HN, HB⟩ := hrel
    have i0 : (0 : Int) ≤ (k : Int) := by omega
    by_cases hlt : k < l.length
    · obtain ⟨b, off, rfl, hbl, hcell⟩ := HS.out (by omega)
      obtain ⟨x, hx⟩ : ∃ x, l[k]? = some x := ⟨_, List.getElem?_eq_getElem hlt⟩
      have c0 := cell_at hcell HB.out hbl (strs_get hx)
      have HX := Lib.hid hx
      have i1 : (k : Int) < (l.length : Int) := by omega
      clear hcell hx
      by_cases hxe : x = nm
      · have e0 : (x.toList == nm.toList) = true := by rw [hxe]; simp
        have HY : Hid (hasN l nm = true) := Lib.hid (hasN_iff.2 (by rw [← hxe]; exact List.mem_of_getElem? HX.out))
        clear hxe
        go_wp2
        go_ret
        rw [HY.out]
        exact ⟨rfl, HB.out⟩
      · have e0 : (x.toList == nm.toList) = false := by rw [beq_nm]; exact decide_eq_false hxe
        have HN2 : Hid (nm ∉ l.take (k + 1)) := Lib.hid (by
          rw [take_succ_of HX.out]
          intro h
          rcases List.mem_append.1 h with h | h
          · exact HN.out h
          · exact hxe (List.mem_singleton.1 h).symm)
        clear hxe
        go_wp2
        exact ⟨⟨k + 1, by omega, by go_num, HN2, HB⟩, by simp [intOf]; omega⟩
    · obtain rfl : k = l.length := by omega
      have h := HN.out
      rw [List.take_length] at h
      have HY := Lib.hid (hasN_false h)
      clear h
      go_wp2
      go_ret
      rw [HY.out]
      exact ⟨rfl, HB.out⟩
theorem isFleetI_c (v : Value) (l : List Ap) (w : World) (hz : ∀ x ∈ l, x.nm.size ≤ 9223372036854775807) (hr : Rd w v l.length (l.flatMap Ap.cells)) :
    Calls Tryz.prog 13 #[v] w fun e w' => e = .returned (.bool (goodFl l)) ∧ Below w.heap.size w w' := by
  have HR := Lib.hid hr
  have HZ := Lib.hid hz
  clear hr hz
  go_enter Tryz.func13, Tryz.ntmps13
  go_wp2_with fail
  refine (isFleet_c v l _ HZ.out HR.out).mono ?_; rintro e w1 ⟨rfl, hb⟩
  have HB := Lib.hid hb
  clear hb
  go_wp2
  go_ret
  exact ⟨rfl, HB.out⟩
end Go.Proofs.YthgegghdkoeofaaGreatDoor

namespace Go.Proofs.YthgegghdkoeofaaGreatDoor
set_option linter.unusedVariables false
set_option linter.unusedSimpArgs false
open Go.RowKit

theorem pick_ge_auxS (f : List Ap) : ∀ (L : List Int) (st : List Int × List Int), (∀ y ∈ st.2, 0 ≤ y) → ∀ y ∈ (L.foldl (pickStep f) st).2, 0 ≤ y := by
  intro L
  induction L with
  | nil => intro st h; exact h
  | cons i L ih =>
    intro st h
    rw [List.foldl_cons]
    apply ih
    unfold pickStep
    split
    · rename_i hp
      intro y hy
      rcases List.mem_or_eq_of_mem_set hy with hy | rfl
      · exact h y hy
      · omega
    · exact h
theorem pick_geS {f : List Ap} {L need : List Int} (h : needB need = true) : ∀ y ∈ (pickL f L need).2, 0 ≤ y := pick_ge_auxS f L ([], need) (fun y hy => ((needB_true h).2 y hy).1)
theorem max_zero_aux : ∀ (l : List Int) (x : Int), 0 ≤ x → (∀ y ∈ l, 0 ≤ y) → (l.foldl max x == 0) = (inB x 0 0 && l.all fun y => inB y 0 0) := by
  intro l
  induction l with
  | nil =>
    intro x hx _
    simp only [List.foldl_nil, List.all_nil, Bool.and_true]
    unfold inB
    by_cases h : x = 0
    · subst h; rfl
    · rw [decide_eq_true hx, decide_eq_false (show ¬ x ≤ 0 by omega)]; simp [h]
  | cons y l ih =>
    intro x hx hl
    have hy := hl y (by simp)
    rw [List.foldl_cons, ih (max x y) (by omega) (fun z hz => hl z (by simp [hz])), List.all_cons, ← Bool.and_assoc]
    congr 1
    unfold inB
    rw [decide_eq_true hx, decide_eq_true hy, decide_eq_true (show 0 ≤ max x y by omega)]
    simp only [Bool.true_and]
    by_cases h1 : x ≤ 0
    · by_cases h2 : y ≤ 0
      · rw [decide_eq_true h1, decide_eq_true h2, decide_eq_true (show max x y ≤ 0 by omega)]; rfl
      · rw [decide_eq_false h2, decide_eq_false (show ¬ max x y ≤ 0 by omega)]; simp
    · rw [decide_eq_false h1, decide_eq_false (show ¬ max x y ≤ 0 by omega)]; simp
theorem max_zero {l : List Int} (hl : 0 < l.length) (h : ∀ y ∈ l, 0 ≤ y) : (maxL l == 0) = l.all fun y => inB y 0 0 := by
  cases l with
  | nil => simp at hl
  | cons x l => unfold maxL; rw [max_zero_aux l x (h x (by simp)) (fun y hy => h y (by simp [hy])), List.all_cons]
theorem any_gt (p : Int → Int) (limit : Int) (l : List Int) : (l.any fun i => decide (limit < p i)) = !(l.all fun i => decide (p i ≤ limit)) := by
  induction l with
  | nil => rfl
  | cons y l ih =>
    rw [List.any_cons, List.all_cons, ih]
    by_cases h : p y ≤ limit
    · rw [decide_eq_true h, decide_eq_false (show ¬ limit < p y by omega)]; simp
    · rw [decide_eq_false h, decide_eq_true (show limit < p y by omega)]; simp
theorem serv_at {l : List St} {f : List Ap} {need : List Int} {limit : Int} {N k : Nat} {ev M : List Int} (hne : needB need = true) (hev : distT N (arcs l) k = ev) (hM : (pickL f (readyL ev f) need).1 = M) :
    servP l f need limit N k = ((!(M.any fun i => decide (limit < rdyKey ev f i))) && (maxL (missL f M need) == 0)) := by
  have hm : missL f M need = (pickL f (readyL ev f) need).2 := by rw [← hM, pick_miss]
  have hlen : 0 < (missL f M need).length := by
    have : ∀ (L d : List Int), (missL f L d).length = d.length := by
      intro L
      induction L with
      | nil => intro d; rfl
      | cons i L ih => intro d; unfold missL; rw [List.foldl_cons]; have := ih (missStep f d i); unfold missL at this; rw [this]; unfold missStep; simp
    rw [this, (needB_true hne).1]; omega
  rw [max_zero hlen (by rw [hm]; exact pick_geS hne), any_gt, Bool.not_not, hm]
  unfold servP
  rw [hev, hM, Bool.and_comm]

set_option maxRecDepth 100000 in
set_option maxHeartbeats 2000000 in
theorem late_c (ev : List Int) (f : List Ap) (C D E h cap b off c n : Nat) (x limit : Int) (W : World) (hC : W.cell? ⟨C, 0, none⟩ = some (.slice (some ⟨h, 0, none⟩) n cap)) (hD : W.cell? ⟨D, 0, none⟩ = some (.slice (some ⟨b, off, none⟩) f.length c)) (hE : W.cell? ⟨E, 0, none⟩ = some (.int .i64 limit))
    (hev : ∀ j, j < n → W.cell? ⟨h, j, none⟩ = some (.int .i64 (ev.getD j 0))) (hcell : ∀ j u, (f.flatMap Ap.cells)[j]? = some u → W.cell? ⟨b, off + j, none⟩ = some u) (hbl : b < W.heap.size)
    (hnd : ∀ a ∈ f, 0 ≤ a.nd ∧ a.nd ≤ (n : Int) - 1) (hx : ∃ (i : Nat) (a : Ap), x = (i : Int) ∧ f[i]? = some a) :
    Calls Tryz.prog 101 (#[.int .i64 x] ++ #[.pointer (some ⟨C, 0, none⟩), .pointer (some ⟨D, 0, none⟩), .pointer (some ⟨E, 0, none⟩)]) W fun e W' => e = .returned (.bool (decide (limit < rdyKey ev f x))) ∧ Below W.heap.size W W' := by
  obtain ⟨i, a, rfl, ha⟩ := hx
  obtain ⟨c0, c1, c2, c3, c4⟩ := ap_at hcell (Below.refl _ _) hbl ha
  have ni := hnd _ (List.mem_of_getElem? ha)
  have hk := rdyKey_at (ev := ev) ha
  have hif : i < f.length := (List.getElem?_eq_some_iff.1 ha).1
  obtain ⟨nm, kd, nd, cr, sv⟩ := a
  dsimp only at ni hk c0 c1 c2 c3 c4
  obtain ⟨ni0, ni1⟩ := ni
  obtain ⟨p, rfl⟩ := Int.eq_ofNat_of_zero_le ni0
  rw [Int.toNat_natCast] at hk
  have e1 := hev p (by omega)
  obtain ⟨t, ht⟩ : ∃ t, ev.getD p 0 = t := ⟨_, rfl⟩
  rw [ht] at e1 hk
  have HK := Lib.hid hk
  have p1 : (p : Int) < (n : Int) := by omega
  have i0 : (0 : Int) ≤ (i : Int) := by omega
  have i1 : (i : Int) < (f.length : Int) := by omega
  clear hcell hev hnd ht hk ni1 ha
  go_enter Tryz.func101, Tryz.ntmps101
  go_wp2_with fail
  go_quiet (fail)
  go_wp2
  go_ret
  rw [HK.out]
  exact ⟨by first | rfl | simp, below_drewN (Below.refl _ _) _⟩
end Go.Proofs.YthgegghdkoeofaaGreatDoor

namespace Go.Proofs.YthgegghdkoeofaaGreatDoor
set_option linter.unusedVariables false
set_option linter.unusedSimpArgs false
open Go.RowKit

theorem missL_len3 (f : List Ap) : ∀ (L d : List Int), (missL f L d).length = d.length := by
  intro L
  induction L with
  | nil => intro d; rfl
  | cons i L ih => intro d; unfold missL; rw [List.foldl_cons]; have := ih (missStep f d i); unfold missL at this; rw [this]; unfold missStep; simp
theorem own_farS {w : World} {base : Nat} {e : TypeId} {sz : Nat} {v : Value} {n : Nat} {xs : List Value} (h : w.ownsRow base e sz v n xs) {g : Nat} (hne : ∀ q, v.ownBlock = some q → q ≠ g) (j : Nat) (u : Value) : (w.setCell ⟨g, j, none⟩ u).ownsRow base e sz v n xs :=
  h.kept (only_setCell (World.grownBy.refl w (some g)) j u) (by
    cases hv : v.ownBlock with
    | none => exact .inl rfl
    | some q => exact .inr (fun hq => hne q hv (Option.some.inj hq)))
set_option maxRecDepth 100000 in
set_option maxHeartbeats 8000000 in
theorem servedNodesI_c (n : Int) (s : Value) (l : List St) (v : Value) (f : List Ap) (vn : Value) (need : List Int) (limit : Int) (w : World) (hr : Rd w s l.length (l.flatMap St.cells)) (hz : ∀ x ∈ f, x.nm.size ≤ 9223372036854775807) (hf : Rd w v f.length (f.flatMap Ap.cells)) (hvn : RdI w vn need) :
    Calls Tryz.prog 36 #[.agg #[.int .i64 n, s], v, vn, .int .i64 limit] w (OwnIB (servedNodesV n l f need limit) w) := by
  have HR := Lib.hid hr
  have HF := Lib.hid hf
  have HZ := Lib.hid hz
  have HN := Lib.hid hvn
  have hEG : ∀ args w, (callFunc 101 args).run Tryz.prog w = .ok (.enter 101 args) w := enters_of Tryz.func101 (by kernel_rfl) rfl
  have EG := Lib.hid hEG
  obtain ⟨A, c, rfl, hc, hm, hcell0⟩ := hf
  rw [maxLen_eq] at hm
  have HCELL := Lib.hid hcell0
  obtain ⟨i0', hi, hz0, hz1, hz2⟩ := info_parts Tryz.infoInt
  clear hr hz hcell0 hvn hEG
  go_enter Tryz.func36, Tryz.ntmps36
  go_wp2_with fail
  generalize hW : World.alloc (World.alloc (World.alloc w _) _) _ = w1
  have k0 : w1.cell? ⟨w.heap.size, 0, none⟩ = some (.int .i64 n) := by subst hW; simp [go_sem]
  have k1 : w1.cell? ⟨w.heap.size, 1, none⟩ = some s := by subst hW; simp [go_sem]
  have k2 : w1.cell? ⟨w.heap.size + 1, 0, none⟩ = some (.slice A f.length c) := by subst hW; simp [go_sem]
  have k3 : w1.cell? ⟨w.heap.size + 1 + 1, 0, none⟩ = some (.int .i64 limit) := by subst hW; simp [go_sem]
  have hsz1 : w.heap.size + 1 + 1 < w1.heap.size := by subst hW; simp
  have hb0 : Below w.heap.size w w1 := by subst hW; exact bel_al (bel_al (bel_al (Below.refl _ _) _) _) _
  have HB := Lib.hid hb0
  clear hW
  refine (dispatchFits_c n s l _ f w.heap.size _ k0 k1 (rd_below HR.out HB.out) HZ.out (rd_below HF.out HB.out)).mono ?_; rintro e w2 ⟨rfl, hb1⟩
  have e0 := (hb1.cell (p := ⟨w.heap.size, 0, none⟩) (by show w.heap.size < _; omega)).trans k0
  have e1 := (hb1.cell (p := ⟨w.heap.size, 1, none⟩) (by show w.heap.size < _; omega)).trans k1
  have e2 := (hb1.cell (p := ⟨w.heap.size + 1, 0, none⟩) (by show w.heap.size + 1 < _; omega)).trans k2
  have e3 := (hb1.cell (p := ⟨w.heap.size + 1 + 1, 0, none⟩) (by show w.heap.size + 1 + 1 < _; omega)).trans k3
  have hs1 := hb1.size
  have HB1 := Lib.hid (bel_then HB.out hb1)
  clear k0 k1 k2 k3 hb0 hb1
  by_cases hg : goodDs n l f = true
  · have HDS := Lib.hid hg
    rw [hg]
    obtain ⟨hgt, hgf, hnd⟩ := goodDs_true hg
    obtain ⟨hn1, hn2, _⟩ := goodTown_true hgt
    obtain ⟨N, rfl⟩ := Int.eq_ofNat_of_zero_le (show 0 ≤ n by omega)
    have HGT := Lib.hid hgt
    have HGF := Lib.hid hgf
    have HND := Lib.hid hnd
    clear hg hgt hgf hnd
    go_wp2_with fail
    refine (isNeed_c _ need _ (rd_below HN.out HB1.out)).mono ?_; rintro e w3 ⟨rfl, rfl⟩
    by_cases hne : needB need = true
    · have HNE := Lib.hid hne
      rw [hne]
      clear hne
      go_wp2_with fail
      refine (inside_c limit 0 36000 _).mono ?_; rintro e w3 ⟨rfl, rfl⟩
      by_cases hli : inB limit 0 36000 = true
      · have HV := Lib.hid (serv_yes HDS.out HNE.out hli)
        have E0 := Lib.hid e0
        have E1 := Lib.hid e1
        have E2 := Lib.hid e2
        have E3 := Lib.hid e3
        rw [hli]
        clear hli
        go_wp2_with fail
        clear e0 e1 e2 e3
        go_loopw [10, 30] (fun vo vi wr => ∃ (k : Nat) (S : List Int), k ≤ N ∧ S.length ≤ k ∧ vi = .int .i64 k ∧ Hid (selD (servP l f need limit N) k = S) ∧ Hid (wr.ownsRow w2.heap.size 3 1 vo S.length (ints S)) ∧ Hid (Below w2.heap.size w2 wr)) (fun _ vi _ => N - (intOf vi).toNat)
        case atStart => exact ⟨0, [], Nat.zero_le _, Nat.le_refl _, rfl, Lib.hid rfl, Lib.hid (World.ownsRow_nil _ _ _ _), Lib.hid (Below.refl _ _)⟩
        case round =>
          obtain ⟨k, S, hk, hSk, rfl, HS, HOW, HBL⟩ := hrel
          obtain ⟨wA, rfl⟩ : ∃ wA : World, wA = wr := ⟨_, rfl⟩
          have hsA := HBL.out.size
          by_cases hlt : k < N
          · have t0 := (HBL.out.cell (p := ⟨w.heap.size, 0, none⟩) (by show w.heap.size < _; omega)).trans E0.out
            have t1 := (HBL.out.cell (p := ⟨w.heap.size, 1, none⟩) (by show w.heap.size < _; omega)).trans E1.out
            have t2 := (HBL.out.cell (p := ⟨w.heap.size + 1, 0, none⟩) (by show w.heap.size + 1 < _; omega)).trans E2.out
            have t3 := (HBL.out.cell (p := ⟨w.heap.size + 1 + 1, 0, none⟩) (by show w.heap.size + 1 + 1 < _; omega)).trans E3.out
            have HBA := Lib.hid (bel_then HB1.out HBL.out)
            have T0 := Lib.hid t0
            have T1 := Lib.hid t1
            have T3 := Lib.hid t3
            have hz0A : w.heap.size < wA.heap.size := by omega
            have hz1A : w.heap.size + 1 < wA.heap.size := by omega
            have hz2A : w.heap.size + 1 + 1 < wA.heap.size := by omega
            obtain ⟨ev, hev⟩ : ∃ ev, distT N (arcs l) k = ev := ⟨_, rfl⟩
            have hpm := pick_mem f (fun y => ∃ (i : Nat) (a : Ap), y = (i : Int) ∧ f[i]? = some a) (readyL ev f) need (fun y hy => by
              obtain ⟨i, a, h1, h2, _⟩ := readyL_mem hy
              exact ⟨i, a, h1, h2⟩)
            obtain ⟨M, hM⟩ : ∃ M, (pickL f (readyL ev f) need).1 = M := ⟨_, rfl⟩
            rw [hM] at hpm
            have HPM := Lib.hid hpm.1
            have hM12 := Nat.le_trans hpm.2 (Nat.le_trans (readyL_len _ _) (goodFl_true HGF.out).1)
            have HM12 := Lib.hid hM12
            have HEV := Lib.hid hev
            have HMM : Hid ((pickL f (readyL (distT N (arcs l) k) f) need).1 = M) := Lib.hid (by rw [hev]; exact hM)
            have HSERV := Lib.hid (serv_at (limit := limit) HNE.out hev hM)
            clear t0 t1 t3 hev hpm hM
            go_wp2_with fail
            go_region_held3 (fun W' => W'.cell? ⟨w.heap.size + 1, 0, none⟩ = some (.slice A f.length c) ∧ Below wA.heap.size wA W')
              (first | exact ⟨t2, bel_dr (Below.refl _ _)⟩ | exact ⟨(gC.cell (p := ⟨w.heap.size + 1, 0, none⟩) hz1A).trans t2, gC⟩ | exact ⟨(gT.cell (p := ⟨w.heap.size + 1, 0, none⟩) hz1A).trans t2, gT⟩ | exact ⟨((bel_al gC _).cell (p := ⟨w.heap.size + 1, 0, none⟩) hz1A).trans t2, bel_al gC _⟩ | exact ⟨((bel_al gT _).cell (p := ⟨w.heap.size + 1, 0, none⟩) hz1A).trans t2, bel_al gT _⟩ | exact ⟨(Below.cell (Below.setCell gC (by first | omega | (simp; done) | (simp; omega)) _) (p := ⟨w.heap.size + 1, 0, none⟩) hz1A).trans t2, (Below.setCell gC (by first | omega | (simp; done) | (simp; omega)) _)⟩ | exact ⟨(Below.cell (Below.setCell (bel_al gC _) (by first | omega | (simp; done) | (simp; omega)) _) (p := ⟨w.heap.size + 1, 0, none⟩) hz1A).trans t2, (Below.setCell (bel_al gC _) (by first | omega | (simp; done) | (simp; omega)) _)⟩ | exact ⟨(Below.cell (Below.setCell gT (by first | omega | (simp; done) | (simp; omega)) _) (p := ⟨w.heap.size + 1, 0, none⟩) hz1A).trans t2, (Below.setCell gT (by first | omega | (simp; done) | (simp; omega)) _)⟩ | exact ⟨(Below.cell (Below.setCell (bel_al gT _) (by first | omega | (simp; done) | (simp; omega)) _) (p := ⟨w.heap.size + 1, 0, none⟩) hz1A).trans t2, (Below.setCell (bel_al gT _) (by first | omega | (simp; done) | (simp; omega)) _)⟩ | exact ⟨(Below.cell (bel_dr (bel_al (Below.refl wA.heap.size wA) _)) (p := ⟨w.heap.size + 1, 0, none⟩) hz1A).trans t2, (bel_dr (bel_al (Below.refl wA.heap.size wA) _))⟩ | exact ⟨(Below.cell (bel_al (bel_dr (Below.refl wA.heap.size wA)) _) (p := ⟨w.heap.size + 1, 0, none⟩) hz1A).trans t2, (bel_al (bel_dr (Below.refl wA.heap.size wA)) _)⟩ | go_keep)
              (first | (go_at_call 93; refine (timesI_c N s l w.heap.size k _ HGT.out hlt ((Below.cell (And.right ‹_›) (p := ⟨w.heap.size, 0, none⟩) hz0A).trans T0.out) ((Below.cell (And.right ‹_›) (p := ⟨w.heap.size, 1, none⟩) hz0A).trans T1.out) (rd_below HR.out (bel_then HBA.out (And.right ‹_›)))).mono ?_; rintro e wT ⟨vT, rfl, hoT, hbT⟩; rw [show (distT N (arcs l) k).length = N by unfold distT; rw [iterT_len, startT_len]] at hoT; rw [HEV.out] at hoT; obtain ⟨hT, capT, rfl, hbhT, hhlT, hcapT, hcmT⟩ := own_shape hoT (by omega); have gT : Below wA.heap.size wA wT := bel_then (And.right ‹_›) hbT; have fT := bel_facts hbT; obtain ⟨fT1, fT2⟩ := fT; have sT := hbT.size; have sT2 := gT.size; try (have qT0 : wA.heap.size < wT.heap.size := (by have hh := hbT.size; simp at hh; omega)); try (have qT1 : wT.cell? ⟨wA.heap.size, 0, none⟩ = some (.slice none 0 0) := (hbT.cell (p := ⟨wA.heap.size, 0, none⟩) (by first | assumption | (simp; done) | (simp; omega))).trans (by first | assumption | (simp [go_sem]; done))); try (have qT2 : wT.frozen? ⟨wA.heap.size, 0, none⟩ = false := (hbT.frozen (p := ⟨wA.heap.size, 0, none⟩) (by first | assumption | (simp; done) | (simp; omega))).trans (by first | assumption | (simp [go_sem]; done)))) | (go_at_call 99; refine (choose_c N s l _ f k w.heap.size _ need _ HGT.out HGF.out HND.out hlt HNE.out ((Below.cell (And.right ‹_›) (p := ⟨w.heap.size, 0, none⟩) hz0A).trans T0.out) ((Below.cell (And.right ‹_›) (p := ⟨w.heap.size, 1, none⟩) hz0A).trans T1.out) (rd_below HR.out (bel_then HBA.out (And.right ‹_›))) (rd_below HF.out (bel_then HBA.out (And.right ‹_›))) (rd_below HN.out (bel_then HBA.out (And.right ‹_›)))).mono ?_; rintro e wC ⟨vC, rfl, hoC, hbC⟩; rw [HMM.out] at hoC; obtain ⟨AM, cM, rfl, hcM, hmM, hcellM⟩ := rdi_own hoC; have gC : Below wA.heap.size wA wC := bel_then (And.right ‹_›) hbC; have fC := bel_facts hbC; obtain ⟨fC1, fC2⟩ := fC; have sC := hbC.size; have sC2 := gC.size; try (have qC0 : wA.heap.size < wC.heap.size := (by have hh := hbC.size; simp at hh; omega)); try (have qC1 : wC.cell? ⟨wA.heap.size, 0, none⟩ = some (.slice none 0 0) := (hbC.cell (p := ⟨wA.heap.size, 0, none⟩) (by first | assumption | (simp; done) | (simp; omega))).trans (by first | assumption | (simp [go_sem]; done))); try (have qC2 : wC.frozen? ⟨wA.heap.size, 0, none⟩ = false := (hbC.frozen (p := ⟨wA.heap.size, 0, none⟩) (by first | assumption | (simp; done) | (simp; omega))).trans (by first | assumption | (simp [go_sem]; done)))) | fail)
            · have x12 : (wC.alloc (Obj.cells #[(.slice (some ⟨hT, 0, none⟩) N capT)] 48)).cell? ⟨wC.heap.size, 0, none⟩ = some (.slice (some ⟨hT, 0, none⟩) N capT) := by simp [go_sem]
              have hTF : (wC.alloc (Obj.cells #[(.slice (some ⟨hT, 0, none⟩) N capT)] 48)).ownsRow wA.heap.size 3 1 (.slice (some ⟨hT, 0, none⟩) N capT) N (ints ev) := ((own_below (own_base hoT (by simp)) hbC).alloc _)
              have hCF : (wC.alloc (Obj.cells #[(.slice (some ⟨hT, 0, none⟩) N capT)] 48)).ownsRow wA.heap.size 3 1 (.slice AM M.length cM) M.length (ints M) := ((own_base hoC (by have := gT.size; omega)).alloc _)
              have gF : Below wA.heap.size wA (wC.alloc (Obj.cells #[(.slice (some ⟨hT, 0, none⟩) N capT)] 48)) := bel_al gC _
              obtain ⟨wF, hwF⟩ : ∃ wF, (wC.alloc (Obj.cells #[(.slice (some ⟨hT, 0, none⟩) N capT)] 48)) = wF := ⟨_, rfl⟩
              obtain ⟨B, hB⟩ : ∃ B, wC.heap.size = B := ⟨_, rfl⟩
              rw [hwF] at x12 hTF hCF gF ⊢
              rw [hB] at x12 ⊢
              clear hwF hB hoT hoC gT gC hbT hbC fT1 fT2 fC1 fC2
              have HTF := Lib.hid hTF
              have HCF := Lib.hid hCF
              have hsF := gF.size
              have HBF := Lib.hid (bel_then HBL.out gF)
              have HGF2 := Lib.hid gF
              have HOWF := Lib.hid (own_below HOW.out gF)
              have y5 := (gF.cell (p := ⟨w.heap.size + 1, 0, none⟩) hz1A).trans t2
              have y7 := (gF.cell (p := ⟨w.heap.size + 1 + 1, 0, none⟩) hz2A).trans T3.out
              have hX12 : B < wF.heap.size := World.block_lt_of_cell? _ _ x12
              have hsay : SaysI 101 #[.pointer (some ⟨B, 0, none⟩), .pointer (some ⟨w.heap.size + 1, 0, none⟩), .pointer (some ⟨w.heap.size + 1 + 1, 0, none⟩)] (fun x => decide (limit < rdyKey ev f x)) M wF := fun x hx W hW => by
                obtain ⟨i, a, rfl, ha⟩ := HPM.out x hx
                have hif : i < f.length := (List.getElem?_eq_some_iff.1 ha).1
                obtain ⟨b, off, rfl, hbl, hcell⟩ := HCELL.out (by omega)
                exact late_c ev f B (w.heap.size + 1) (w.heap.size + 1 + 1) hT capT b off c N i limit W ((hW.cell (p := ⟨B, 0, none⟩) hX12).trans x12) ((hW.cell (p := ⟨w.heap.size + 1, 0, none⟩) (by show w.heap.size + 1 < _; omega)).trans y5) ((hW.cell (p := ⟨w.heap.size + 1 + 1, 0, none⟩) (by show w.heap.size + 1 + 1 < _; omega)).trans y7)
                  (fun j hj => (hW.cell (p := ⟨hT, j, none⟩) (HTF.out.lt hT rfl).2).trans (own_cell HTF.out hj)) (fun j u hu => ((bel_then (bel_then (bel_then HB1.out HBL.out) HGF2.out) hW).cell (p := ⟨b, off + j, none⟩) hbl).trans (hcell j u hu)) (Nat.lt_of_lt_of_le hbl (bel_then (bel_then (bel_then HB1.out HBL.out) HGF2.out) hW).size) HND.out ⟨i, a, rfl, ha⟩
              have HSAY := Lib.hid hsay
              have Y5 := Lib.hid y5
              clear hTF hCF gF y5 y7 x12 hsay t2
              go_wp2_with fail
              refine (containsI_c 101 _ EG.out (fun x => decide (limit < rdyKey ev f x)) _ M _ HSAY.out (rdi_own HCF.out)).mono ?_
              rintro e wG ⟨rfl, hbG⟩
              have HBG := Lib.hid (bel_then HBF.out hbG)
              have HOWG := Lib.hid (own_below HOWF.out hbG)
              have HCG := Lib.hid (own_below HCF.out hbG)
              have HAG := Lib.hid (bel_then (bel_then (bel_then HB1.out HBL.out) HGF2.out) hbG)
              have z5 := (hbG.cell (p := ⟨w.heap.size + 1, 0, none⟩) (by show w.heap.size + 1 < _; omega)).trans Y5.out
              clear hbG
              by_cases hlate : (M.any fun x => decide (limit < rdyKey ev f x)) = true
              · have HNO : Hid (selD (servP l f need limit N) (k + 1) = S) := Lib.hid (by rw [selD_no (by rw [HSERV.out, hlate]; rfl), HS.out])
                rw [hlate]
                go_wp2
                exact ⟨⟨k + 1, S, by omega, by omega, by go_num, HNO, HOWG, HBG⟩, by simp [intOf]; omega⟩
              · have hlate : (M.any fun x => decide (limit < rdyKey ev f x)) = false := by simpa using hlate
                have HSV2 : Hid (servP l f need limit N k = (maxL (missL f M need) == 0)) := Lib.hid (by rw [HSERV.out, hlate]; rfl)
                rw [hlate]
                clear hlate
                go_wp2_with fail
                refine (missing_c _ f _ M _ need _ HGF.out HNE.out HPM.out HM12.out (rd_below HF.out HAG.out) (rdi_own HCG.out) (rd_below HN.out HAG.out)).mono ?_
                rintro e wH ⟨v6, rfl, ho6, hbH⟩
                have hl6 : 0 < (missL f M need).length := by rw [missL_len3, (needB_true HNE.out).1]; omega
                have HO6 := Lib.hid ho6
                have HL6 := Lib.hid hl6
                have HBH := Lib.hid (bel_then HBG.out hbH)
                have HOWH := Lib.hid (own_below HOWG.out hbH)
                clear ho6 hbH z5 hl6
                go_wp2_with fail
                refine (max_c _ (missL f M need) _ (rdi_own HO6.out) HL6.out).mono ?_; rintro e wI ⟨rfl, rfl⟩
                obtain ⟨mx, hmx⟩ : ∃ mx, maxL (missL f M need) = mx := ⟨_, rfl⟩
                have hsv := HSV2.out
                rw [hmx] at hsv ⊢
                have HSV3 := Lib.hid hsv
                clear hsv hmx
                by_cases hm0 : (mx == 0) = true
                · have HYES : Hid (selD (servP l f need limit N) (k + 1) = S ++ [(k : Int)]) := Lib.hid (by rw [selD_yes (by rw [HSV3.out]; exact hm0), HS.out])
                  go_wp2_with (at_builtin; refine wpList_app_rd _ rfl _ _ 48 rfl w2.heap.size 3 i0' (.int .i64 0) 1 8 Tryz.underlying48 hi hz0 hz1 hz2 rfl (by decide) _ _ _ rfl (HOWH.out.alloc _) _ 1 [.int .i64 k] rfl (rd_new _ rfl (Nat.le_refl _) (by rw [maxLen_eq]; omega)) rfl (ints_one [(k : Int)]) (by rw [maxLen_eq]; omega) (by omega) (by have := HBH.out.size; simp; omega) ?_; intro v7 w7 hown7 hgrow7 _)
                  refine ⟨⟨k + 1, S ++ [(k : Int)], by omega, by simp; omega, by go_num, HYES, Lib.hid ?_, Lib.hid (bel_grown (bel_al HBH.out _) hgrow7 (fun q e => (HOW.out.lt q e).1))⟩, by simp [intOf]; omega⟩
                  rw [ints_append, List.length_append]; exact hown7
                · have hm0 : (mx == 0) = false := by simpa using hm0
                  have HNO : Hid (selD (servP l f need limit N) (k + 1) = S) := Lib.hid (by rw [selD_no (by rw [HSV3.out]; exact hm0), HS.out])
                  go_wp2
                  exact ⟨⟨k + 1, S, by omega, by omega, by go_num, HNO, HOWH, HBH⟩, by simp [intOf]; omega⟩
            · have x12 : (wC.setCell ⟨wT.heap.size, 0, none⟩ (.slice (some ⟨hT, 0, none⟩) N capT)).cell? ⟨wT.heap.size, 0, none⟩ = some (.slice (some ⟨hT, 0, none⟩) N capT) := by (have hh : wC.cell? ⟨wT.heap.size, 0, none⟩ = some (.slice none 0 0) := (fC1 _ 0 (by simp)).trans (by simp [go_sem])); (first | exact World.cell?_setCell_same _ _ _ hh | exact World.cell?_setCell_same hh | exact World.cell?_setCell_same _ hh | exact World.cell?_setCell_same _ _ hh)
              have hTF : (wC.setCell ⟨wT.heap.size, 0, none⟩ (.slice (some ⟨hT, 0, none⟩) N capT)).ownsRow wA.heap.size 3 1 (.slice (some ⟨hT, 0, none⟩) N capT) N (ints ev) := own_farS (own_below ((own_base hoT (by simp)).alloc _) hbC) (fun q e => by have h9 : hT = q := Option.some.inj e; omega) _ _
              have hCF : (wC.setCell ⟨wT.heap.size, 0, none⟩ (.slice (some ⟨hT, 0, none⟩) N capT)).ownsRow wA.heap.size 3 1 (.slice AM M.length cM) M.length (ints M) := own_farS (own_base hoC (by have := gT.size; simp; omega)) (fun q e => by have := (hoC.lt q e).1; simp at this; omega) _ _
              have gF : Below wA.heap.size wA (wC.setCell ⟨wT.heap.size, 0, none⟩ (.slice (some ⟨hT, 0, none⟩) N capT)) := Below.setCell gC (by have := gT.size; omega) _
              obtain ⟨wF, hwF⟩ : ∃ wF, (wC.setCell ⟨wT.heap.size, 0, none⟩ (.slice (some ⟨hT, 0, none⟩) N capT)) = wF := ⟨_, rfl⟩
              obtain ⟨B, hB⟩ : ∃ B, wT.heap.size = B := ⟨_, rfl⟩
              rw [hwF] at x12 hTF hCF gF ⊢
              rw [hB] at x12 ⊢
              clear hwF hB hoT hoC gT gC hbT hbC fT1 fT2 fC1 fC2
              have HTF := Lib.hid hTF
              have HCF := Lib.hid hCF
              have hsF := gF.size
              have HBF := Lib.hid (bel_then HBL.out gF)
              have HGF2 := Lib.hid gF
              have HOWF := Lib.hid (own_below HOW.out gF)
              have y5 := (gF.cell (p := ⟨w.heap.size + 1, 0, none⟩) hz1A).trans t2
              have y7 := (gF.cell (p := ⟨w.heap.size + 1 + 1, 0, none⟩) hz2A).trans T3.out
              have hX12 : B < wF.heap.size := World.block_lt_of_cell? _ _ x12
              have hsay : SaysI 101 #[.pointer (some ⟨B, 0, none⟩), .pointer (some ⟨w.heap.size + 1, 0, none⟩), .pointer (some ⟨w.heap.size + 1 + 1, 0, none⟩)] (fun x => decide (limit < rdyKey ev f x)) M wF := fun x hx W hW => by
                obtain ⟨i, a, rfl, ha⟩ := HPM.out x hx
                have hif : i < f.length := (List.getElem?_eq_some_iff.1 ha).1
                obtain ⟨b, off, rfl, hbl, hcell⟩ := HCELL.out (by omega)
                exact late_c ev f B (w.heap.size + 1) (w.heap.size + 1 + 1) hT capT b off c N i limit W ((hW.cell (p := ⟨B, 0, none⟩) hX12).trans x12) ((hW.cell (p := ⟨w.heap.size + 1, 0, none⟩) (by show w.heap.size + 1 < _; omega)).trans y5) ((hW.cell (p := ⟨w.heap.size + 1 + 1, 0, none⟩) (by show w.heap.size + 1 + 1 < _; omega)).trans y7)
                  (fun j hj => (hW.cell (p := ⟨hT, j, none⟩) (HTF.out.lt hT rfl).2).trans (own_cell HTF.out hj)) (fun j u hu => ((bel_then (bel_then (bel_then HB1.out HBL.out) HGF2.out) hW).cell (p := ⟨b, off + j, none⟩) hbl).trans (hcell j u hu)) (Nat.lt_of_lt_of_le hbl (bel_then (bel_then (bel_then HB1.out HBL.out) HGF2.out) hW).size) HND.out ⟨i, a, rfl, ha⟩
              have HSAY := Lib.hid hsay
              have Y5 := Lib.hid y5
              clear hTF hCF gF y5 y7 x12 hsay t2
              go_wp2_with fail
              refine (containsI_c 101 _ EG.out (fun x => decide (limit < rdyKey ev f x)) _ M _ HSAY.out (rdi_own HCF.out)).mono ?_
              rintro e wG ⟨rfl, hbG⟩
              have HBG := Lib.hid (bel_then HBF.out hbG)
              have HOWG := Lib.hid (own_below HOWF.out hbG)
              have HCG := Lib.hid (own_below HCF.out hbG)
              have HAG := Lib.hid (bel_then (bel_then (bel_then HB1.out HBL.out) HGF2.out) hbG)
              have z5 := (hbG.cell (p := ⟨w.heap.size + 1, 0, none⟩) (by show w.heap.size + 1 < _; omega)).trans Y5.out
              clear hbG
              by_cases hlate : (M.any fun x => decide (limit < rdyKey ev f x)) = true
              · have HNO : Hid (selD (servP l f need limit N) (k + 1) = S) := Lib.hid (by rw [selD_no (by rw [HSERV.out, hlate]; rfl), HS.out])
                rw [hlate]
                go_wp2
                exact ⟨⟨k + 1, S, by omega, by omega, by go_num, HNO, HOWG, HBG⟩, by simp [intOf]; omega⟩
              · have hlate : (M.any fun x => decide (limit < rdyKey ev f x)) = false := by simpa using hlate
                have HSV2 : Hid (servP l f need limit N k = (maxL (missL f M need) == 0)) := Lib.hid (by rw [HSERV.out, hlate]; rfl)
                rw [hlate]
                clear hlate
                go_wp2_with fail
                refine (missing_c _ f _ M _ need _ HGF.out HNE.out HPM.out HM12.out (rd_below HF.out HAG.out) (rdi_own HCG.out) (rd_below HN.out HAG.out)).mono ?_
                rintro e wH ⟨v6, rfl, ho6, hbH⟩
                have hl6 : 0 < (missL f M need).length := by rw [missL_len3, (needB_true HNE.out).1]; omega
                have HO6 := Lib.hid ho6
                have HL6 := Lib.hid hl6
                have HBH := Lib.hid (bel_then HBG.out hbH)
                have HOWH := Lib.hid (own_below HOWG.out hbH)
                clear ho6 hbH z5 hl6
                go_wp2_with fail
                refine (max_c _ (missL f M need) _ (rdi_own HO6.out) HL6.out).mono ?_; rintro e wI ⟨rfl, rfl⟩
                obtain ⟨mx, hmx⟩ : ∃ mx, maxL (missL f M need) = mx := ⟨_, rfl⟩
                have hsv := HSV2.out
                rw [hmx] at hsv ⊢
                have HSV3 := Lib.hid hsv
                clear hsv hmx
                by_cases hm0 : (mx == 0) = true
                · have HYES : Hid (selD (servP l f need limit N) (k + 1) = S ++ [(k : Int)]) := Lib.hid (by rw [selD_yes (by rw [HSV3.out]; exact hm0), HS.out])
                  go_wp2_with (at_builtin; refine wpList_app_rd _ rfl _ _ 48 rfl w2.heap.size 3 i0' (.int .i64 0) 1 8 Tryz.underlying48 hi hz0 hz1 hz2 rfl (by decide) _ _ _ rfl (HOWH.out.alloc _) _ 1 [.int .i64 k] rfl (rd_new _ rfl (Nat.le_refl _) (by rw [maxLen_eq]; omega)) rfl (ints_one [(k : Int)]) (by rw [maxLen_eq]; omega) (by omega) (by have := HBH.out.size; simp; omega) ?_; intro v7 w7 hown7 hgrow7 _)
                  refine ⟨⟨k + 1, S ++ [(k : Int)], by omega, by simp; omega, by go_num, HYES, Lib.hid ?_, Lib.hid (bel_grown (bel_al HBH.out _) hgrow7 (fun q e => (HOW.out.lt q e).1))⟩, by simp [intOf]; omega⟩
                  rw [ints_append, List.length_append]; exact hown7
                · have hm0 : (mx == 0) = false := by simpa using hm0
                  have HNO : Hid (selD (servP l f need limit N) (k + 1) = S) := Lib.hid (by rw [selD_no (by rw [HSV3.out]; exact hm0), HS.out])
                  go_wp2
                  exact ⟨⟨k + 1, S, by omega, by omega, by go_num, HNO, HOWH, HBH⟩, by simp [intOf]; omega⟩
            · have x12 : (wC.setCell ⟨wA.heap.size, 0, none⟩ (.slice (some ⟨hT, 0, none⟩) N capT)).cell? ⟨wA.heap.size, 0, none⟩ = some (.slice (some ⟨hT, 0, none⟩) N capT) := by (have hh : wC.cell? ⟨wA.heap.size, 0, none⟩ = some (.slice none 0 0) := ((hbC.cell (p := ⟨wA.heap.size, 0, none⟩) (by have h9 := hbT.size; simp at h9; show wA.heap.size < _; omega)).trans ((hbT.cell (p := ⟨wA.heap.size, 0, none⟩) (by simp)).trans (by simp [go_sem])))); (first | exact World.cell?_setCell_same _ _ _ hh | exact World.cell?_setCell_same hh | exact World.cell?_setCell_same _ hh | exact World.cell?_setCell_same _ _ hh)
              have hTF : (wC.setCell ⟨wA.heap.size, 0, none⟩ (.slice (some ⟨hT, 0, none⟩) N capT)).ownsRow wA.heap.size 3 1 (.slice (some ⟨hT, 0, none⟩) N capT) N (ints ev) := own_farS (own_below (own_base hoT (by simp)) hbC) (fun q e => by have h9 : hT = q := Option.some.inj e; simp at hbhT; omega) _ _
              have hCF : (wC.setCell ⟨wA.heap.size, 0, none⟩ (.slice (some ⟨hT, 0, none⟩) N capT)).ownsRow wA.heap.size 3 1 (.slice AM M.length cM) M.length (ints M) := own_farS (own_base hoC (by have := gT.size; omega)) (fun q e => by have := (hoC.lt q e).1; omega) _ _
              have gF : Below wA.heap.size wA (wC.setCell ⟨wA.heap.size, 0, none⟩ (.slice (some ⟨hT, 0, none⟩) N capT)) := Below.setCell gC (Nat.le_refl _) _
              obtain ⟨wF, hwF⟩ : ∃ wF, (wC.setCell ⟨wA.heap.size, 0, none⟩ (.slice (some ⟨hT, 0, none⟩) N capT)) = wF := ⟨_, rfl⟩
              obtain ⟨B, hB⟩ : ∃ B, wA.heap.size = B := ⟨_, rfl⟩
              rw [hwF] at x12 hTF hCF gF ⊢
              rw [hB] at x12 ⊢
              clear hwF hB hoT hoC gT gC hbT hbC fT1 fT2 fC1 fC2
              have HTF := Lib.hid hTF
              have HCF := Lib.hid hCF
              have hsF := gF.size
              have HBF := Lib.hid (bel_then HBL.out gF)
              have HGF2 := Lib.hid gF
              have HOWF := Lib.hid (own_below HOW.out gF)
              have y5 := (gF.cell (p := ⟨w.heap.size + 1, 0, none⟩) hz1A).trans t2
              have y7 := (gF.cell (p := ⟨w.heap.size + 1 + 1, 0, none⟩) hz2A).trans T3.out
              have hX12 : B < wF.heap.size := World.block_lt_of_cell? _ _ x12
              have hsay : SaysI 101 #[.pointer (some ⟨B, 0, none⟩), .pointer (some ⟨w.heap.size + 1, 0, none⟩), .pointer (some ⟨w.heap.size + 1 + 1, 0, none⟩)] (fun x => decide (limit < rdyKey ev f x)) M wF := fun x hx W hW => by
                obtain ⟨i, a, rfl, ha⟩ := HPM.out x hx
                have hif : i < f.length := (List.getElem?_eq_some_iff.1 ha).1
                obtain ⟨b, off, rfl, hbl, hcell⟩ := HCELL.out (by omega)
                exact late_c ev f B (w.heap.size + 1) (w.heap.size + 1 + 1) hT capT b off c N i limit W ((hW.cell (p := ⟨B, 0, none⟩) hX12).trans x12) ((hW.cell (p := ⟨w.heap.size + 1, 0, none⟩) (by show w.heap.size + 1 < _; omega)).trans y5) ((hW.cell (p := ⟨w.heap.size + 1 + 1, 0, none⟩) (by show w.heap.size + 1 + 1 < _; omega)).trans y7)
                  (fun j hj => (hW.cell (p := ⟨hT, j, none⟩) (HTF.out.lt hT rfl).2).trans (own_cell HTF.out hj)) (fun j u hu => ((bel_then (bel_then (bel_then HB1.out HBL.out) HGF2.out) hW).cell (p := ⟨b, off + j, none⟩) hbl).trans (hcell j u hu)) (Nat.lt_of_lt_of_le hbl (bel_then (bel_then (bel_then HB1.out HBL.out) HGF2.out) hW).size) HND.out ⟨i, a, rfl, ha⟩
              have HSAY := Lib.hid hsay
              have Y5 := Lib.hid y5
              clear hTF hCF gF y5 y7 x12 hsay t2
              go_wp2_with fail
              refine (containsI_c 101 _ EG.out (fun x => decide (limit < rdyKey ev f x)) _ M _ HSAY.out (rdi_own HCF.out)).mono ?_
              rintro e wG ⟨rfl, hbG⟩
              have HBG := Lib.hid (bel_then HBF.out hbG)
              have HOWG := Lib.hid (own_below HOWF.out hbG)
              have HCG := Lib.hid (own_below HCF.out hbG)
              have HAG := Lib.hid (bel_then (bel_then (bel_then HB1.out HBL.out) HGF2.out) hbG)
              have z5 := (hbG.cell (p := ⟨w.heap.size + 1, 0, none⟩) (by show w.heap.size + 1 < _; omega)).trans Y5.out
              clear hbG
              by_cases hlate : (M.any fun x => decide (limit < rdyKey ev f x)) = true
              · have HNO : Hid (selD (servP l f need limit N) (k + 1) = S) := Lib.hid (by rw [selD_no (by rw [HSERV.out, hlate]; rfl), HS.out])
                rw [hlate]
                go_wp2
                exact ⟨⟨k + 1, S, by omega, by omega, by go_num, HNO, HOWG, HBG⟩, by simp [intOf]; omega⟩
              · have hlate : (M.any fun x => decide (limit < rdyKey ev f x)) = false := by simpa using hlate
                have HSV2 : Hid (servP l f need limit N k = (maxL (missL f M need) == 0)) := Lib.hid (by rw [HSERV.out, hlate]; rfl)
                rw [hlate]
                clear hlate
                go_wp2_with fail
                refine (missing_c _ f _ M _ need _ HGF.out HNE.out HPM.out HM12.out (rd_below HF.out HAG.out) (rdi_own HCG.out) (rd_below HN.out HAG.out)).mono ?_
                rintro e wH ⟨v6, rfl, ho6, hbH⟩
                have hl6 : 0 < (missL f M need).length := by rw [missL_len3, (needB_true HNE.out).1]; omega
                have HO6 := Lib.hid ho6
                have HL6 := Lib.hid hl6
                have HBH := Lib.hid (bel_then HBG.out hbH)
                have HOWH := Lib.hid (own_below HOWG.out hbH)
                clear ho6 hbH z5 hl6
                go_wp2_with fail
                refine (max_c _ (missL f M need) _ (rdi_own HO6.out) HL6.out).mono ?_; rintro e wI ⟨rfl, rfl⟩
                obtain ⟨mx, hmx⟩ : ∃ mx, maxL (missL f M need) = mx := ⟨_, rfl⟩
                have hsv := HSV2.out
                rw [hmx] at hsv ⊢
                have HSV3 := Lib.hid hsv
                clear hsv hmx
                by_cases hm0 : (mx == 0) = true
                · have HYES : Hid (selD (servP l f need limit N) (k + 1) = S ++ [(k : Int)]) := Lib.hid (by rw [selD_yes (by rw [HSV3.out]; exact hm0), HS.out])
                  go_wp2_with (at_builtin; refine wpList_app_rd _ rfl _ _ 48 rfl w2.heap.size 3 i0' (.int .i64 0) 1 8 Tryz.underlying48 hi hz0 hz1 hz2 rfl (by decide) _ _ _ rfl (HOWH.out.alloc _) _ 1 [.int .i64 k] rfl (rd_new _ rfl (Nat.le_refl _) (by rw [maxLen_eq]; omega)) rfl (ints_one [(k : Int)]) (by rw [maxLen_eq]; omega) (by omega) (by have := HBH.out.size; simp; omega) ?_; intro v7 w7 hown7 hgrow7 _)
                  refine ⟨⟨k + 1, S ++ [(k : Int)], by omega, by simp; omega, by go_num, HYES, Lib.hid ?_, Lib.hid (bel_grown (bel_al HBH.out _) hgrow7 (fun q e => (HOW.out.lt q e).1))⟩, by simp [intOf]; omega⟩
                  rw [ints_append, List.length_append]; exact hown7
                · have hm0 : (mx == 0) = false := by simpa using hm0
                  have HNO : Hid (selD (servP l f need limit N) (k + 1) = S) := Lib.hid (by rw [selD_no (by rw [HSV3.out]; exact hm0), HS.out])
                  go_wp2
                  exact ⟨⟨k + 1, S, by omega, by omega, by go_num, HNO, HOWH, HBH⟩, by simp [intOf]; omega⟩
          · obtain rfl : k = N := by omega
            go_wp2
            go_ret2
            rw [HV.out, HS.out]
            exact ⟨_, rfl, own_base HOW.out HB1.out.size, bel_then HB1.out HBL.out⟩
      · have hli : inB limit 0 36000 = false := by simpa using hli
        have HV := Lib.hid (serv_no3 (n := N) (l := l) (f := f) (need := need) hli)
        rw [hli]
        go_wp2
        go_ret2
        rw [HV.out]
        exact ⟨_, rfl, World.ownsRow_nil _ _ _ _, HB1.out⟩
    · have hne : needB need = false := by simpa using hne
      have HV := Lib.hid (serv_no2 (n := N) (l := l) (f := f) (limit := limit) hne)
      rw [hne]
      go_wp2
      go_ret2
      rw [HV.out]
      exact ⟨_, rfl, World.ownsRow_nil _ _ _ _, HB1.out⟩
  · have hg : goodDs n l f = false := by simpa using hg
    have HV := Lib.hid (serv_no1 (need := need) (limit := limit) hg)
    rw [hg]
    go_wp2
    go_ret2
    rw [HV.out]
    exact ⟨_, rfl, World.ownsRow_nil _ _ _ _, HB1.out⟩
end Go.Proofs.YthgegghdkoeofaaGreatDoor

namespace Go.Proofs.YthgegghdkoeofaaGreatDoor
set_option linter.unusedVariables false
set_option linter.unusedSimpArgs false
open Go.RowKit

def OwnStB (r : List ByteArray × Bool) (w : World) (e : Ending) (w' : World) : Prop := ∃ x, e = .returned (.tuple #[x, .bool r.2]) ∧ w'.ownsRow w.heap.size 9 1 x r.1.length (strs r.1) ∧ Below w.heap.size w w'
def nmAt (f : List Ap) (i : Int) : ByteArray := match f[i.toNat]? with
  | some a => a.nm
  | none => ⟨#[]⟩
theorem nmAt_at {f : List Ap} {i : Nat} {a : Ap} (h : f[i]? = some a) : nmAt f (i : Int) = a.nm := by unfold nmAt; rw [Int.toNat_natCast, h]
def namesW (f : List Ap) (ev : List Int) (limit : Int) (L : List Int) : List ByteArray := (L.filter fun i => decide (rdyKey ev f i ≤ limit)).map (nmAt f)
theorem namesW_yes {f : List Ap} {ev : List Int} {limit : Int} {L : List Int} {k : Nat} {y : Int} (h : L[k]? = some y) (hy : rdyKey ev f y ≤ limit) : namesW f ev limit (L.take (k + 1)) = namesW f ev limit (L.take k) ++ [nmAt f y] := by
  unfold namesW; rw [take_succ_of h, List.filter_append, List.map_append]; simp [hy]
theorem namesW_no {f : List Ap} {ev : List Int} {limit : Int} {L : List Int} {k : Nat} {y : Int} (h : L[k]? = some y) (hy : limit < rdyKey ev f y) : namesW f ev limit (L.take (k + 1)) = namesW f ev limit (L.take k) := by
  unfold namesW; rw [take_succ_of h, List.filter_append, List.map_append]; simp [show ¬ rdyKey ev f y ≤ limit by omega]
theorem namesW_len (f : List Ap) (ev : List Int) (limit : Int) (L : List Int) : (namesW f ev limit L).length ≤ L.length := by
  unfold namesW; rw [List.length_map]; exact List.length_filter_le _ _
theorem strs_append (a b : List ByteArray) : strs (a ++ b) = strs a ++ strs b := by simp [strs]
def withinTimeV (n : Int) (l : List St) (f : List Ap) (x limit : Int) : List ByteArray × Bool :=
  if askD n l f x = true ∧ inB limit 0 36000 = true then (namesW f (distT n.toNat (arcs l) x.toNat) limit (readyL (distT n.toNat (arcs l) x.toNat) f), true) else ([], false)
theorem within_no1 {n : Int} {l : List St} {f : List Ap} {x limit : Int} (h : askD n l f x = false) : withinTimeV n l f x limit = ([], false) := by unfold withinTimeV; rw [if_neg (by rw [h]; simp)]
theorem within_no2 {n : Int} {l : List St} {f : List Ap} {x limit : Int} (h : inB limit 0 36000 = false) : withinTimeV n l f x limit = ([], false) := by unfold withinTimeV; rw [if_neg (by rw [h]; simp)]
theorem within_yes {n src : Nat} {l : List St} {f : List Ap} {limit : Int} (h : askD n l f src = true) (h2 : inB limit 0 36000 = true) : withinTimeV n l f src limit = (namesW f (distT n (arcs l) src) limit (readyL (distT n (arcs l) src) f), true) := by
  unfold withinTimeV; rw [if_pos ⟨h, h2⟩, Int.toNat_natCast, Int.toNat_natCast]
theorem withinTimeV_len (n : Int) (l : List St) (f : List Ap) (x limit : Int) : (withinTimeV n l f x limit).1.length ≤ 1000000 := by
  unfold withinTimeV
  split
  · dsimp only
    have h1 := namesW_len f (distT n.toNat (arcs l) x.toNat) limit (readyL (distT n.toNat (arcs l) x.toNat) f)
    have h2 := (readyTimes_mem (ev := distT n.toNat (arcs l) x.toNat) (goodDs_true (askD_true (by rename_i h; exact h.1)).1).2.1).2
    omega
  · simp

set_option maxRecDepth 100000 in
set_option maxHeartbeats 4000000 in
theorem withinTimeS_c (n : Int) (s : Value) (l : List St) (v : Value) (f : List Ap) (x limit : Int) (w : World) (hr : Rd w s l.length (l.flatMap St.cells)) (hz : ∀ x ∈ f, x.nm.size ≤ 9223372036854775807) (hf : Rd w v f.length (f.flatMap Ap.cells)) :
    Calls Tryz.prog 44 #[.agg #[.int .i64 n, s], v, .int .i64 x, .int .i64 limit] w (OwnStB (withinTimeV n l f x limit) w) := by
  have HR := Lib.hid hr
  have HF := Lib.hid hf
  have HZ := Lib.hid hz
  obtain ⟨i0', hi, hz0, hz1, hz2⟩ := info_parts Tryz.infoStr
  obtain ⟨A, c, rfl, hc, hm, hcell0⟩ := hf
  rw [maxLen_eq] at hm
  have HCELL := Lib.hid hcell0
  clear hr hz hcell0
  go_enter Tryz.func44, Tryz.ntmps44
  go_wp2_with fail
  (generalize hw1 : World.alloc w _ = w1; have k0 : w1.cell? ⟨w.heap.size, 0, none⟩ = some (.int .i64 n) := (by subst hw1; simp [go_sem]); have k1 : w1.cell? ⟨w.heap.size, 1, none⟩ = some s := (by subst hw1; simp [go_sem]); have hb0 : Below w.heap.size w w1 := (by subst hw1; exact bel_al (Below.refl _ _) _); have hsz1 : w.heap.size < w1.heap.size := (by subst hw1; simp); clear hw1)
  have HB := Lib.hid hb0
  refine (dsAsked_c n s l _ f x _ (rd_below HR.out HB.out) HZ.out (rd_below HF.out HB.out)).mono ?_; rintro e w2 ⟨rfl, hb1⟩
  have e0 := (hb1.cell (p := ⟨w.heap.size, 0, none⟩) (by show w.heap.size < _; omega)).trans k0
  have e1 := (hb1.cell (p := ⟨w.heap.size, 1, none⟩) (by show w.heap.size < _; omega)).trans k1
  have HB1 := Lib.hid (bel_then HB.out hb1)
  clear k0 k1 hb0 hb1
  by_cases hg : askD n l f x = true
  · have HASK := Lib.hid hg
    rw [hg]
    obtain ⟨hds, hx0, hx1⟩ := askD_true hg
    obtain ⟨hgt, hgf, hnd⟩ := goodDs_true hds
    have hn1 := (goodTown_true hgt).1
    have hf12 := (goodFl_true hgf).1
    obtain ⟨N, rfl⟩ := Int.eq_ofNat_of_zero_le (show 0 ≤ n by omega)
    obtain ⟨src, rfl⟩ := Int.eq_ofNat_of_zero_le hx0
    have hs : src < N := by omega
    have HGT := Lib.hid hgt
    have HGF := Lib.hid hgf
    have HND := Lib.hid hnd
    have HND2 : Hid (∀ a ∈ f, 0 ≤ a.nd ∧ a.nd ≤ ((distT N (arcs l) src).length : Int) - 1) := Lib.hid (by rw [dist_len]; exact hnd)
    clear hg hds hgt hgf hnd hx0 hx1
    go_wp2_with fail
    refine (dsLimit_c limit _).mono ?_; rintro e w9 ⟨rfl, rfl⟩
    by_cases hli : inB limit 0 36000 = true
    · have HV := Lib.hid (within_yes HASK.out hli)
      rw [hli]
      clear hli
      go_wp2_with fail
      clear e0 e1
      refine (dsReady_c N s l _ f src _ HGT.out HGF.out HND.out hs (rd_below HR.out HB1.out) (rd_below HF.out HB1.out)).mono ?_
      rintro e w3 ⟨v5, u5, rfl, hv5, hu5, hb2⟩
      have HB2 := Lib.hid (bel_then HB1.out hb2)
      obtain ⟨hm5, hl5⟩ := readyTimes_mem (ev := distT N (arcs l) src) HGF.out
      obtain ⟨ev, hev⟩ : ∃ ev, distT N (arcs l) src = ev := ⟨_, rfl⟩
      rw [hev] at hv5 hu5 hm5 hl5 HND2
      have HEV := Lib.hid hev
      obtain ⟨L, hL⟩ : ∃ L, readyL ev f = L := ⟨_, rfl⟩
      rw [hL] at hv5 hm5 hl5
      have HLL := Lib.hid hL
      have HLM := Lib.hid hm5
      obtain ⟨A5, c5, rfl, hc5, hm5', hcell5⟩ := hv5
      rw [maxLen_eq] at hm5'
      have HC5 := Lib.hid hcell5
      obtain ⟨A6, c6, rfl, hc6, hm6, hcell6⟩ := hu5
      rw [maxLen_eq] at hm6
      rw [allT_len] at hc6 hcell6 ⊢
      have HC6 := Lib.hid hcell6
      clear hm5 hb2 hcell5 hcell6 hev hL
      go_wp2_with fail
      go_loopw [12, 34] (fun vo vi wr => ∃ (k : Nat) (S : List ByteArray), k ≤ L.length ∧ S.length ≤ k ∧ vi = .int .i64 k ∧ Hid (namesW f ev limit (L.take k) = S) ∧ Hid (wr.ownsRow w3.heap.size 9 1 vo S.length (strs S)) ∧ Hid (Below w3.heap.size w3 wr)) (fun _ vi _ => L.length - (intOf vi).toNat)
      case atStart => exact ⟨0, [], Nat.zero_le _, Nat.le_refl _, rfl, Lib.hid rfl, Lib.hid (World.ownsRow_nil _ _ _ _), Lib.hid (Below.refl _ _)⟩
      case round =>
        obtain ⟨k, S, hk, hSk, rfl, HS, HOW, HBL⟩ := hrel
        obtain ⟨wA, rfl⟩ : ∃ wA : World, wA = wr := ⟨_, rfl⟩
        have hsA := HBL.out.size
        by_cases hlt : k < L.length
        · obtain ⟨b5, off5, rfl, hb5, hcl5⟩ := HC5.out (by omega)
          obtain ⟨y, hy⟩ : ∃ y, L[k]? = some y := ⟨_, List.getElem?_eq_getElem hlt⟩
          obtain ⟨i, a, rfl, ha⟩ := HLM.out y (List.mem_of_getElem? hy)
          have hnn := HND2.out _ (List.mem_of_getElem? ha)
          have hkey := rdyKey_at (ev := ev) ha
          have hnm := nmAt_at ha
          obtain ⟨nm, kd, nd, cr, sv⟩ := a
          dsimp only at hnn hkey hnm
          obtain ⟨nd0, nd1⟩ := hnn
          obtain ⟨p, rfl⟩ := Int.eq_ofNat_of_zero_le nd0
          have hif : i < f.length := (List.getElem?_eq_some_iff.1 ha).1
          obtain ⟨b, off, rfl, hbl, hcell⟩ := HCELL.out (by omega)
          obtain ⟨d0, _, d2, _, _⟩ := ap_at hcell (bel_then HB2.out HBL.out) hbl ha
          dsimp only at d0 d2
          obtain ⟨b6, off6, rfl, hb6, hcl6⟩ := HC6.out (by omega)
          obtain ⟨t, ht⟩ : ∃ t, ev.getD p 0 = t := ⟨_, rfl⟩
          rw [Int.toNat_natCast, ht] at hkey
          have htt := allT_get (ev := ev) ha
          dsimp only at htt
          rw [Int.toNat_natCast, ht] at htt
          have co := cell_at hcl5 HBL.out hb5 (ints_get hy)
          have ct := cell_at hcl6 HBL.out hb6 (ints_get htt)
          have i0 : (0 : Int) ≤ (i : Int) := by omega
          have i1 : (i : Int) < (f.length : Int) := by omega
          have p0 : (0 : Int) ≤ (p : Int) := by omega
          have p1 : (p : Int) < (ev.length : Int) := by omega
          by_cases htl : t ≤ limit
          · have HSN : Hid (namesW f ev limit (L.take (k + 1)) = S ++ [nm]) := Lib.hid (by rw [namesW_yes hy (by rw [hkey]; exact htl), HS.out, hnm])
            clear hcl5 hy ha hcell hcl6 ht htt nd1 hkey hnm
            go_wp2_with (at_builtin; refine wpList_app_rd _ rfl _ _ 51 rfl w3.heap.size 9 i0' (.string ⟨#[]⟩) 1 16 Tryz.underlying51 hi hz0 hz1 hz2 rfl (by decide) _ _ _ rfl (HOW.out.alloc _) _ 1 [.string nm] rfl (rd_new _ rfl (Nat.le_refl _) (by rw [maxLen_eq]; omega)) rfl (by intro u hu; simp at hu; rcases hu with rfl; rfl) (by rw [maxLen_eq]; omega) (by omega) (by simp; omega) ?_; intro v7 w7 hown7 hgrow7 _)
            refine ⟨⟨k + 1, S ++ [nm], by omega, by simp; omega, by go_num, HSN, Lib.hid ?_, Lib.hid (bel_grown (bel_al HBL.out _) hgrow7 (fun q e => (HOW.out.lt q e).1))⟩, by simp [intOf]; omega⟩
            rw [strs_append, List.length_append]; exact hown7
          · have htn : limit < t := by omega
            have HSN : Hid (namesW f ev limit (L.take (k + 1)) = S) := Lib.hid (by rw [namesW_no hy (by rw [hkey]; exact htn), HS.out])
            clear hcl5 hy ha hcell hcl6 ht htt nd1 hkey hnm htl
            go_wp2
            exact ⟨⟨k + 1, S, by omega, by omega, by go_num, HSN, HOW, HBL⟩, by simp [intOf]; omega⟩
        · obtain rfl : k = L.length := by omega
          have hs := HS.out
          rw [List.take_length] at hs
          have HSS := Lib.hid hs
          clear hs
          go_wp2
          go_ret2
          rw [HV.out, HEV.out, HLL.out, HSS.out]
          exact ⟨_, rfl, own_base HOW.out HB2.out.size, bel_then HB2.out HBL.out⟩
    · have hli : inB limit 0 36000 = false := by simpa using hli
      have HV := Lib.hid (within_no2 (n := N) (l := l) (f := f) (x := src) hli)
      rw [hli]
      go_wp2
      go_ret2
      rw [HV.out]
      exact ⟨_, rfl, World.ownsRow_nil _ _ _ _, HB1.out⟩
  · have hg : askD n l f x = false := by simpa using hg
    have HV := Lib.hid (within_no1 (limit := limit) hg)
    rw [hg]
    go_wp2
    go_ret2
    rw [HV.out]
    exact ⟨_, rfl, World.ownsRow_nil _ _ _ _, HB1.out⟩

set_option maxRecDepth 100000 in
set_option maxHeartbeats 4000000 in
theorem withinTimeI_c (n : Int) (s : Value) (l : List St) (v : Value) (f : List Ap) (x limit : Int) (w : World) (hr : Rd w s l.length (l.flatMap St.cells)) (hz : ∀ x ∈ f, x.nm.size ≤ 9223372036854775807) (hf : Rd w v f.length (f.flatMap Ap.cells)) :
    Calls Tryz.prog 43 #[.agg #[.int .i64 n, s], v, .int .i64 x, .int .i64 limit] w (OwnStB (withinTimeV n l f x limit) w) := by
  have HR := Lib.hid hr
  have HF := Lib.hid hf
  have HZ := Lib.hid hz
  obtain ⟨i0', hi, hz0, hz1, hz2⟩ := info_parts Tryz.infoStr
  obtain ⟨A, c, rfl, hc, hm, hcell0⟩ := hf
  rw [maxLen_eq] at hm
  have HCELL := Lib.hid hcell0
  clear hr hz hcell0
  go_enter Tryz.func43, Tryz.ntmps43
  go_wp2_with fail
  (generalize hw1 : World.alloc w _ = w1; have k0 : w1.cell? ⟨w.heap.size, 0, none⟩ = some (.int .i64 n) := (by subst hw1; simp [go_sem]); have k1 : w1.cell? ⟨w.heap.size, 1, none⟩ = some s := (by subst hw1; simp [go_sem]); have hb0 : Below w.heap.size w w1 := (by subst hw1; exact bel_al (Below.refl _ _) _); have hsz1 : w.heap.size < w1.heap.size := (by subst hw1; simp); clear hw1)
  have HB := Lib.hid hb0
  refine (dispatchFits_c n s l _ f w.heap.size _ k0 k1 (rd_below HR.out HB.out) HZ.out (rd_below HF.out HB.out)).mono ?_; rintro e w2 ⟨rfl, hb1⟩
  have e0 := (hb1.cell (p := ⟨w.heap.size, 0, none⟩) (by show w.heap.size < _; omega)).trans k0
  have e1 := (hb1.cell (p := ⟨w.heap.size, 1, none⟩) (by show w.heap.size < _; omega)).trans k1
  have hs1 := hb1.size
  have HB1 := Lib.hid (bel_then HB.out hb1)
  clear k0 k1 hb0 hb1
  by_cases hg : goodDs n l f = true
  · have HDS := Lib.hid hg
    rw [hg]
    obtain ⟨hgt, hgf, hnd⟩ := goodDs_true hg
    obtain ⟨hn1, hn2, _⟩ := goodTown_true hgt
    have hf12 := (goodFl_true hgf).1
    have HGT := Lib.hid hgt
    have HGF := Lib.hid hgf
    have HND := Lib.hid hnd
    clear hg hgt hgf hnd
    go_wp2_with fail
    refine (has_c n x _ _ hn1 hn2 e0).mono ?_; rintro e w3 ⟨rfl, rfl⟩
    by_cases hx : inB x 0 (n - 1) = true
    · have HASK : Hid (askD n l f x = true) := Lib.hid (by unfold askD; rw [HDS.out, hx]; rfl)
      rw [hx]
      obtain ⟨hx0, hx1⟩ := inB_true hx
      obtain ⟨N, rfl⟩ := Int.eq_ofNat_of_zero_le (show 0 ≤ n by omega)
      obtain ⟨src, rfl⟩ := Int.eq_ofNat_of_zero_le hx0
      have hs : src < N := by omega
      have E0 := Lib.hid e0
      have E1 := Lib.hid e1
      have HND2 : Hid (∀ a ∈ f, 0 ≤ a.nd ∧ a.nd ≤ ((distT N (arcs l) src).length : Int) - 1) := Lib.hid (by rw [dist_len]; exact HND.out)
      clear hx hx0 hx1
      go_wp2_with fail
      refine (inside_c limit 0 36000 _).mono ?_; rintro e w9 ⟨rfl, rfl⟩
      by_cases hli : inB limit 0 36000 = true
      · have HV := Lib.hid (within_yes HASK.out hli)
        rw [hli]
        clear hli
        go_wp2_with fail
        refine (timesI_c N s l w.heap.size src _ HGT.out hs E0.out E1.out (rd_below HR.out HB1.out)).mono ?_
        rintro e w3 ⟨v6, rfl, ho6, hb2⟩
        have f0 := (hb2.cell (p := ⟨w.heap.size, 0, none⟩) (by show w.heap.size < _; omega)).trans E0.out
        have f1 := (hb2.cell (p := ⟨w.heap.size, 1, none⟩) (by show w.heap.size < _; omega)).trans E1.out
        have HB2 := Lib.hid (bel_then HB1.out hb2)
        have HO6 := Lib.hid ho6
        have F0 := Lib.hid f0
        have F1 := Lib.hid f1
        clear hb2 ho6 f0 f1 e0 e1
        go_wp2_with fail
        refine (readyOrder_c N s l _ f src w.heap.size _ HGT.out HGF.out HND.out hs F0.out F1.out (rd_below HR.out HB2.out) (rd_below HF.out HB2.out)).mono ?_
        rintro e w4 ⟨v5, rfl, ho5, hb3⟩
        have HB3 := Lib.hid (bel_then HB2.out hb3)
        have hu5 := rdi_own (own_below HO6.out hb3)
        have hv5 := rdi_own ho5
        obtain ⟨hm5, hl5⟩ := readyTimes_mem (ev := distT N (arcs l) src) HGF.out
        obtain ⟨ev, hev⟩ : ∃ ev, distT N (arcs l) src = ev := ⟨_, rfl⟩
        rw [hev] at hv5 hu5 hm5 hl5 HND2
        have HEV := Lib.hid hev
        obtain ⟨L, hL⟩ : ∃ L, readyL ev f = L := ⟨_, rfl⟩
        rw [hL] at hv5 hm5 hl5
        have HLL := Lib.hid hL
        have HLM := Lib.hid hm5
        obtain ⟨A5, c5, rfl, hc5, hm5', hcell5⟩ := hv5
        rw [maxLen_eq] at hm5'
        have HC5 := Lib.hid hcell5
        obtain ⟨A6, c6, rfl, hc6, hm6, hcell6⟩ := hu5
        rw [maxLen_eq] at hm6
        have HC6 := Lib.hid hcell6
        clear hm5 hb3 hcell5 hcell6 hev hL ho5
        go_wp2_with fail
        go_loopw [11, 33] (fun vo vi wr => ∃ (k : Nat) (S : List ByteArray), k ≤ L.length ∧ S.length ≤ k ∧ vi = .int .i64 k ∧ Hid (namesW f ev limit (L.take k) = S) ∧ Hid (wr.ownsRow w4.heap.size 9 1 vo S.length (strs S)) ∧ Hid (Below w4.heap.size w4 wr)) (fun _ vi _ => L.length - (intOf vi).toNat)
        case atStart => exact ⟨0, [], Nat.zero_le _, Nat.le_refl _, rfl, Lib.hid rfl, Lib.hid (World.ownsRow_nil _ _ _ _), Lib.hid (Below.refl _ _)⟩
        case round =>
          obtain ⟨k, S, hk, hSk, rfl, HS, HOW, HBL⟩ := hrel
          obtain ⟨wA, rfl⟩ : ∃ wA : World, wA = wr := ⟨_, rfl⟩
          have hsA := HBL.out.size
          by_cases hlt : k < L.length
          · obtain ⟨b5, off5, rfl, hb5, hcl5⟩ := HC5.out (by omega)
            obtain ⟨y, hy⟩ : ∃ y, L[k]? = some y := ⟨_, List.getElem?_eq_getElem hlt⟩
            obtain ⟨i, a, rfl, ha⟩ := HLM.out y (List.mem_of_getElem? hy)
            have hnn := HND2.out _ (List.mem_of_getElem? ha)
            have hkey := rdyKey_at (ev := ev) ha
            have hnm := nmAt_at ha
            obtain ⟨nm, kd, nd, cr, sv⟩ := a
            dsimp only at hnn hkey hnm
            obtain ⟨nd0, nd1⟩ := hnn
            obtain ⟨p, rfl⟩ := Int.eq_ofNat_of_zero_le nd0
            have hif : i < f.length := (List.getElem?_eq_some_iff.1 ha).1
            obtain ⟨b, off, rfl, hbl, hcell⟩ := HCELL.out (by omega)
            obtain ⟨d0, _, d2, _, _⟩ := ap_at hcell (bel_then HB3.out HBL.out) hbl ha
            dsimp only at d0 d2
            obtain ⟨b6, off6, rfl, hb6, hcl6⟩ := HC6.out (by omega)
            obtain ⟨t, ht⟩ : ∃ t, ev.getD p 0 = t := ⟨_, rfl⟩
            rw [Int.toNat_natCast, ht] at hkey
            have htt : ev[p]? = some t := by rw [← ht, List.getD_eq_getElem?_getD, List.getElem?_eq_getElem (show p < ev.length by omega)]; rfl
            have co := cell_at hcl5 HBL.out hb5 (ints_get hy)
            have ct := cell_at hcl6 HBL.out hb6 (ints_get htt)
            have i0 : (0 : Int) ≤ (i : Int) := by omega
            have i1 : (i : Int) < (f.length : Int) := by omega
            have p0 : (0 : Int) ≤ (p : Int) := by omega
            have p1 : (p : Int) < (ev.length : Int) := by omega
            by_cases htl : t ≤ limit
            · have HSN : Hid (namesW f ev limit (L.take (k + 1)) = S ++ [nm]) := Lib.hid (by rw [namesW_yes hy (by rw [hkey]; exact htl), HS.out, hnm])
              clear hcl5 hy ha hcell hcl6 ht htt nd1 hkey hnm
              go_wp2_with (at_builtin; refine wpList_app_rd _ rfl _ _ 51 rfl w4.heap.size 9 i0' (.string ⟨#[]⟩) 1 16 Tryz.underlying51 hi hz0 hz1 hz2 rfl (by decide) _ _ _ rfl (HOW.out.alloc _) _ 1 [.string nm] rfl (rd_new _ rfl (Nat.le_refl _) (by rw [maxLen_eq]; omega)) rfl (by intro u hu; simp at hu; rcases hu with rfl; rfl) (by rw [maxLen_eq]; omega) (by omega) (by simp; omega) ?_; intro v7 w7 hown7 hgrow7 _)
              refine ⟨⟨k + 1, S ++ [nm], by omega, by simp; omega, by go_num, HSN, Lib.hid ?_, Lib.hid (bel_grown (bel_al HBL.out _) hgrow7 (fun q e => (HOW.out.lt q e).1))⟩, by simp [intOf]; omega⟩
              rw [strs_append, List.length_append]; exact hown7
            · have htn : limit < t := by omega
              have HSN : Hid (namesW f ev limit (L.take (k + 1)) = S) := Lib.hid (by rw [namesW_no hy (by rw [hkey]; exact htn), HS.out])
              clear hcl5 hy ha hcell hcl6 ht htt nd1 hkey hnm htl
              go_wp2
              exact ⟨⟨k + 1, S, by omega, by omega, by go_num, HSN, HOW, HBL⟩, by simp [intOf]; omega⟩
          · obtain rfl : k = L.length := by omega
            have hs := HS.out
            rw [List.take_length] at hs
            have HSS := Lib.hid hs
            clear hs
            go_wp2
            go_ret2
            rw [HV.out, HEV.out, HLL.out, HSS.out]
            exact ⟨_, rfl, own_base HOW.out HB3.out.size, bel_then HB3.out HBL.out⟩
      · have hli : inB limit 0 36000 = false := by simpa using hli
        have HV := Lib.hid (within_no2 (n := N) (l := l) (f := f) (x := src) hli)
        rw [hli]
        go_wp2
        go_ret2
        rw [HV.out]
        exact ⟨_, rfl, World.ownsRow_nil _ _ _ _, HB1.out⟩
    · have hx : inB x 0 (n - 1) = false := by simpa using hx
      have HV := Lib.hid (within_no1 (l := l) (f := f) (x := x) (n := n) (limit := limit) (by unfold askD; rw [hx]; simp))
      rw [hx]
      go_wp2
      go_ret2
      rw [HV.out]
      exact ⟨_, rfl, World.ownsRow_nil _ _ _ _, HB1.out⟩
  · have hg : goodDs n l f = false := by simpa using hg
    have HV := Lib.hid (within_no1 (x := x) (n := n) (l := l) (f := f) (limit := limit) (by unfold askD; rw [hg]; rfl))
    rw [hg]
    go_wp2
    go_ret2
    rw [HV.out]
    exact ⟨_, rfl, World.ownsRow_nil _ _ _ _, HB1.out⟩
end Go.Proofs.YthgegghdkoeofaaGreatDoor
