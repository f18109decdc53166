/-
  The choice for a need: impl.choose, impl.missing, spec.dsPick (printed by gen_pick.py). IsBestChoice: the plain law: counting by kind and by names says the same as comparing what is missing. SendChoice: the plain law: those who are chosen are called, their names in the fleet's order. The choices of a list of appliances with their times (printed by gen_choices.py). ReadyTimes: both sides (printed by gen_ready.py). (joined by pack.py: Pick BestP SendP Choices Ready)
-/
import Derived.Test.YtddccjdppbcnbaaGreatK18
import Derived.Test.YtddccjdppbcnbaaGreatK14
import Derived.Test.YtddccjdppbcnbaaGreatK19
import Derived.Test.YtddccjdppbcnbaaGreatK9
import Derived.Test.YtddccjdppbcnbaaGreatK12
import Derived.Test.YtddccjdppbcnbaaGreatK6
import Derived.Deep.RegionLaw
import Derived.Test.YtddccjdppbcnbaaGreatK16
namespace Go.Proofs.YtddccjdppbcnbaaGreat
set_option linter.unusedVariables false
set_option linter.unusedSimpArgs false
open Go.RowKit

def kdOf (f : List Ap) (i : Int) : Nat := match f[i.toNat]? with
  | some a => a.kd.toNat
  | none => 0
theorem kdOf_at {f : List Ap} {i : Nat} {a : Ap} (h : f[i]? = some a) : kdOf f (i : Int) = a.kd.toNat := by unfold kdOf; rw [Int.toNat_natCast, h]
def pickStep (f : List Ap) (st : List Int × List Int) (i : Int) : List Int × List Int :=
  if 0 < st.2.getD (kdOf f i) 0 then (st.1 ++ [i], st.2.set (kdOf f i) (st.2.getD (kdOf f i) 0 - 1)) else st
theorem pickStep_yes {f : List Ap} {S d : List Int} {i : Int} {q : Nat} {x : Int} (hq : kdOf f i = q) (hx : d.getD q 0 = x) (h : 0 < x) : pickStep f (S, d) i = (S ++ [i], d.set q (x - 1)) := by
  unfold pickStep; dsimp only; rw [hq, hx, if_pos h]
theorem pickStep_no {f : List Ap} {S d : List Int} {i : Int} {q : Nat} {x : Int} (hq : kdOf f i = q) (hx : d.getD q 0 = x) (h : ¬ 0 < x) : pickStep f (S, d) i = (S, d) := by
  unfold pickStep; dsimp only; rw [hq, hx, if_neg h]
def pickL (f : List Ap) (list need : List Int) : List Int × List Int := list.foldl (pickStep f) ([], need)
theorem pickL_snoc {f : List Ap} {L need : List Int} {k : Nat} {x : Int} (h : L[k]? = some x) : pickL f (L.take (k + 1)) need = pickStep f (pickL f (L.take k) need) x := by
  unfold pickL; rw [take_succ_of h, List.foldl_append]; rfl
def missStep (f : List Ap) (d : List Int) (i : Int) : List Int := d.set (kdOf f i) (d.getD (kdOf f i) 0 - 1)
def missL (f : List Ap) (out need : List Int) : List Int := out.foldl (missStep f) need
theorem missL_snoc {f : List Ap} {L need : List Int} {k : Nat} {x : Int} (h : L[k]? = some x) : missL f (L.take (k + 1)) need = missStep f (missL f (L.take k) need) x := by
  unfold missL; rw [take_succ_of h, List.foldl_append]; rfl
theorem pick_miss_aux (f : List Ap) (need : List Int) : ∀ (L : List Int) (st : List Int × List Int), st.2 = missL f st.1 need → (L.foldl (pickStep f) st).2 = missL f (L.foldl (pickStep f) st).1 need := by
  intro L
  induction L with
  | nil => intro st h; exact h
  | cons i L ih =>
    intro st h
    rw [List.foldl_cons]
    apply ih
    unfold pickStep
    split
    · dsimp only
      unfold missL at h ⊢
      rw [List.foldl_append, ← h]; rfl
    · exact h
theorem pick_miss (f : List Ap) (L need : List Int) : missL f (pickL f L need).1 need = (pickL f L need).2 := (pick_miss_aux f need L ([], need) rfl).symm
theorem pick_mem_aux (f : List Ap) (p : Int → Prop) : ∀ (L : List Int) (st : List Int × List Int), (∀ y ∈ st.1, p y) → (∀ y ∈ L, p y) → (∀ y ∈ (L.foldl (pickStep f) st).1, p y) ∧ (L.foldl (pickStep f) st).1.length ≤ st.1.length + L.length := by
  intro L
  induction L with
  | nil => intro st h _; exact ⟨h, by simp⟩
  | cons i L ih =>
    intro st h hL
    rw [List.foldl_cons]
    have h1 : (∀ y ∈ (pickStep f st i).1, p y) ∧ (pickStep f st i).1.length ≤ st.1.length + 1 := by
      unfold pickStep
      split
      · refine ⟨fun y hy => ?_, by simp⟩
        rcases List.mem_append.1 hy with hy | hy
        · exact h y hy
        · rw [List.mem_singleton] at hy; rw [hy]; exact hL i (by simp)
      · exact ⟨h, by omega⟩
    obtain ⟨a, b⟩ := ih (pickStep f st i) h1.1 (fun y hy => hL y (by simp [hy]))
    exact ⟨a, by rw [List.length_cons]; omega⟩
theorem pick_mem (f : List Ap) (p : Int → Prop) (L need : List Int) (hL : ∀ y ∈ L, p y) : (∀ y ∈ (pickL f L need).1, p y) ∧ (pickL f L need).1.length ≤ L.length := by
  obtain ⟨a, b⟩ := pick_mem_aux f p L ([], need) (by simp) hL
  exact ⟨a, by unfold pickL; simpa using b⟩
theorem getD_le (l : List Int) (c : Int) (h0 : 0 ≤ c) (h : ∀ y ∈ l, y ≤ c) (j : Nat) : l.getD j 0 ≤ c := by
  rw [List.getD_eq_getElem?_getD]
  cases hx : l[j]? with
  | none => exact h0
  | some y => exact h y (List.mem_of_getElem? hx)
theorem getD_ge (l : List Int) (c : Int) (h0 : c ≤ 0) (h : ∀ y ∈ l, c ≤ y) (j : Nat) : c ≤ l.getD j 0 := by
  rw [List.getD_eq_getElem?_getD]
  cases hx : l[j]? with
  | none => exact h0
  | some y => exact h y (List.mem_of_getElem? hx)
theorem getD_set' (l : List Int) (q j : Nat) (x : Int) : (l.set q x).getD j 0 = x ∨ (l.set q x).getD j 0 = l.getD j 0 := by
  rw [List.getD_eq_getElem?_getD, List.getD_eq_getElem?_getD, List.getElem?_set]
  by_cases h : q = j
  · subst h
    by_cases h2 : q < l.length
    · left; simp [h2]
    · right; simp [h2]
  · right; simp [h]
theorem set_le (l : List Int) (q : Nat) (x c : Int) (hx : x ≤ c) (h : ∀ j, l.getD j 0 ≤ c) (j : Nat) : (l.set q x).getD j 0 ≤ c := by
  rcases getD_set' l q j x with e | e
  · rw [e]; exact hx
  · rw [e]; exact h j
theorem set_ge (l : List Int) (q : Nat) (x c : Int) (hx : c ≤ x) (h : ∀ j, c ≤ l.getD j 0) (j : Nat) : c ≤ (l.set q x).getD j 0 := by
  rcases getD_set' l q j x with e | e
  · rw [e]; exact hx
  · rw [e]; exact h j
theorem gro_and {a b c : World} {r r' : Option Nat} (h : a.grownBy b r) (k : b.grownBy c r') (hr : ∀ q, r' = some q → a.heap.size ≤ q) : a.grownBy c r :=
  ⟨k.os.trans h.os, k.tape.trans h.tape, k.output.trans h.output, Nat.le_trans h.size k.size, fun i hi hne => (k.block i (Nat.lt_of_lt_of_le hi h.size) (fun e => by have := hr i e.symm; omega)).trans (h.block i hi hne)⟩
theorem rdi_gro {a b : World} {g : Nat} {v : Value} {l : List Int} (h : RdI a v l) (k : a.grownBy b (some g)) (hne : ∀ b' off n c, v = .slice (some ⟨b', off, none⟩) n c → 0 < l.length → b' ≠ g) : RdI b v l := by
  obtain ⟨A, c, rfl, hc, hm, hr⟩ := h
  refine ⟨A, c, rfl, hc, hm, fun hl => ?_⟩
  obtain ⟨b', off, rfl, hb, hcell⟩ := hr hl
  exact ⟨b', off, rfl, Nat.lt_of_lt_of_le hb k.size, fun j u hu => (gro_cell k hb (hne _ _ _ _ rfl hl)).trans (hcell j u hu)⟩

set_option maxRecDepth 100000 in
set_option maxHeartbeats 4000000 in
theorem choose_c (n : Nat) (s : Value) (l : List St) (v : Value) (f : List Ap) (src B : Nat) (vn : Value) (need : List Int) (w : World) (hg : goodTown n l = true) (hfl : goodFl f = true) (hnd : ∀ a ∈ f, 0 ≤ a.nd ∧ a.nd ≤ (n : Int) - 1) (hs : src < n) (hne : needB need = true)
    (t0 : w.cell? ⟨B, 0, none⟩ = some (.int .i64 n)) (t1 : w.cell? ⟨B, 1, none⟩ = some s) (hr : Rd w s l.length (l.flatMap St.cells)) (hf : Rd w v f.length (f.flatMap Ap.cells)) (hvn : RdI w vn need) :
    Calls Tryz.prog 50 #[.pointer (some ⟨B, 0, none⟩), v, .int .i64 src, vn] w (OwnI (pickL f (readyL (distT n (arcs l) src) f) need).1 w) := by
  have hB : B < w.heap.size := World.block_lt_of_cell? w _ t0
  obtain ⟨hf12, hfg⟩ := goodFl_true hfl
  obtain ⟨hn4, hnb⟩ := needB_true hne
  have HR := Lib.hid hr
  have HF := Lib.hid hf
  have HN := Lib.hid hvn
  have HG := Lib.hid hg
  have HFL := Lib.hid hfl
  have HND := Lib.hid hnd
  have HFG := Lib.hid hfg
  have HN4 := Lib.hid hn4
  have HNB := Lib.hid hnb
  have T0 := Lib.hid t0
  have T1 := Lib.hid t1
  obtain ⟨A, c, rfl, hc, hm, hcell0⟩ := hf
  rw [maxLen_eq] at hm
  have HCELL := Lib.hid hcell0
  obtain ⟨i0', hi, hz0, hz1, hz2⟩ := info_parts Tryz.infoInt
  clear hr hcell0 hfl hfg hg hnd hvn hnb t0 t1 hne
  go_enter Tryz.func50, Tryz.ntmps50
  go_wp2_with fail
  refine (clone_c _ need _ HN.out (by omega)).mono ?_
  rintro e w1 ⟨v9, rfl, ho9, hb1⟩
  rw [hn4] at ho9
  obtain ⟨g, cg, rfl, hbg, hgl, hcg, hcmg⟩ := own_shape ho9 (by omega)
  have e0 := (hb1.cell (p := ⟨B, 0, none⟩) hB).trans T0.out
  have e1 := (hb1.cell (p := ⟨B, 1, none⟩) hB).trans T1.out
  have HB1 := Lib.hid hb1
  have HL1 := Lib.hid ho9
  have hs1 := hb1.size
  have E0 := Lib.hid e0
  have E1 := Lib.hid e1
  clear ho9 hb1 e0 e1
  go_wp2_with fail
  refine (readyOrder_c n s l _ f src B _ HG.out HFL.out HND.out hs E0.out E1.out (rd_below HR.out HB1.out) (rd_below HF.out HB1.out)).mono ?_
  rintro e w2 ⟨v5, rfl, ho5, hb2⟩
  have HB2 := Lib.hid (bel_then HB1.out hb2)
  have hs2 := hb2.size
  have HLW0 := Lib.hid (own_below HL1.out hb2)
  have HLO5 := Lib.hid ho5.lt
  clear hb2
  have hrl := readyL_len (distT n (arcs l) src) f
  have hlm : ∀ y ∈ readyL (distT n (arcs l) src) f, ∃ (i : Nat) (a : Ap), y = (i : Int) ∧ f[i]? = some a := fun y hy => by
    obtain ⟨i, a, h1, h2, _⟩ := readyL_mem hy
    exact ⟨i, a, h1, h2⟩
  obtain ⟨L, hL⟩ : ∃ L, readyL (distT n (arcs l) src) f = L := ⟨_, rfl⟩
  rw [hL] at ho5 hrl hlm
  have HLL := Lib.hid hL
  have HLM := Lib.hid hlm
  obtain ⟨A5, c5, rfl, hc5, hm5, hcell5⟩ := rdi_own ho5
  rw [maxLen_eq] at hm5
  have HC5 := Lib.hid hcell5
  clear ho5 hcell5 hlm hL
  go_wp2_with fail
  go_loopw [10, 20] (fun vo vi wr => ∃ (k : Nat) (S d : List Int), k ≤ L.length ∧ S.length ≤ k ∧ vi = .int .i64 k ∧ Hid (pickL f (L.take k) need = (S, d)) ∧ Hid (d.length = 4) ∧ Hid (∀ j, d.getD j 0 ≤ 6) ∧ Hid (wr.ownsRow w2.heap.size 3 1 vo S.length (ints S)) ∧ Hid (wr.ownsRow w.heap.size 3 1 (.slice (some ⟨g, 0, none⟩) 4 cg) 4 (ints d)) ∧ Hid (w2.grownBy wr (some g))) (fun _ vi _ => L.length - (intOf vi).toNat)
  case atStart => exact ⟨0, [], need, Nat.zero_le _, Nat.le_refl _, rfl, Lib.hid rfl, HN4, Lib.hid (fun j => getD_le _ _ (by omega) (fun y hy => (HNB.out y hy).2) j), Lib.hid (World.ownsRow_nil _ _ _ _), HLW0, Lib.hid (World.grownBy.refl _ _)⟩
  case round =>
    obtain ⟨k, S, d, hk, hSk, rfl, HPK, HDL, HDB, HOW, HLW, HGR⟩ := hrel
    obtain ⟨wA, rfl⟩ : ∃ wA : World, wA = wr := ⟨_, rfl⟩
    have hsA := HGR.out.size
    by_cases hlt : k < L.length
    · obtain ⟨b5, off5, rfl, hb5, hcl5⟩ := HC5.out (by omega)
      have h5 := (HLO5.out b5 rfl).1
      obtain ⟨y, hy⟩ : ∃ y, L[k]? = some y := ⟨_, List.getElem?_eq_getElem hlt⟩
      obtain ⟨i, a, rfl, ha⟩ := HLM.out y (List.mem_of_getElem? hy)
      obtain ⟨nm, kd, nd, cr, sv⟩ := a
      have hgd := goodAp_true (HFG.out _ (List.mem_of_getElem? ha))
      dsimp only at hgd
      obtain ⟨_, hkd0, hkd3, _, _, _⟩ := hgd
      obtain ⟨q, rfl⟩ := Int.eq_ofNat_of_zero_le hkd0
      have hif : i < f.length := (List.getElem?_eq_some_iff.1 ha).1
      obtain ⟨b, off, rfl, hbl, hcell⟩ := HCELL.out (by omega)
      obtain ⟨_, d1, _, _, _⟩ := ap_at hcell (bel_grown HB2.out HGR.out (fun q e => by have := Option.some.inj e; omega)) hbl ha
      dsimp only at d1
      have hkq := kdOf_at ha
      dsimp only at hkq
      rw [Int.toNat_natCast] at hkq
      have co := (gro_cell HGR.out (o := off5 + k) hb5 (by omega)).trans (hcl5 k _ (ints_get hy))
      have ca := own_cell HLW.out (show q < 4 by omega)
      have fb := HLW.out.frozenAt q
      obtain ⟨x, hx⟩ : ∃ x, d.getD q 0 = x := ⟨_, rfl⟩
      rw [hx] at ca
      have hx6 : x ≤ 6 := by rw [← hx]; exact HDB.out q
      have HST := Lib.hid (pickL_snoc (f := f) (need := need) hy)
      have HQ := Lib.hid hkq
      have HX := Lib.hid hx
      have i0 : (0 : Int) ≤ (i : Int) := by omega
      have i1 : (i : Int) < (f.length : Int) := by omega
      have q0 : (0 : Int) ≤ (q : Int) := by omega
      have q4 : (q : Int) < 4 := by omega
      have HOWS := Lib.hid (own_other HOW.out (g := g) (by omega) q (.int .i64 (x - 1)))
      have HLWS := Lib.hid (own_setI HLW.out q (x - 1))
      have HGRS := Lib.hid (only_setCell HGR.out q (.int .i64 (x - 1)))
      have hz0' : (wA.setCell ⟨g, q, none⟩ (.int .i64 (x - 1))).heap.size = wA.heap.size := by simp
      clear hcl5 hy ha hcell hkq hx hkd3
      by_cases hpos : 0 < x
      · have HYES : Hid (pickL f (L.take (k + 1)) need = (S ++ [(i : Int)], d.set q (x - 1))) := Lib.hid (by
          rw [HST.out, HPK.out]; exact pickStep_yes HQ.out HX.out hpos)
        have s3 : IntKind.i64.wrap (x - 1) = x - 1 := IntWalk.i64_in _ (by omega)
        go_wp2_with (at_builtin; refine wpList_app_rd _ rfl _ _ 26 rfl w2.heap.size 3 i0' (.int .i64 0) 1 8 Tryz.underlying26 hi hz0 hz1 hz2 rfl (by decide) _ _ _ rfl (HOWS.out.alloc _) _ 1 [.int .i64 i] rfl (rd_new _ hz0'.symm (Nat.le_refl _) (by rw [maxLen_eq]; omega)) rfl (ints_one [(i : Int)]) (by rw [maxLen_eq]; omega) (by omega) (by simp; omega) ?_; intro v7 w7 hown7 hgrow7 _)
        have hlo := HOW.out.lt
        refine ⟨⟨k + 1, S ++ [(i : Int)], d.set q (x - 1), by omega, by simp; omega, by go_num, HYES, Lib.hid (by rw [List.length_set]; exact HDL.out), Lib.hid (fun j => by have := HDB.out j; exact set_le _ _ _ _ (by omega) HDB.out j), Lib.hid ?_, Lib.hid ?_, Lib.hid ?_⟩, by simp [intOf]; omega⟩
        · rw [ints_append, List.length_append]; exact hown7
        · exact kept3 (HLWS.out.alloc _) hgrow7 (fun p p' e e' => by have := (hlo p' e').1; have : g = p := Option.some.inj e; omega)
        · exact gro_and (gro_al HGRS.out _) hgrow7 (fun p e => (hlo p e).1)
      · have HNO : Hid (pickL f (L.take (k + 1)) need = (S, d)) := Lib.hid (by rw [HST.out, HPK.out]; exact pickStep_no HQ.out HX.out (by omega))
        go_wp2
        exact ⟨⟨k + 1, S, d, by omega, by omega, by go_num, HNO, HDL, HDB, HOW, HLW, HGR⟩, by simp [intOf]; omega⟩
    · obtain rfl : k = L.length := by omega
      have hpk := HPK.out
      rw [List.take_length] at hpk
      have HP := Lib.hid hpk
      clear hpk
      go_wp2
      go_ret
      rw [HLL.out, HP.out]
      refine ⟨_, rfl, own_base HOW.out HB2.out.size, bel_grown HB2.out HGR.out (fun q e => by have := Option.some.inj e; omega)⟩

set_option maxRecDepth 100000 in
set_option maxHeartbeats 4000000 in
theorem missing_c (v : Value) (f : List Ap) (vo : Value) (L : List Int) (vn : Value) (need : List Int) (w : World) (hfl : goodFl f = true) (hne : needB need = true) (hlm' : ∀ y ∈ L, ∃ (i : Nat) (a : Ap), y = (i : Int) ∧ f[i]? = some a) (hl12 : L.length ≤ 12)
    (hf : Rd w v f.length (f.flatMap Ap.cells)) (hvo : RdI w vo L) (hvn : RdI w vn need) :
    Calls Tryz.prog 52 #[v, vo, vn] w (OwnI (missL f L need) w) := by
  obtain ⟨hf12, hfg⟩ := goodFl_true hfl
  obtain ⟨hn4, hnb⟩ := needB_true hne
  have HN := Lib.hid hvn
  have HFG := Lib.hid hfg
  have HN4 := Lib.hid hn4
  have HNB := Lib.hid hnb
  have HLM := Lib.hid hlm'
  obtain ⟨A, c, rfl, hc, hm, hcell0⟩ := hf
  rw [maxLen_eq] at hm
  have HCELL := Lib.hid hcell0
  obtain ⟨A5, c5, rfl, hc5, hm5, hcell5⟩ := hvo
  rw [maxLen_eq] at hm5
  have HC5 := Lib.hid hcell5
  clear hcell0 hfl hfg hvn hnb hne hlm' hcell5
  go_enter Tryz.func52, Tryz.ntmps52
  go_wp2_with fail
  refine (clone_c _ need _ HN.out (by omega)).mono ?_
  rintro e w2 ⟨v9, rfl, ho9, hb1⟩
  rw [hn4] at ho9
  obtain ⟨g, cg, rfl, hbg, hgl, hcg, hcmg⟩ := own_shape ho9 (by omega)
  have HB2 := Lib.hid hb1
  have HLW0 := Lib.hid ho9
  clear ho9 hb1
  go_wp2_with fail
  go_loopw [14] (fun vi wr => ∃ (k : Nat) (d : List Int), k ≤ L.length ∧ vi = .int .i64 k ∧ Hid (missL f (L.take k) need = d) ∧ Hid (d.length = 4) ∧ Hid (∀ j, -(k : Int) ≤ d.getD j 0 ∧ d.getD j 0 ≤ 6) ∧ Hid (wr.ownsRow w.heap.size 3 1 (.slice (some ⟨g, 0, none⟩) 4 cg) 4 (ints d)) ∧ Hid (w2.grownBy wr (some g))) (fun vi _ => L.length - (intOf vi).toNat)
  case atStart => exact ⟨0, need, Nat.zero_le _, rfl, Lib.hid rfl, HN4, Lib.hid (fun j => ⟨by have := getD_ge need 0 (by omega) (fun y hy => (HNB.out y hy).1) j; omega, getD_le _ _ (by omega) (fun y hy => (HNB.out y hy).2) j⟩), HLW0, Lib.hid (World.grownBy.refl _ _)⟩
  case round =>
    obtain ⟨k, d, hk, rfl, HPK, HDL, HDB, HLW, HGR⟩ := hrel
    obtain ⟨wA, rfl⟩ : ∃ wA : World, wA = wr := ⟨_, rfl⟩
    have hsA := HGR.out.size
    by_cases hlt : k < L.length
    · obtain ⟨b5, off5, rfl, hb5, hcl5⟩ := HC5.out (by omega)
      obtain ⟨y, hy⟩ : ∃ y, L[k]? = some y := ⟨_, List.getElem?_eq_getElem hlt⟩
      obtain ⟨i, a, rfl, ha⟩ := HLM.out y (List.mem_of_getElem? hy)
      obtain ⟨nm, kd, nd, cr, sv⟩ := a
      have hgd := goodAp_true (HFG.out _ (List.mem_of_getElem? ha))
      dsimp only at hgd
      obtain ⟨_, hkd0, hkd3, _, _, _⟩ := hgd
      obtain ⟨q, rfl⟩ := Int.eq_ofNat_of_zero_le hkd0
      have hif : i < f.length := (List.getElem?_eq_some_iff.1 ha).1
      obtain ⟨b, off, rfl, hbl, hcell⟩ := HCELL.out (by omega)
      have HBA : Hid (Below w.heap.size w wA) := Lib.hid (bel_grown HB2.out HGR.out (fun q e => by have := Option.some.inj e; omega))
      obtain ⟨_, d1, _, _, _⟩ := ap_at hcell HBA.out hbl ha
      dsimp only at d1
      have hkq := kdOf_at ha
      dsimp only at hkq
      rw [Int.toNat_natCast] at hkq
      have co := cell_at hcl5 HBA.out hb5 (ints_get hy)
      have ca := own_cell HLW.out (show q < 4 by omega)
      have fb := HLW.out.frozenAt q
      obtain ⟨x, hx⟩ : ∃ x, d.getD q 0 = x := ⟨_, rfl⟩
      rw [hx] at ca
      obtain ⟨hx0, hx6⟩ : -(k : Int) ≤ x ∧ x ≤ 6 := by rw [← hx]; exact HDB.out q
      have HST : Hid (missL f (L.take (k + 1)) need = d.set q (x - 1)) := Lib.hid (by rw [missL_snoc hy, HPK.out]; unfold missStep; rw [hkq, hx])
      have i0 : (0 : Int) ≤ (i : Int) := by omega
      have i1 : (i : Int) < (f.length : Int) := by omega
      have q0 : (0 : Int) ≤ (q : Int) := by omega
      have q4 : (q : Int) < 4 := by omega
      clear hcl5 hy ha hcell hkq hx hkd3
      have s3 : IntKind.i64.wrap (x - 1) = x - 1 := IntWalk.i64_in _ (by omega)
      go_wp2
      exact ⟨⟨k + 1, _, by omega, by go_num, HST, Lib.hid (by rw [List.length_set]; exact HDL.out), Lib.hid (fun j => ⟨set_ge _ _ _ _ (by omega) (fun j => by have := (HDB.out j).1; omega) j, set_le _ _ _ _ (by omega) (fun j => (HDB.out j).2) j⟩), Lib.hid (own_setI HLW.out q (x - 1)), Lib.hid (only_setCell HGR.out q _)⟩, by simp [intOf]; omega⟩
    · obtain rfl : k = L.length := by omega
      have hpk := HPK.out
      rw [List.take_length] at hpk
      have HP := Lib.hid hpk
      clear hpk
      go_wp2
      go_ret
      rw [HP.out]
      refine ⟨_, rfl, ?_, bel_grown HB2.out HGR.out (fun q e => by have := Option.some.inj e; omega)⟩
      rw [HDL.out]; exact HLW.out

def PickIs (n : Nat) (l : List St) (f : List Ap) (src : Nat) (need : List Int) (w : World) (e : Ending) (w' : World) : Prop :=
  ∃ x y z, e = .returned (.tuple #[x, y, z]) ∧ RdI w' x (pickL f (readyL (distT n (arcs l) src) f) need).1 ∧ w'.ownsRow w.heap.size 3 1 y (pickL f (readyL (distT n (arcs l) src) f) need).2.length (ints (pickL f (readyL (distT n (arcs l) src) f) need).2) ∧ RdI w' z (allT (distT n (arcs l) src) f) ∧ Below w.heap.size w w'
set_option maxRecDepth 100000 in
set_option maxHeartbeats 4000000 in
theorem dsPick_c (n : Nat) (s : Value) (l : List St) (v : Value) (f : List Ap) (src : Nat) (vn : Value) (need : List Int) (w : World) (hg : goodTown n l = true) (hfl : goodFl f = true) (hnd : ∀ a ∈ f, 0 ≤ a.nd ∧ a.nd ≤ (n : Int) - 1) (hs : src < n) (hne : needB need = true)
    (hr : Rd w s l.length (l.flatMap St.cells)) (hf : Rd w v f.length (f.flatMap Ap.cells)) (hvn : RdI w vn need) :
    Calls Tryz.prog 25 #[.agg #[.int .i64 n, s], v, .int .i64 src, vn] w (PickIs n l f src need w) := by
  obtain ⟨hf12, hfg⟩ := goodFl_true hfl
  obtain ⟨hn4, hnb⟩ := needB_true hne
  have HR := Lib.hid hr
  have HF := Lib.hid hf
  have HN := Lib.hid hvn
  have HG := Lib.hid hg
  have HFL := Lib.hid hfl
  have HND := Lib.hid hnd
  have HFG := Lib.hid hfg
  have HN4 := Lib.hid hn4
  have HNB := Lib.hid hnb
  obtain ⟨A, c, rfl, hc, hm, hcell0⟩ := hf
  rw [maxLen_eq] at hm
  have HCELL := Lib.hid hcell0
  obtain ⟨i0', hi, hz0, hz1, hz2⟩ := info_parts Tryz.infoInt
  clear hr hcell0 hfl hfg hg hnd hvn hnb hne
  go_enter Tryz.func25, Tryz.ntmps25
  go_wp2_with fail
  generalize hW : World.alloc w _ = w0
  have hb0 : Below w.heap.size w w0 := by subst hW; exact bel_al (Below.refl _ _) _
  have HB := Lib.hid hb0
  clear hW hb0
  refine (dsReady_c n s l _ f src _ HG.out HFL.out HND.out hs (rd_below HR.out HB.out) (rd_below HF.out HB.out)).mono ?_
  rintro e w1 ⟨v5, u5, rfl, hv5, hu5, hb1⟩
  have HB1 := Lib.hid (bel_then HB.out hb1)
  have HU5 := Lib.hid hu5
  clear hb1
  have hrl := readyL_len (distT n (arcs l) src) f
  have hlm : ∀ y ∈ readyL (distT n (arcs l) src) f, ∃ (i : Nat) (a : Ap), y = (i : Int) ∧ f[i]? = some a := fun y hy => by
    obtain ⟨i, a, h1, h2, _⟩ := readyL_mem hy
    exact ⟨i, a, h1, h2⟩
  obtain ⟨L, hL⟩ : ∃ L, readyL (distT n (arcs l) src) f = L := ⟨_, rfl⟩
  rw [hL] at hv5 hrl hlm
  have HLL := Lib.hid hL
  have HLM := Lib.hid hlm
  have HV5 := Lib.hid hv5
  obtain ⟨A5, c5, rfl, hc5, hm5, hcell5⟩ := hv5
  rw [maxLen_eq] at hm5
  have HC5' := Lib.hid hcell5
  clear hcell5 hlm hL hu5
  go_wp2_with fail
  refine (l1Own_c _ need _ (rd_below HN.out HB1.out) (by omega)).mono ?_
  rintro e w2 ⟨v9, rfl, ho9, hb2⟩
  rw [hn4] at ho9
  obtain ⟨g, cg, rfl, hbg, hgl, hcg, hcmg⟩ := own_shape ho9 (by omega)
  have HB2 := Lib.hid (bel_then HB1.out hb2)
  have HLW0 := Lib.hid (own_base ho9 HB1.out.size)
  have hs1 := HB1.out.size
  have hs2 := hb2.size
  have hc52 : 0 < L.length → ∃ b off, A5 = some ⟨b, off, none⟩ ∧ b < w1.heap.size ∧ ∀ j u, (ints L)[j]? = some u → w2.cell? ⟨b, off + j, none⟩ = some u := fun h => by
    obtain ⟨b, off, e, hb, hcl⟩ := HC5'.out h
    exact ⟨b, off, e, hb, fun j u hu => (hb2.cell (p := ⟨b, off + j, none⟩) hb).trans (hcl j u hu)⟩
  have HC5 := Lib.hid hc52
  have HZ := Lib.hid (rd_below HU5.out hb2)
  have HZB : Hid (∀ b' off' n' c', u5 = .slice (some ⟨b', off', none⟩) n' c' → 0 < (allT (distT n (arcs l) src) f).length → b' ≠ g) := Lib.hid (fun b' off' n' c' e hl => by
    obtain ⟨A6, c6, rfl, _, _, h6⟩ := HU5.out
    obtain ⟨b6, off6, rfl, hb6, _⟩ := h6 hl
    cases e
    omega)
  clear ho9 hb2 hc52
  go_wp2_with fail
  go_loopw [14, 28] (fun vo vi wr => ∃ (k : Nat) (S d : List Int), k ≤ L.length ∧ S.length ≤ k ∧ vi = .int .i64 k ∧ Hid (pickL f (L.take k) need = (S, d)) ∧ Hid (d.length = 4) ∧ Hid (∀ j, d.getD j 0 ≤ 6) ∧ Hid (wr.ownsRow w2.heap.size 3 1 vo S.length (ints S)) ∧ Hid (wr.ownsRow w.heap.size 3 1 (.slice (some ⟨g, 0, none⟩) 4 cg) 4 (ints d)) ∧ Hid (w2.grownBy wr (some g))) (fun _ vi _ => L.length - (intOf vi).toNat)
  case atStart => exact ⟨0, [], need, Nat.zero_le _, Nat.le_refl _, rfl, Lib.hid rfl, HN4, Lib.hid (fun j => getD_le _ _ (by omega) (fun y hy => (HNB.out y hy).2) j), Lib.hid (World.ownsRow_nil _ _ _ _), HLW0, Lib.hid (World.grownBy.refl _ _)⟩
  case round =>
    obtain ⟨k, S, d, hk, hSk, rfl, HPK, HDL, HDB, HOW, HLW, HGR⟩ := hrel
    obtain ⟨wA, rfl⟩ : ∃ wA : World, wA = wr := ⟨_, rfl⟩
    have hsA := HGR.out.size
    by_cases hlt : k < L.length
    · obtain ⟨b5, off5, rfl, hb5, hcl5⟩ := HC5.out (by omega)
      have hb5 : b5 < w2.heap.size := by omega
      obtain ⟨y, hy⟩ : ∃ y, L[k]? = some y := ⟨_, List.getElem?_eq_getElem hlt⟩
      obtain ⟨i, a, rfl, ha⟩ := HLM.out y (List.mem_of_getElem? hy)
      obtain ⟨nm, kd, nd, cr, sv⟩ := a
      have hgd := goodAp_true (HFG.out _ (List.mem_of_getElem? ha))
      dsimp only at hgd
      obtain ⟨_, hkd0, hkd3, _, _, _⟩ := hgd
      obtain ⟨q, rfl⟩ := Int.eq_ofNat_of_zero_le hkd0
      have hif : i < f.length := (List.getElem?_eq_some_iff.1 ha).1
      obtain ⟨b, off, rfl, hbl, hcell⟩ := HCELL.out (by omega)
      obtain ⟨_, d1, _, _, _⟩ := ap_at hcell (bel_grown HB2.out HGR.out (fun q e => by have := Option.some.inj e; omega)) hbl ha
      dsimp only at d1
      have hkq := kdOf_at ha
      dsimp only at hkq
      rw [Int.toNat_natCast] at hkq
      have co := (gro_cell HGR.out (o := off5 + k) hb5 (by omega)).trans (hcl5 k _ (ints_get hy))
      have ca := own_cell HLW.out (show q < 4 by omega)
      have fb := HLW.out.frozenAt q
      obtain ⟨x, hx⟩ : ∃ x, d.getD q 0 = x := ⟨_, rfl⟩
      rw [hx] at ca
      have hx6 : x ≤ 6 := by rw [← hx]; exact HDB.out q
      have HST := Lib.hid (pickL_snoc (f := f) (need := need) hy)
      have HQ := Lib.hid hkq
      have HX := Lib.hid hx
      have i0 : (0 : Int) ≤ (i : Int) := by omega
      have i1 : (i : Int) < (f.length : Int) := by omega
      have q0 : (0 : Int) ≤ (q : Int) := by omega
      have q4 : (q : Int) < 4 := by omega
      have HOWS := Lib.hid (own_other HOW.out (g := g) (by omega) q (.int .i64 (x - 1)))
      have HLWS := Lib.hid (own_setI HLW.out q (x - 1))
      have HGRS := Lib.hid (only_setCell HGR.out q (.int .i64 (x - 1)))
      have hz0' : (wA.setCell ⟨g, q, none⟩ (.int .i64 (x - 1))).heap.size = wA.heap.size := by simp
      clear hcl5 hy ha hcell hkq hx hkd3
      by_cases hpos : 0 < x
      · have HYES : Hid (pickL f (L.take (k + 1)) need = (S ++ [(i : Int)], d.set q (x - 1))) := Lib.hid (by
          rw [HST.out, HPK.out]; exact pickStep_yes HQ.out HX.out hpos)
        have s3 : IntKind.i64.wrap (x - 1) = x - 1 := IntWalk.i64_in _ (by omega)
        go_wp2_with (at_builtin; refine wpList_app_rd _ rfl _ _ 26 rfl w2.heap.size 3 i0' (.int .i64 0) 1 8 Tryz.underlying26 hi hz0 hz1 hz2 rfl (by decide) _ _ _ rfl (HOWS.out.alloc _) _ 1 [.int .i64 i] rfl (rd_new _ hz0'.symm (Nat.le_refl _) (by rw [maxLen_eq]; omega)) rfl (ints_one [(i : Int)]) (by rw [maxLen_eq]; omega) (by omega) (by simp; omega) ?_; intro v7 w7 hown7 hgrow7 _)
        have hlo := HOW.out.lt
        refine ⟨⟨k + 1, S ++ [(i : Int)], d.set q (x - 1), by omega, by simp; omega, by go_num, HYES, Lib.hid (by rw [List.length_set]; exact HDL.out), Lib.hid (fun j => by have := HDB.out j; exact set_le _ _ _ _ (by omega) HDB.out j), Lib.hid ?_, Lib.hid ?_, Lib.hid ?_⟩, by simp [intOf]; omega⟩
        · rw [ints_append, List.length_append]; exact hown7
        · exact kept3 (HLWS.out.alloc _) hgrow7 (fun p p' e e' => by have := (hlo p' e').1; have : g = p := Option.some.inj e; omega)
        · exact gro_and (gro_al HGRS.out _) hgrow7 (fun p e => (hlo p e).1)
      · have HNO : Hid (pickL f (L.take (k + 1)) need = (S, d)) := Lib.hid (by rw [HST.out, HPK.out]; exact pickStep_no HQ.out HX.out (by omega))
        go_wp2
        exact ⟨⟨k + 1, S, d, by omega, by omega, by go_num, HNO, HDL, HDB, HOW, HLW, HGR⟩, by simp [intOf]; omega⟩
    · obtain rfl : k = L.length := by omega
      have hpk := HPK.out
      rw [List.take_length] at hpk
      have HP := Lib.hid hpk
      clear hpk
      go_wp2
      go_ret3
      have hzz : RdI wA u5 (allT (distT n (arcs l) src) f) := rdi_gro HZ.out HGR.out (fun b' off' n' c' e hl => HZB.out b' off' n' c' e hl)
      refine ⟨_, _, _, rfl, ?_, ?_, hzz, bel_grown HB2.out HGR.out (fun q e => by have := Option.some.inj e; omega)⟩
      · rw [HLL.out, HP.out]; exact rdi_own HOW.out
      · rw [HLL.out, HP.out]; dsimp only; rw [HDL.out]; exact HLW.out
end Go.Proofs.YtddccjdppbcnbaaGreat

namespace Go.Proofs.YtddccjdppbcnbaaGreat
set_option linter.unusedVariables false
set_option linter.unusedSimpArgs false
open Go.RowKit

/-! a list without repeats inside another -/
theorem nodup_len {α : Type} [DecidableEq α] : ∀ (a b : List α), a.Nodup → (∀ x ∈ a, x ∈ b) → a.length ≤ b.length := by
  intro a
  induction a with
  | nil => intro b _ _; simp
  | cons x a ih =>
    intro b hn hs
    obtain ⟨hx, hn⟩ := List.nodup_cons.1 hn
    have hxb := hs x (by simp)
    have h := ih (b.erase x) hn (fun y hy => (List.mem_erase_of_ne (fun e => hx (by rw [← e]; exact hy))).2 (hs y (by simp [hy])))
    rw [List.length_erase_of_mem hxb] at h
    have := List.length_pos_of_mem hxb
    rw [List.length_cons]; omega
theorem nodup_back {α : Type} [DecidableEq α] {a b : List α} (hn : a.Nodup) (hs : ∀ x ∈ a, x ∈ b) (hl : a.length = b.length) : ∀ x ∈ b, x ∈ a := fun x hx => by
  rcases Classical.em (x ∈ a) with h | h
  · exact h
  · have := nodup_len (x :: a) b (List.nodup_cons.2 ⟨h, hn⟩) (fun y hy => by
      rcases List.mem_cons.1 hy with rfl | hy
      · exact hx
      · exact hs y hy)
    rw [List.length_cons] at this; omega
theorem nodup_filter {α : Type} {l : List α} (p : α → Bool) (h : l.Nodup) : (l.filter p).Nodup := List.Nodup.sublist List.filter_sublist h
theorem nodup_map_of {α β : Type} (g : α → β) : ∀ (l : List α), l.Nodup → (∀ x ∈ l, ∀ y ∈ l, g x = g y → x = y) → (l.map g).Nodup := by
  intro l
  induction l with
  | nil => intro _ _; simp
  | cons x l ih =>
    intro hn hi
    obtain ⟨hx, hn⟩ := List.nodup_cons.1 hn
    rw [List.map_cons, List.nodup_cons]
    refine ⟨fun h => ?_, ih hn (fun a ha b hb => hi a (by simp [ha]) b (by simp [hb]))⟩
    obtain ⟨y, hy, e⟩ := List.mem_map.1 h
    exact hx (hi y (by simp [hy]) x (by simp) e ▸ hy)
/-! names that rise are different -/
theorem bLess_irrefl : ∀ x : List UInt8, Op.bytesLess x x = false := by
  intro x
  induction x with
  | nil => rfl
  | cons a x ih => simp [Op.bytesLess, ih]
theorem bLess_trans : ∀ x y z : List UInt8, Op.bytesLess x y = true → Op.bytesLess y z = true → Op.bytesLess x z = true := by
  intro x
  induction x with
  | nil => intro y z h1 h2; cases z with
    | nil => cases y <;> simp [Op.bytesLess] at h2
    | cons c z => rfl
  | cons a x ih => intro y z h1 h2; cases y with
    | nil => simp [Op.bytesLess] at h1
    | cons b y => cases z with
      | nil => simp [Op.bytesLess] at h2
      | cons c z =>
        simp only [Op.bytesLess, Bool.or_eq_true, Bool.and_eq_true, decide_eq_true_eq, beq_iff_eq] at h1 h2 ⊢
        rcases h1 with h1 | ⟨rfl, h1⟩
        · rcases h2 with h2 | ⟨rfl, h2⟩
          · exact .inl (UInt8.lt_trans h1 h2)
          · exact .inl h1
        · rcases h2 with h2 | ⟨rfl, h2⟩
          · exact .inl h2
          · exact .inr ⟨rfl, ih _ _ h1 h2⟩
/-- Neighbours that rise: any two rise. -/
theorem rise_all {l : List ByteArray} (h : ∀ k a b, l[k]? = some a → l[k + 1]? = some b → Op.bytesLess a.toList b.toList = true) : ∀ (d i : Nat) (a b : ByteArray), l[i]? = some a → l[i + 1 + d]? = some b → Op.bytesLess a.toList b.toList = true := by
  intro d
  induction d with
  | zero => intro i a b ha hb; exact h i a b ha hb
  | succ d ih =>
    intro i a b ha hb
    have hlt : i + 1 + d < l.length := by have := (List.getElem?_eq_some_iff.1 hb).1; omega
    obtain ⟨c, hc⟩ : ∃ c, l[i + 1 + d]? = some c := ⟨_, List.getElem?_eq_getElem hlt⟩
    exact bLess_trans _ _ _ (ih i a c ha hc) (h _ c b hc hb)
theorem rise_inj {l : List ByteArray} (h : ∀ k a b, l[k]? = some a → l[k + 1]? = some b → Op.bytesLess a.toList b.toList = true) {i j : Nat} {a : ByteArray} (hi : l[i]? = some a) (hj : l[j]? = some a) : i = j := by
  rcases Nat.lt_trichotomy i j with hlt | rfl | hlt
  · obtain ⟨d, rfl⟩ : ∃ d, j = i + 1 + d := ⟨j - i - 1, by omega⟩
    have := rise_all h d i a a hi hj
    rw [bLess_irrefl] at this; cases this
  · rfl
  · obtain ⟨d, rfl⟩ : ∃ d, i = j + 1 + d := ⟨i - j - 1, by omega⟩
    have := rise_all h d j a a hj hi
    rw [bLess_irrefl] at this; cases this
theorem names_rise {q : List ByteArray} (h : namesB q = true) : ∀ k a b, q[k]? = some a → q[k + 1]? = some b → Op.bytesLess a.toList b.toList = true := fun k a b ha hb => by
  unfold namesB at h
  have := List.all_eq_true.1 h (k + 1) (List.mem_range.2 (List.getElem?_eq_some_iff.1 hb).1)
  rw [okNm_next hb ha] at this
  unfold geS at this
  simpa using this
theorem nodup_idx {α : Type} {l : List α} (h : ∀ (i j : Nat) (a : α), l[i]? = some a → l[j]? = some a → i = j) : l.Nodup := by
  rw [List.nodup_iff_pairwise_ne, List.pairwise_iff_getElem]
  intro i j hi hj hij e
  have := h i j _ (List.getElem?_eq_getElem hi) (by rw [e]; exact List.getElem?_eq_getElem hj)
  omega
theorem names_nodup {q : List ByteArray} (h : namesB q = true) : q.Nodup := nodup_idx fun _ _ _ hi hj => rise_inj (names_rise h) hi hj
theorem fleet_rise {f : List Ap} (h : goodFl f = true) : ∀ k a b, (f.map Ap.nm)[k]? = some a → (f.map Ap.nm)[k + 1]? = some b → Op.bytesLess a.toList b.toList = true := fun k a b ha hb => by
  unfold goodFl at h
  rw [Bool.and_eq_true] at h
  rw [List.getElem?_map, Option.map_eq_some_iff] at ha hb
  obtain ⟨x, hx, rfl⟩ := ha
  obtain ⟨y, hy, rfl⟩ := hb
  have := List.all_eq_true.1 h.2 (k + 1) (List.mem_range.2 (List.getElem?_eq_some_iff.1 hy).1)
  unfold okAp at this
  rw [hy] at this
  simp only [Nat.add_sub_cancel, hx] at this
  unfold geS at this
  simp at this
  exact this.2
theorem fleet_inj {f : List Ap} (h : goodFl f = true) {i j : Nat} {a b : Ap} (hi : f[i]? = some a) (hj : f[j]? = some b) (e : a.nm = b.nm) : i = j :=
  rise_inj (fleet_rise h) (a := a.nm) (by rw [List.getElem?_map, hi]; rfl) (by rw [List.getElem?_map, hj, e]; rfl)
/-! the plain values -/
def nmI (f : List Ap) (i : Int) : ByteArray := match f[i.toNat]? with
  | some a => a.nm
  | none => ⟨#[]⟩
theorem nmI_at {f : List Ap} {i : Nat} {a : Ap} (h : f[i]? = some a) : nmI f (i : Int) = a.nm := by unfold nmI; rw [Int.toNat_natCast, h]
def hasN (q : List ByteArray) (nm : ByteArray) : Bool := q.any fun s => decide (s = nm)
theorem hasN_iff {q : List ByteArray} {nm : ByteArray} : hasN q nm = true ↔ nm ∈ q := by
  unfold hasN
  rw [List.any_eq_true]
  constructor
  · rintro ⟨s, hs, h⟩; exact of_decide_eq_true h ▸ hs
  · intro h; exact ⟨nm, h, decide_eq_true rfl⟩
theorem hasN_false {q : List ByteArray} {nm : ByteArray} (h : nm ∉ q) : hasN q nm = false := by
  cases e : hasN q nm
  · rfl
  · exact absurd (hasN_iff.1 e) h
def cntStep (f : List Ap) (d : List Int) (i : Int) : List Int := d.set (kdOf f i) (d.getD (kdOf f i) 0 + 1)
def cntL (f : List Ap) (H : List Int) : List Int := H.foldl (cntStep f) [0, 0, 0, 0]
def wstStep (ev : List Int) (f : List Ap) (d : List Int) (i : Int) : List Int := d.set (kdOf f i) (max (d.getD (kdOf f i) 0) (rdyKey ev f i))
def wstL (ev : List Int) (f : List Ap) (H : List Int) : List Int := H.foldl (wstStep ev f) [-1, -1, -1, -1]
def hasL (f : List Ap) (q : List ByteArray) (R : List Int) : List Int := R.filter fun i => hasN q (nmI f i)
/-- What the reference says. -/
def bestS (ev : List Int) (f : List Ap) (R : List Int) (need mis : List Int) (q : List ByteArray) : Bool :=
  namesB q && ((List.range 4).all (fun k => (cntL f (hasL f q R)).getD k 0 == need.getD k 0 - mis.getD k 0) && ((cntL f (hasL f q R)).sum == (q.length : Int) && R.all fun i => hasN q (nmI f i) || !decide (rdyKey ev f i < (wstL ev f (hasL f q R)).getD (kdOf f i) 0)))
def okTk (f : List Ap) (R : List Int) (q : List ByteArray) (k : Nat) : Bool := okNm q k && match q[k]? with
  | some nm => decide (findA nm f ∈ R)
  | none => true
def takenL (f : List Ap) (q : List ByteArray) : List Int := q.map fun nm => findA nm f
/-- What the program says. -/
def bestI (ev : List Int) (f : List Ap) (R : List Int) (need mis : List Int) (q : List ByteArray) : Bool :=
  (List.range q.length).all (okTk f R q) && (decide (missL f (takenL f q) need = mis) && R.all fun i => decide (i ∈ takenL f q) || !decide (rdyKey ev f i < (wstL ev f (takenL f q)).getD (kdOf f i) 0))
/-! what the steps hold -/
theorem set4_len {d : List Int} {k : Nat} {x : Int} : (d.set k x).length = d.length := List.length_set
theorem getD_set_eq {d : List Int} {k : Nat} {x : Int} (h : k < d.length) : (d.set k x).getD k 0 = x := by simp [List.getD, h]
theorem getD_set_ne {d : List Int} {k j : Nat} {x : Int} (h : k ≠ j) : (d.set k x).getD j 0 = d.getD j 0 := by simp [List.getD, List.getElem?_set_ne h]
theorem cnt_aux (f : List Ap) : ∀ (H d : List Int), d.length = 4 → (H.foldl (cntStep f) d).length = 4 ∧ ∀ k, k < 4 → (H.foldl (cntStep f) d).getD k 0 = d.getD k 0 + ((H.filter fun i => kdOf f i == k).length : Int) := by
  intro H
  induction H with
  | nil => intro d hd; exact ⟨hd, fun k _ => by simp⟩
  | cons i H ih =>
    intro d hd
    obtain ⟨h1, h2⟩ := ih (cntStep f d i) (by unfold cntStep; rw [set4_len, hd])
    refine ⟨h1, fun k hk => ?_⟩
    rw [List.foldl_cons, h2 k hk, List.filter_cons]
    unfold cntStep
    by_cases e : kdOf f i = k
    · subst e
      rw [getD_set_eq (by omega)]
      simp
      omega
    · rw [getD_set_ne e]
      simp [e]
theorem cnt_len (f : List Ap) (H : List Int) : (cntL f H).length = 4 := (cnt_aux f H _ rfl).1
theorem cnt_get (f : List Ap) (H : List Int) {k : Nat} (hk : k < 4) : (cntL f H).getD k 0 = ((H.filter fun i => kdOf f i == k).length : Int) := by
  have h := (cnt_aux f H [0, 0, 0, 0] rfl).2 k hk
  have e : ([0, 0, 0, 0] : List Int).getD k 0 = 0 := by rcases k with _ | _ | _ | _ | k <;> first | rfl | omega
  unfold cntL
  rw [h, e]; omega
theorem miss_aux (f : List Ap) : ∀ (H d : List Int), d.length = 4 → (H.foldl (missStep f) d).length = 4 ∧ ∀ k, k < 4 → (H.foldl (missStep f) d).getD k 0 = d.getD k 0 - ((H.filter fun i => kdOf f i == k).length : Int) := by
  intro H
  induction H with
  | nil => intro d hd; exact ⟨hd, fun k _ => by simp⟩
  | cons i H ih =>
    intro d hd
    obtain ⟨h1, h2⟩ := ih (missStep f d i) (by unfold missStep; rw [set4_len, hd])
    refine ⟨h1, fun k hk => ?_⟩
    rw [List.foldl_cons, h2 k hk, List.filter_cons]
    unfold missStep
    by_cases e : kdOf f i = k
    · subst e
      rw [getD_set_eq (by omega)]
      simp
      omega
    · rw [getD_set_ne e]
      simp [e]
theorem sum_kinds (g : Int → Nat) : ∀ H : List Int, (∀ i ∈ H, g i < 4) → (H.filter fun i => g i == 0).length + (H.filter fun i => g i == 1).length + (H.filter fun i => g i == 2).length + (H.filter fun i => g i == 3).length = H.length := by
  intro H
  induction H with
  | nil => intro _; rfl
  | cons i H ih =>
    intro h
    have hi := h i (by simp)
    have := ih (fun x hx => h x (by simp [hx]))
    rcases (show g i = 0 ∨ g i = 1 ∨ g i = 2 ∨ g i = 3 by omega) with e | e | e | e <;> simp [List.filter_cons, e] <;> omega
theorem list4g {d : List Int} (h : d.length = 4) : d = [d.getD 0 0, d.getD 1 0, d.getD 2 0, d.getD 3 0] := by
  match d, h with
  | [a, b, c, e], _ => rfl
theorem sum4 {d : List Int} (h : d.length = 4) : d.sum = d.getD 0 0 + d.getD 1 0 + d.getD 2 0 + d.getD 3 0 := by
  match d, h with
  | [a, b, c, e], _ => simp [List.getD]; omega
theorem cnt_sum (f : List Ap) (H : List Int) (h : ∀ i ∈ H, kdOf f i < 4) : (cntL f H).sum = (H.length : Int) := by
  rw [sum4 (cnt_len f H), cnt_get f H (by omega), cnt_get f H (by omega), cnt_get f H (by omega), cnt_get f H (by omega)]
  have := sum_kinds (kdOf f) H h
  omega
theorem wst_aux (ev : List Int) (f : List Ap) : ∀ (H d : List Int), d.length = 4 → (H.foldl (wstStep ev f) d).length = 4 ∧ ∀ k, k < 4 → d.getD k 0 ≤ (H.foldl (wstStep ev f) d).getD k 0 ∧ (∀ i ∈ H, kdOf f i = k → rdyKey ev f i ≤ (H.foldl (wstStep ev f) d).getD k 0) ∧
    ∀ c, d.getD k 0 ≤ c → (∀ i ∈ H, kdOf f i = k → rdyKey ev f i ≤ c) → (H.foldl (wstStep ev f) d).getD k 0 ≤ c := by
  intro H
  induction H with
  | nil => intro d hd; exact ⟨hd, fun k _ => ⟨Int.le_refl _, by simp, fun c h _ => h⟩⟩
  | cons i H ih =>
    intro d hd
    obtain ⟨h1, h2⟩ := ih (wstStep ev f d i) (by unfold wstStep; rw [set4_len, hd])
    refine ⟨h1, fun k hk => ?_⟩
    obtain ⟨a, b, c⟩ := h2 k hk
    rw [List.foldl_cons]
    by_cases e : kdOf f i = k
    · have hg : (wstStep ev f d i).getD k 0 = max (d.getD k 0) (rdyKey ev f i) := by unfold wstStep; rw [e, getD_set_eq (by omega)]
      rw [hg] at a c
      refine ⟨by omega, fun j hj hjk => ?_, fun c' h3 h4 => c c' (by have := h4 i (by simp) e; omega) (fun j hj => h4 j (by simp [hj]))⟩
      rcases List.mem_cons.1 hj with rfl | hj
      · omega
      · exact b j hj hjk
    · have hg : (wstStep ev f d i).getD k 0 = d.getD k 0 := by unfold wstStep; rw [getD_set_ne e]
      rw [hg] at a c
      refine ⟨a, fun j hj hjk => ?_, fun c' h3 h4 => c c' h3 (fun j hj => h4 j (by simp [hj]))⟩
      rcases List.mem_cons.1 hj with rfl | hj
      · exact absurd hjk e
      · exact b j hj hjk
theorem wst_congr (ev : List Int) (f : List Ap) {H T : List Int} (h1 : ∀ x ∈ H, x ∈ T) (h2 : ∀ x ∈ T, x ∈ H) {k : Nat} (hk : k < 4) : (wstL ev f H).getD k 0 = (wstL ev f T).getD k 0 := by
  obtain ⟨a, b, c⟩ := (wst_aux ev f H [-1, -1, -1, -1] rfl).2 k hk
  obtain ⟨a', b', c'⟩ := (wst_aux ev f T [-1, -1, -1, -1] rfl).2 k hk
  exact Int.le_antisymm (c _ a' (fun i hi => b' i (h1 i hi))) (c' _ a (fun i hi => b i (h2 i hi)))
/-! the two agree -/
theorem best_eq (ev : List Int) (f : List Ap) (R : List Int) (need : List Int) (q : List ByteArray) (P : List Int) (hfl : goodFl f = true) (hR : ∀ y ∈ R, ∃ (i : Nat) (a : Ap), y = (i : Int) ∧ f[i]? = some a) (hnd : R.Nodup) (hn4 : need.length = 4) :
    bestI ev f R need (missL f P need) q = bestS ev f R need (missL f P need) q := by
  have hkd : ∀ y ∈ R, kdOf f y < 4 := fun y hy => by
    obtain ⟨i, a, rfl, ha⟩ := hR y hy
    obtain ⟨_, h0, h3, _⟩ := goodAp_true ((goodFl_true hfl).2 a (List.mem_of_getElem? ha))
    rw [kdOf_at ha]; omega
  have hfind : ∀ y ∈ R, findA (nmI f y) f = y := fun y hy => by
    obtain ⟨i, a, rfl, ha⟩ := hR y hy
    rw [nmI_at ha]
    have h0 : 0 ≤ findA a.nm f := of_decide_eq_true (by unfold findA; rw [(idxG_any _ _).1]; exact List.any_eq_true.2 ⟨a, List.mem_of_getElem? ha, by simp⟩)
    obtain ⟨j, hj⟩ := Int.eq_ofNat_of_zero_le h0
    obtain ⟨b, hb, hbp⟩ := idxG_get hj
    have := fleet_inj hfl ha hb (of_decide_eq_true hbp).symm
    rw [hj, this]
  have hname : ∀ nm ∈ q, findA nm f ∈ R → nmI f (findA nm f) = nm := fun nm _ h => by
    obtain ⟨i, a, e, ha⟩ := hR _ h
    obtain ⟨b, hb, hbp⟩ := idxG_get e
    rw [e, nmI_at hb]
    exact of_decide_eq_true hbp
  by_cases hN : namesB q = true
  · have hqn := names_nodup hN
    have hHn : (hasL f q R).Nodup := nodup_filter _ hnd
    have hHR : ∀ y ∈ hasL f q R, y ∈ R := fun y hy => (List.mem_filter.1 hy).1
    have hinj : ∀ x ∈ R, ∀ y ∈ R, nmI f x = nmI f y → x = y := fun x hx y hy e => by rw [← hfind x hx, ← hfind y hy, e]
    have hmn : ((hasL f q R).map (nmI f)).Nodup := nodup_map_of _ _ hHn (fun x hx y hy => hinj x (hHR x hx) y (hHR y hy))
    have hms : ∀ z ∈ (hasL f q R).map (nmI f), z ∈ q := fun z hz => by
      obtain ⟨y, hy, rfl⟩ := List.mem_map.1 hz
      exact hasN_iff.1 (List.mem_filter.1 hy).2
    have hall : (List.range q.length).all (okTk f R q) = decide (∀ nm ∈ q, findA nm f ∈ R) := by
      by_cases h : ∀ nm ∈ q, findA nm f ∈ R
      · rw [decide_eq_true h, List.all_eq_true]
        intro k hk
        unfold okTk
        rw [List.all_eq_true.1 hN k hk]
        obtain ⟨nm, hnm⟩ : ∃ nm, q[k]? = some nm := ⟨_, List.getElem?_eq_getElem (List.mem_range.1 hk)⟩
        rw [hnm]
        exact decide_eq_true (h nm (List.mem_of_getElem? hnm))
      · rw [decide_eq_false h, List.all_eq_false]
        have ⟨nm, hnm, hno⟩ : ∃ nm, nm ∈ q ∧ findA nm f ∉ R := by
          apply Classical.byContradiction
          intro hc
          exact h (fun nm hm => Classical.byContradiction fun hn => hc ⟨nm, hm, hn⟩)
        obtain ⟨k, hk, e⟩ := List.getElem_of_mem hnm
        refine ⟨k, List.mem_range.2 hk, ?_⟩
        unfold okTk
        rw [List.getElem?_eq_getElem hk, e]
        simp [hno]
    by_cases hA : ∀ nm ∈ q, findA nm f ∈ R
    · have hTn : (takenL f q).Nodup := nodup_map_of _ _ hqn (fun x hx y hy e => by rw [← hname x hx (hA x hx), ← hname y hy (hA y hy), e])
      have hTH : ∀ x ∈ takenL f q, x ∈ hasL f q R := fun x hx => by
        obtain ⟨nm, hm, rfl⟩ := List.mem_map.1 hx
        exact List.mem_filter.2 ⟨hA nm hm, by rw [hname nm hm (hA nm hm)]; exact hasN_iff.2 hm⟩
      have hHT : ∀ x ∈ hasL f q R, x ∈ takenL f q := fun x hx => by
        obtain ⟨h1, h2⟩ := List.mem_filter.1 hx
        exact List.mem_map.2 ⟨nmI f x, hasN_iff.1 h2, hfind x h1⟩
      have hTl : (takenL f q).length = q.length := by unfold takenL; rw [List.length_map]
      have hHl : (hasL f q R).length = q.length := by
        have h1 := nodup_len _ _ hTn hTH
        have h2 := nodup_len _ _ hHn hHT
        omega
      have hkeq : ∀ k, ((takenL f q).filter fun i => kdOf f i == k).length = ((hasL f q R).filter fun i => kdOf f i == k).length := fun k => by
        have h1 := nodup_len _ _ (nodup_filter (fun i => kdOf f i == k) hTn) (fun x hx => List.mem_filter.2 ⟨hTH x (List.mem_filter.1 hx).1, (List.mem_filter.1 hx).2⟩)
        have h2 := nodup_len _ _ (nodup_filter (fun i => kdOf f i == k) hHn) (fun x hx => List.mem_filter.2 ⟨hHT x (List.mem_filter.1 hx).1, (List.mem_filter.1 hx).2⟩)
        omega
      have hsum : (cntL f (hasL f q R)).sum == (q.length : Int) := by
        rw [cnt_sum f _ (fun i hi => hkd i (hHR i hi)), hHl]; exact beq_iff_eq.2 rfl
      have hmiss : decide (missL f (takenL f q) need = missL f P need) = (List.range 4).all (fun k => (cntL f (hasL f q R)).getD k 0 == need.getD k 0 - (missL f P need).getD k 0) := by
        have hm1 := miss_aux f (takenL f q) need hn4
        have hm2 := (miss_aux f P need hn4).1
        have hval : ∀ k, k < 4 → (missL f (takenL f q) need).getD k 0 = need.getD k 0 - (cntL f (hasL f q R)).getD k 0 := fun k hk => by
          unfold missL
          rw [hm1.2 k hk, cnt_get f _ hk, hkeq]
        rw [Bool.eq_iff_iff, decide_eq_true_iff, List.all_eq_true]
        constructor
        · intro e k hk
          have := hval k (List.mem_range.1 hk)
          rw [e] at this
          exact beq_iff_eq.2 (by omega)
        · intro h
          have e : ∀ k, k < 4 → (missL f (takenL f q) need).getD k 0 = (missL f P need).getD k 0 := fun k hk => by
            have h1 := beq_iff_eq.1 (h k (List.mem_range.2 hk))
            have h2 := hval k hk
            omega
          rw [list4g (d := missL f (takenL f q) need) hm1.1, list4g (d := missL f P need) hm2, e 0 (by omega), e 1 (by omega), e 2 (by omega), e 3 (by omega)]
      have hlast : (R.all fun i => decide (i ∈ takenL f q) || !decide (rdyKey ev f i < (wstL ev f (takenL f q)).getD (kdOf f i) 0)) = R.all fun i => hasN q (nmI f i) || !decide (rdyKey ev f i < (wstL ev f (hasL f q R)).getD (kdOf f i) 0) := by
        rw [Bool.eq_iff_iff, List.all_eq_true, List.all_eq_true]
        have e : ∀ i ∈ R, (decide (i ∈ takenL f q) || !decide (rdyKey ev f i < (wstL ev f (takenL f q)).getD (kdOf f i) 0)) = (hasN q (nmI f i) || !decide (rdyKey ev f i < (wstL ev f (hasL f q R)).getD (kdOf f i) 0)) := fun i hi => by
          rw [wst_congr ev f hTH hHT (hkd i hi)]
          have : decide (i ∈ takenL f q) = hasN q (nmI f i) := by
            by_cases h : i ∈ takenL f q
            · rw [decide_eq_true h]
              exact ((List.mem_filter.1 (hTH i h)).2).symm
            · rw [decide_eq_false h]
              exact (hasN_false (fun hm => h (hHT i (List.mem_filter.2 ⟨hi, hasN_iff.2 hm⟩)))).symm
          rw [this]
        constructor
        · intro h i hi; rw [← e i hi]; exact h i hi
        · intro h i hi; rw [e i hi]; exact h i hi
      unfold bestI bestS
      rw [hall, decide_eq_true hA, hN, hmiss, hsum, hlast]
      simp
    · have hsum : ((cntL f (hasL f q R)).sum == (q.length : Int)) = false := by
        rw [cnt_sum f _ (fun i hi => hkd i (hHR i hi))]
        refine beq_false_of_ne (fun e => hA (fun nm hm => ?_))
        have := nodup_back hmn hms (by rw [List.length_map]; omega) nm hm
        obtain ⟨y, hy, rfl⟩ := List.mem_map.1 this
        rw [hfind y (hHR y hy)]; exact hHR y hy
      unfold bestI bestS
      rw [hall, decide_eq_false hA, hsum]
      simp
  · have hN' : namesB q = false := by simpa using hN
    have : (List.range q.length).all (okTk f R q) = false := by
      rw [List.all_eq_false]
      obtain ⟨k, hk, h⟩ := List.all_eq_false.1 hN'
      refine ⟨k, hk, ?_⟩
      unfold okTk
      have h' : okNm q k = false := by simpa using h
      rw [h']; simp
    unfold bestI bestS
    rw [this, hN']
    simp
end Go.Proofs.YtddccjdppbcnbaaGreat

namespace Go.Proofs.YtddccjdppbcnbaaGreat
set_option linter.unusedVariables false
set_option linter.unusedSimpArgs false
open Go.RowKit

def callA (a : Ap) : Ap := ⟨a.nm, a.kd, a.nd, a.cr, 1⟩
def sendF (f : List Ap) (L : List Int) : List Ap := f.mapIdx fun i a => if (i : Int) ∈ L then callA a else a
theorem sendF_len (f : List Ap) (L : List Int) : (sendF f L).length = f.length := by simp [sendF]
theorem sendF_get (f : List Ap) (L : List Int) (i : Nat) : (sendF f L)[i]? = (f[i]?).map fun a => if (i : Int) ∈ L then callA a else a := by simp [sendF, List.getElem?_mapIdx]
theorem sendF_nil (f : List Ap) : sendF f [] = f := by
  apply List.ext_getElem?
  intro i
  rw [sendF_get]
  cases f[i]? <;> simp
theorem callA_callA (a : Ap) : callA (callA a) = callA a := rfl
theorem sendF_snoc {f : List Ap} {S : List Int} {i : Nat} {a : Ap} (h : (sendF f S)[i]? = some a) : (sendF f S).set i (callA a) = sendF f (S ++ [(i : Int)]) := by
  apply List.ext_getElem?
  intro j
  rw [List.getElem?_set, sendF_get, sendF_get]
  by_cases e : i = j
  · subst e
    have hi := (List.getElem?_eq_some_iff.1 h).1
    rw [if_pos rfl, if_pos hi]
    rw [sendF_get] at h
    cases hf : f[i]? with
    | none => rw [hf] at h; cases h
    | some b =>
      rw [hf] at h
      simp only [Option.map_some, Option.some.injEq] at h ⊢
      have hm : (i : Int) ∈ S ++ [(i : Int)] := by simp
      rw [if_pos hm, ← h]
      split <;> rfl
  · rw [if_neg e]
    cases f[j]? with
    | none => rfl
    | some b =>
      simp only [Option.map_some, Option.some.injEq]
      have : ((j : Int) ∈ S ++ [(i : Int)]) ↔ (j : Int) ∈ S := by
        rw [List.mem_append, List.mem_singleton]
        constructor
        · rintro (h | h)
          · exact h
          · exact absurd (by omega : i = j) e
        · exact .inl
      simp only [this]
theorem put_state {F : List Ap} {i : Nat} {a : Ap} (h : F[i]? = some a) : (F.flatMap Ap.cells).set (i * 5 + 4) (.int .i64 1) = (F.set i (callA a)).flatMap Ap.cells := by
  have hi := (List.getElem?_eq_some_iff.1 h).1
  have ha := (List.getElem?_eq_some_iff.1 h).2
  have hd : F = F.take i ++ (a :: F.drop (i + 1)) := by rw [← ha, ← List.drop_eq_getElem_cons hi, List.take_append_drop]
  have hl : (F.take i).length = i := by rw [List.length_take]; omega
  have h2 : F.set i (callA a) = F.take i ++ (callA a :: F.drop (i + 1)) := by
    conv => lhs; rw [hd]
    rw [List.set_append_right _ _ (by omega), hl, Nat.sub_self]; rfl
  rw [h2]
  conv => lhs; rw [hd]
  rw [List.flatMap_append, List.flatMap_append, List.set_append_right _ _ (by rw [len_flat Ap.cells_len, hl]; omega), len_flat Ap.cells_len, hl]
  have e : i * 5 + 4 - i * 5 = 4 := by omega
  rw [e]; rfl
/-! one rising list for each set -/
theorem strict_eq : ∀ (a b : List Int), a.Pairwise (· < ·) → b.Pairwise (· < ·) → (∀ x, x ∈ a ↔ x ∈ b) → a = b := by
  intro a
  induction a with
  | nil =>
    intro b _ _ h
    cases b with
    | nil => rfl
    | cons y b => exact absurd ((h y).2 (by simp)) (by simp)
  | cons x a ih =>
    intro b ha hb h
    cases b with
    | nil => exact absurd ((h x).1 (by simp)) (by simp)
    | cons y b =>
      obtain ⟨ha1, ha2⟩ := List.pairwise_cons.1 ha
      obtain ⟨hb1, hb2⟩ := List.pairwise_cons.1 hb
      have hxy : x = y := by
        rcases List.mem_cons.1 ((h x).1 (by simp)) with e | e
        · exact e
        · rcases List.mem_cons.1 ((h y).2 (by simp)) with e' | e'
          · exact e'.symm
          · have := hb1 x e; have := ha1 y e'; omega
      subst hxy
      rw [ih b ha2 hb2 (fun z => ?_)]
      constructor
      · intro hz
        rcases List.mem_cons.1 ((h z).1 (by simp [hz])) with e | e
        · have := ha1 z hz; omega
        · exact e
      · intro hz
        rcases List.mem_cons.1 ((h z).2 (by simp [hz])) with e | e
        · have := hb1 z hz; omega
        · exact e
theorem selD_rise (p : Nat → Bool) (n : Nat) : (selD p n).Pairwise (· < ·) := by
  unfold selD
  rw [List.pairwise_map]
  refine List.Pairwise.imp (R := fun a b : Nat => a < b) (fun h => by omega) ?_
  exact List.Pairwise.sublist List.filter_sublist List.pairwise_lt_range
theorem sort_eq {L : List Int} {n : Nat} (hn : L.Nodup) (hm : ∀ y ∈ L, ∃ i : Nat, y = (i : Int) ∧ i < n) : (L.mergeSort fun x y => decide (x ≤ y)) = selD (fun i => decide ((i : Int) ∈ L)) n := by
  have hp := List.mergeSort_perm L (fun x y => decide (x ≤ y))
  have hs := List.pairwise_mergeSort (le := fun x y : Int => decide (x ≤ y)) (fun a b c h1 h2 => by simp at h1 h2 ⊢; omega) (fun a b => by simp; omega) L
  have hnd : (L.mergeSort fun x y => decide (x ≤ y)).Nodup := hp.nodup_iff.2 hn
  refine strict_eq _ _ ?_ (selD_rise _ _) (fun x => ?_)
  · rw [List.nodup_iff_pairwise_ne] at hnd
    refine List.Pairwise.imp ?_ (hs.and hnd)
    rintro a b ⟨h1, h2⟩
    simp at h1; omega
  · rw [hp.mem_iff]
    unfold selD
    rw [List.mem_map]
    constructor
    · intro h
      obtain ⟨i, rfl, hi⟩ := hm x h
      exact ⟨i, List.mem_filter.2 ⟨List.mem_range.2 hi, decide_eq_true h⟩, rfl⟩
    · rintro ⟨i, hi, rfl⟩
      exact of_decide_eq_true (List.mem_filter.1 hi).2
theorem pick_sub_aux (f : List Ap) : ∀ (L : List Int) (st : List Int × List Int), ∃ T, (L.foldl (pickStep f) st).1 = st.1 ++ T ∧ T.Sublist L := by
  intro L
  induction L with
  | nil => intro st; exact ⟨[], by simp, List.Sublist.refl _⟩
  | cons i L ih =>
    intro st
    obtain ⟨T, h1, h2⟩ := ih (pickStep f st i)
    rw [List.foldl_cons, h1]
    unfold pickStep
    split
    · exact ⟨i :: T, by simp, h2.cons_cons i⟩
    · exact ⟨T, rfl, h2.cons i⟩
theorem pick_nodup (f : List Ap) {L : List Int} (need : List Int) (h : L.Nodup) : (pickL f L need).1.Nodup := by
  obtain ⟨T, h1, h2⟩ := pick_sub_aux f L ([], need)
  unfold pickL
  rw [h1]
  simpa using h.sublist h2
end Go.Proofs.YtddccjdppbcnbaaGreat

namespace Go.Proofs.YtddccjdppbcnbaaGreat
set_option linter.unusedVariables false
set_option linter.unusedSimpArgs false
open Go.RowKit

def chAt (f : List Ap) (ev : List Int) (i : Int) : Ch := match f[i.toNat]? with
  | some a => ⟨a.nm, ev.getD a.nd.toNat 0⟩
  | none => ⟨⟨#[]⟩, 0⟩
theorem chAt_at {f : List Ap} {ev : List Int} {i : Nat} {a : Ap} (h : f[i]? = some a) : chAt f ev (i : Int) = ⟨a.nm, ev.getD a.nd.toNat 0⟩ := by unfold chAt; rw [Int.toNat_natCast, h]
def chL (f : List Ap) (ev L : List Int) : List Ch := L.map (chAt f ev)
theorem chL_len (f : List Ap) (ev L : List Int) : (chL f ev L).length = L.length := by simp [chL]
theorem chL_snoc {f : List Ap} {ev L : List Int} {k : Nat} {y : Int} (h : L[k]? = some y) : chL f ev (L.take (k + 1)) = chL f ev (L.take k) ++ [chAt f ev y] := by unfold chL; rw [take_succ_of h, List.map_append]; rfl
theorem ch_flat (l : List Ch) (c : Ch) : (l ++ [c]).flatMap Ch.cells = l.flatMap Ch.cells ++ [.string c.cn, .int .i64 c.cs] := by rw [List.flatMap_append]; simp [Ch.cells]
theorem gro_cellr {a b : World} {r : Option Nat} (h : a.grownBy b r) {x o : Nat} (hx : x < a.heap.size) (hne : ∀ q, r = some q → x ≠ q) : b.cell? ⟨x, o, none⟩ = a.cell? ⟨x, o, none⟩ := World.cell?_of_block (h.block x hx (fun e => hne x e.symm rfl))
end Go.Proofs.YtddccjdppbcnbaaGreat

namespace Go.Proofs.YtddccjdppbcnbaaGreat
set_option linter.unusedVariables false
set_option linter.unusedSimpArgs false
open Go.RowKit

theorem dist_len (n : Nat) (l : List St) (src : Nat) : (distT n (arcs l) src).length = n := by unfold distT; rw [iterT_len, startT_len]
def readyTimesV (n : Int) (l : List St) (f : List Ap) (x : Int) : List Ch × Bool :=
  if askD n l f x = true then (chL f (distT n.toNat (arcs l) x.toNat) (readyL (distT n.toNat (arcs l) x.toNat) f), true) else ([], false)
theorem readyTimes_no1 {n : Int} {l : List St} {f : List Ap} {x : Int} (h : askD n l f x = false) : readyTimesV n l f x = ([], false) := by
  unfold readyTimesV; rw [if_neg (by rw [h]; simp)]
theorem readyTimes_yes {n src : Nat} {l : List St} {f : List Ap} (h : askD n l f src = true) : readyTimesV n l f src = (chL f (distT n (arcs l) src) (readyL (distT n (arcs l) src) f), true) := by
  unfold readyTimesV; rw [if_pos h, Int.toNat_natCast, Int.toNat_natCast]
theorem readyTimes_mem {ev : List Int} {f : List Ap} (hfl : goodFl f = true) : (∀ y ∈ (readyL ev f), ∃ (i : Nat) (a : Ap), y = (i : Int) ∧ f[i]? = some a) ∧ (readyL ev f).length ≤ 12 := by
  have hm : ∀ y ∈ readyL ev f, ∃ (i : Nat) (a : Ap), y = (i : Int) ∧ f[i]? = some a := fun y hy => by
    obtain ⟨i, a, h1, h2, _⟩ := readyL_mem hy
    exact ⟨i, a, h1, h2⟩
  have hl := Nat.le_trans (readyL_len ev f) (goodFl_true hfl).1
  exact ⟨hm, hl⟩
theorem readyTimesV_len (n : Int) (l : List St) (f : List Ap) (x : Int) : (readyTimesV n l f x).1.length ≤ 1000000 := by
  unfold readyTimesV
  split
  · dsimp only
    rw [chL_len]
    have := (readyTimes_mem (ev := distT n.toNat (arcs l) x.toNat) (goodDs_true (askD_true (by rename_i h; exact h)).1).2.1).2
    omega
  · simp

end Go.Proofs.YtddccjdppbcnbaaGreat
