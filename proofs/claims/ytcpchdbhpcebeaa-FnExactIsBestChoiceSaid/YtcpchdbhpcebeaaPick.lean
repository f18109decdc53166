/-
  The choice for a need: impl.choose, impl.missing, spec.dsPick (printed by gen_pick.py).
-/
import Derived.Test.YtcpchdbhpcebeaaDsr
import Derived.Test.YtcpchdbhpcebeaaNeed
import Derived.Test.YtcpchdbhpcebeaaClone
namespace Go.Proofs.Ytcpchdbhpcebeaa
open Go.RowKit

def kdOf (f : List Ap) (i : Int) : Nat := match f[i.toNat]? with
  | some a => a.kd.toNat
  | none => 0
theorem kdOf_at {f : List Ap} {i : Nat} {a : Ap} (h : f[i]? = some a) : kdOf f (i : Int) = a.kd.toNat := by unfold kdOf; rw [Int.toNat_natCast, h]
def pickStep (f : List Ap) (st : List Int × List Int) (i : Int) : List Int × List Int :=
  if 0 < st.2.getD (kdOf f i) 0 then (st.1 ++ [i], st.2.set (kdOf f i) (st.2.getD (kdOf f i) 0 - 1)) else st
theorem pickStep_yes {f : List Ap} {S d : List Int} {i : Int} {q : Nat} {x : Int} (hq : kdOf f i = q) (hx : d.getD q 0 = x) (h : 0 < x) : pickStep f (S, d) i = (S ++ [i], d.set q (x - 1)) := by
  unfold pickStep; dsimp only; rw [hq, hx, if_pos h]
theorem pickStep_no {f : List Ap} {S d : List Int} {i : Int} {q : Nat} {x : Int} (hq : kdOf f i = q) (hx : d.getD q 0 = x) (h : ¬ 0 < x) : pickStep f (S, d) i = (S, d) := by
  unfold pickStep; dsimp only; rw [hq, hx, if_neg h]
def pickL (f : List Ap) (list need : List Int) : List Int × List Int := list.foldl (pickStep f) ([], need)
theorem pickL_snoc {f : List Ap} {L need : List Int} {k : Nat} {x : Int} (h : L[k]? = some x) : pickL f (L.take (k + 1)) need = pickStep f (pickL f (L.take k) need) x := by
  unfold pickL; rw [take_succ_of h, List.foldl_append]; rfl
def missStep (f : List Ap) (d : List Int) (i : Int) : List Int := d.set (kdOf f i) (d.getD (kdOf f i) 0 - 1)
def missL (f : List Ap) (out need : List Int) : List Int := out.foldl (missStep f) need
theorem missL_snoc {f : List Ap} {L need : List Int} {k : Nat} {x : Int} (h : L[k]? = some x) : missL f (L.take (k + 1)) need = missStep f (missL f (L.take k) need) x := by
  unfold missL; rw [take_succ_of h, List.foldl_append]; rfl
theorem pick_miss_aux (f : List Ap) (need : List Int) : ∀ (L : List Int) (st : List Int × List Int), st.2 = missL f st.1 need → (L.foldl (pickStep f) st).2 = missL f (L.foldl (pickStep f) st).1 need := by
  intro L
  induction L with
  | nil => intro st h; exact h
  | cons i L ih =>
    intro st h
    rw [List.foldl_cons]
    apply ih
    unfold pickStep
    split
    · dsimp only
      unfold missL at h ⊢
      rw [List.foldl_append, ← h]; rfl
    · exact h
theorem pick_miss (f : List Ap) (L need : List Int) : missL f (pickL f L need).1 need = (pickL f L need).2 := (pick_miss_aux f need L ([], need) rfl).symm
theorem pick_mem_aux (f : List Ap) (p : Int → Prop) : ∀ (L : List Int) (st : List Int × List Int), (∀ y ∈ st.1, p y) → (∀ y ∈ L, p y) → (∀ y ∈ (L.foldl (pickStep f) st).1, p y) ∧ (L.foldl (pickStep f) st).1.length ≤ st.1.length + L.length := by
  intro L
  induction L with
  | nil => intro st h _; exact ⟨h, by simp⟩
  | cons i L ih =>
    intro st h hL
    rw [List.foldl_cons]
    have h1 : (∀ y ∈ (pickStep f st i).1, p y) ∧ (pickStep f st i).1.length ≤ st.1.length + 1 := by
      unfold pickStep
      split
      · refine ⟨fun y hy => ?_, by simp⟩
        rcases List.mem_append.1 hy with hy | hy
        · exact h y hy
        · rw [List.mem_singleton] at hy; rw [hy]; exact hL i (by simp)
      · exact ⟨h, by omega⟩
    obtain ⟨a, b⟩ := ih (pickStep f st i) h1.1 (fun y hy => hL y (by simp [hy]))
    exact ⟨a, by rw [List.length_cons]; omega⟩
theorem pick_mem (f : List Ap) (p : Int → Prop) (L need : List Int) (hL : ∀ y ∈ L, p y) : (∀ y ∈ (pickL f L need).1, p y) ∧ (pickL f L need).1.length ≤ L.length := by
  obtain ⟨a, b⟩ := pick_mem_aux f p L ([], need) (by simp) hL
  exact ⟨a, by unfold pickL; simpa using b⟩
theorem getD_le (l : List Int) (c : Int) (h0 : 0 ≤ c) (h : ∀ y ∈ l, y ≤ c) (j : Nat) : l.getD j 0 ≤ c := by
  rw [List.getD_eq_getElem?_getD]
  cases hx : l[j]? with
  | none => exact h0
  | some y => exact h y (List.mem_of_getElem? hx)
theorem getD_ge (l : List Int) (c : Int) (h0 : c ≤ 0) (h : ∀ y ∈ l, c ≤ y) (j : Nat) : c ≤ l.getD j 0 := by
  rw [List.getD_eq_getElem?_getD]
  cases hx : l[j]? with
  | none => exact h0
  | some y => exact h y (List.mem_of_getElem? hx)
theorem getD_set' (l : List Int) (q j : Nat) (x : Int) : (l.set q x).getD j 0 = x ∨ (l.set q x).getD j 0 = l.getD j 0 := by
  rw [List.getD_eq_getElem?_getD, List.getD_eq_getElem?_getD, List.getElem?_set]
  by_cases h : q = j
  · subst h
    by_cases h2 : q < l.length
    · left; simp [h2]
    · right; simp [h2]
  · right; simp [h]
theorem set_le (l : List Int) (q : Nat) (x c : Int) (hx : x ≤ c) (h : ∀ j, l.getD j 0 ≤ c) (j : Nat) : (l.set q x).getD j 0 ≤ c := by
  rcases getD_set' l q j x with e | e
  · rw [e]; exact hx
  · rw [e]; exact h j
theorem set_ge (l : List Int) (q : Nat) (x c : Int) (hx : c ≤ x) (h : ∀ j, c ≤ l.getD j 0) (j : Nat) : c ≤ (l.set q x).getD j 0 := by
  rcases getD_set' l q j x with e | e
  · rw [e]; exact hx
  · rw [e]; exact h j
theorem gro_and {a b c : World} {r r' : Option Nat} (h : a.grownBy b r) (k : b.grownBy c r') (hr : ∀ q, r' = some q → a.heap.size ≤ q) : a.grownBy c r :=
  ⟨k.os.trans h.os, k.tape.trans h.tape, k.output.trans h.output, Nat.le_trans h.size k.size, fun i hi hne => (k.block i (Nat.lt_of_lt_of_le hi h.size) (fun e => by have := hr i e.symm; omega)).trans (h.block i hi hne)⟩
theorem rdi_gro {a b : World} {g : Nat} {v : Value} {l : List Int} (h : RdI a v l) (k : a.grownBy b (some g)) (hne : ∀ b' off n c, v = .slice (some ⟨b', off, none⟩) n c → 0 < l.length → b' ≠ g) : RdI b v l := by
  obtain ⟨A, c, rfl, hc, hm, hr⟩ := h
  refine ⟨A, c, rfl, hc, hm, fun hl => ?_⟩
  obtain ⟨b', off, rfl, hb, hcell⟩ := hr hl
  exact ⟨b', off, rfl, Nat.lt_of_lt_of_le hb k.size, fun j u hu => (gro_cell k hb (hne _ _ _ _ rfl hl)).trans (hcell j u hu)⟩

set_option maxRecDepth 100000 in
set_option maxHeartbeats 4000000 in
theorem choose_c (n : Nat) (s : Value) (l : List St) (v : Value) (f : List Ap) (src B : Nat) (vn : Value) (need : List Int) (w : World) (hg : goodTown n l = true) (hfl : goodFl f = true) (hnd : ∀ a ∈ f, 0 ≤ a.nd ∧ a.nd ≤ (n : Int) - 1) (hs : src < n) (hne : needB need = true)
    (t0 : w.cell? ⟨B, 0, none⟩ = some (.int .i64 n)) (t1 : w.cell? ⟨B, 1, none⟩ = some s) (hr : Rd w s l.length (l.flatMap St.cells)) (hf : Rd w v f.length (f.flatMap Ap.cells)) (hvn : RdI w vn need) :
    Calls Try.prog 75 #[.pointer (some ⟨B, 0, none⟩), v, .int .i64 src, vn] w (OwnI (pickL f (readyL (distT n (arcs l) src) f) need).1 w) := by
  have hB : B < w.heap.size := World.block_lt_of_cell? w _ t0
  obtain ⟨hf12, hfg⟩ := goodFl_true hfl
  obtain ⟨hn4, hnb⟩ := needB_true hne
  have HR := Lib.hid hr
  have HF := Lib.hid hf
  have HN := Lib.hid hvn
  have HG := Lib.hid hg
  have HFL := Lib.hid hfl
  have HND := Lib.hid hnd
  have HFG := Lib.hid hfg
  have HN4 := Lib.hid hn4
  have HNB := Lib.hid hnb
  have T0 := Lib.hid t0
  have T1 := Lib.hid t1
  obtain ⟨A, c, rfl, hc, hm, hcell0⟩ := hf
  rw [maxLen_eq] at hm
  have HCELL := Lib.hid hcell0
  obtain ⟨i0', hi, hz0, hz1, hz2⟩ := info_parts Try.infoInt
  clear hr hcell0 hfl hfg hg hnd hvn hnb t0 t1 hne
  go_enter Try.func75, Try.ntmps75
  go_wp2_with fail
  refine (clone_c _ need _ HN.out (by omega)).mono ?_
  rintro e w1 ⟨v9, rfl, ho9, hb1⟩
  rw [hn4] at ho9
  obtain ⟨g, cg, rfl, hbg, hgl, hcg, hcmg⟩ := own_shape ho9 (by omega)
  have e0 := (hb1.cell (p := ⟨B, 0, none⟩) hB).trans T0.out
  have e1 := (hb1.cell (p := ⟨B, 1, none⟩) hB).trans T1.out
  have HB1 := Lib.hid hb1
  have HL1 := Lib.hid ho9
  have hs1 := hb1.size
  have E0 := Lib.hid e0
  have E1 := Lib.hid e1
  clear ho9 hb1 e0 e1
  go_wp2_with fail
  refine (readyOrder_c n s l _ f src B _ HG.out HFL.out HND.out hs E0.out E1.out (rd_below HR.out HB1.out) (rd_below HF.out HB1.out)).mono ?_
  rintro e w2 ⟨v5, rfl, ho5, hb2⟩
  have HB2 := Lib.hid (bel_then HB1.out hb2)
  have hs2 := hb2.size
  have HLW0 := Lib.hid (own_below HL1.out hb2)
  have HLO5 := Lib.hid ho5.lt
  clear hb2
  have hrl := readyL_len (distT n (arcs l) src) f
  have hlm : ∀ y ∈ readyL (distT n (arcs l) src) f, ∃ (i : Nat) (a : Ap), y = (i : Int) ∧ f[i]? = some a := fun y hy => by
    obtain ⟨i, a, h1, h2, _⟩ := readyL_mem hy
    exact ⟨i, a, h1, h2⟩
  obtain ⟨L, hL⟩ : ∃ L, readyL (distT n (arcs l) src) f = L := ⟨_, rfl⟩
  rw [hL] at ho5 hrl hlm
  have HLL := Lib.hid hL
  have HLM := Lib.hid hlm
  obtain ⟨A5, c5, rfl, hc5, hm5, hcell5⟩ := rdi_own ho5
  rw [maxLen_eq] at hm5
  have HC5 := Lib.hid hcell5
  clear ho5 hcell5 hlm hL
  go_wp2_with fail
  go_loopw [10, 20] (fun vo vi wr => ∃ (k : Nat) (S d : List Int), k ≤ L.length ∧ S.length ≤ k ∧ vi = .int .i64 k ∧ Hid (pickL f (L.take k) need = (S, d)) ∧ Hid (d.length = 4) ∧ Hid (∀ j, d.getD j 0 ≤ 6) ∧ Hid (wr.ownsRow w2.heap.size 3 1 vo S.length (ints S)) ∧ Hid (wr.ownsRow w.heap.size 3 1 (.slice (some ⟨g, 0, none⟩) 4 cg) 4 (ints d)) ∧ Hid (w2.grownBy wr (some g))) (fun _ vi _ => L.length - (intOf vi).toNat)
  case atStart => exact ⟨0, [], need, Nat.zero_le _, Nat.le_refl _, rfl, Lib.hid rfl, HN4, Lib.hid (fun j => getD_le _ _ (by omega) (fun y hy => (HNB.out y hy).2) j), Lib.hid (World.ownsRow_nil _ _ _ _), HLW0, Lib.hid (World.grownBy.refl _ _)⟩
  case round =>
    obtain ⟨k, S, d, hk, hSk, rfl, HPK, HDL, HDB, HOW, HLW, HGR⟩ := hrel
    obtain ⟨wA, rfl⟩ : ∃ wA : World, wA = wr := ⟨_, rfl⟩
    have hsA := HGR.out.size
    by_cases hlt : k < L.length
    · obtain ⟨b5, off5, rfl, hb5, hcl5⟩ := HC5.out (by omega)
      have h5 := (HLO5.out b5 rfl).1
      obtain ⟨y, hy⟩ : ∃ y, L[k]? = some y := ⟨_, List.getElem?_eq_getElem hlt⟩
      obtain ⟨i, a, rfl, ha⟩ := HLM.out y (List.mem_of_getElem? hy)
      obtain ⟨nm, kd, nd, cr, sv⟩ := a
      have hgd := goodAp_true (HFG.out _ (List.mem_of_getElem? ha))
      dsimp only at hgd
      obtain ⟨_, hkd0, hkd3, _, _, _⟩ := hgd
      obtain ⟨q, rfl⟩ := Int.eq_ofNat_of_zero_le hkd0
      have hif : i < f.length := (List.getElem?_eq_some_iff.1 ha).1
      obtain ⟨b, off, rfl, hbl, hcell⟩ := HCELL.out (by omega)
      obtain ⟨_, d1, _, _, _⟩ := ap_at hcell (bel_grown HB2.out HGR.out (fun q e => by have := Option.some.inj e; omega)) hbl ha
      dsimp only at d1
      have hkq := kdOf_at ha
      dsimp only at hkq
      rw [Int.toNat_natCast] at hkq
      have co := (gro_cell HGR.out (o := off5 + k) hb5 (by omega)).trans (hcl5 k _ (ints_get hy))
      have ca := own_cell HLW.out (show q < 4 by omega)
      have fb := HLW.out.frozenAt q
      obtain ⟨x, hx⟩ : ∃ x, d.getD q 0 = x := ⟨_, rfl⟩
      rw [hx] at ca
      have hx6 : x ≤ 6 := by rw [← hx]; exact HDB.out q
      have HST := Lib.hid (pickL_snoc (f := f) (need := need) hy)
      have HQ := Lib.hid hkq
      have HX := Lib.hid hx
      have i0 : (0 : Int) ≤ (i : Int) := by omega
      have i1 : (i : Int) < (f.length : Int) := by omega
      have q0 : (0 : Int) ≤ (q : Int) := by omega
      have q4 : (q : Int) < 4 := by omega
      have HOWS := Lib.hid (own_other HOW.out (g := g) (by omega) q (.int .i64 (x - 1)))
      have HLWS := Lib.hid (own_setI HLW.out q (x - 1))
      have HGRS := Lib.hid (only_setCell HGR.out q (.int .i64 (x - 1)))
      have hz0' : (wA.setCell ⟨g, q, none⟩ (.int .i64 (x - 1))).heap.size = wA.heap.size := by simp
      clear hcl5 hy ha hcell hkq hx hkd3
      by_cases hpos : 0 < x
      · have HYES : Hid (pickL f (L.take (k + 1)) need = (S ++ [(i : Int)], d.set q (x - 1))) := Lib.hid (by
          rw [HST.out, HPK.out]; exact pickStep_yes HQ.out HX.out hpos)
        have s3 : IntKind.i64.wrap (x - 1) = x - 1 := IntWalk.i64_in _ (by omega)
        go_wp2_with (at_builtin; refine wpList_app_rd _ rfl _ _ 56 rfl w2.heap.size 3 i0' (.int .i64 0) 1 8 Try.underlying56 hi hz0 hz1 hz2 rfl (by decide) _ _ _ rfl (HOWS.out.alloc _) _ 1 [.int .i64 i] rfl (rd_new _ hz0'.symm (Nat.le_refl _) (by rw [maxLen_eq]; omega)) rfl (ints_one [(i : Int)]) (by rw [maxLen_eq]; omega) (by omega) (by simp; omega) ?_; intro v7 w7 hown7 hgrow7 _)
        have hlo := HOW.out.lt
        refine ⟨⟨k + 1, S ++ [(i : Int)], d.set q (x - 1), by omega, by simp; omega, by go_num, HYES, Lib.hid (by rw [List.length_set]; exact HDL.out), Lib.hid (fun j => by have := HDB.out j; exact set_le _ _ _ _ (by omega) HDB.out j), Lib.hid ?_, Lib.hid ?_, Lib.hid ?_⟩, by simp [intOf]; omega⟩
        · rw [ints_append, List.length_append]; exact hown7
        · exact kept3 (HLWS.out.alloc _) hgrow7 (fun p p' e e' => by have := (hlo p' e').1; have : g = p := Option.some.inj e; omega)
        · exact gro_and (gro_al HGRS.out _) hgrow7 (fun p e => (hlo p e).1)
      · have HNO : Hid (pickL f (L.take (k + 1)) need = (S, d)) := Lib.hid (by rw [HST.out, HPK.out]; exact pickStep_no HQ.out HX.out (by omega))
        go_wp2
        exact ⟨⟨k + 1, S, d, by omega, by omega, by go_num, HNO, HDL, HDB, HOW, HLW, HGR⟩, by simp [intOf]; omega⟩
    · obtain rfl : k = L.length := by omega
      have hpk := HPK.out
      rw [List.take_length] at hpk
      have HP := Lib.hid hpk
      clear hpk
      go_wp2
      go_ret
      rw [HLL.out, HP.out]
      refine ⟨_, rfl, own_base HOW.out HB2.out.size, bel_grown HB2.out HGR.out (fun q e => by have := Option.some.inj e; omega)⟩

set_option maxRecDepth 100000 in
set_option maxHeartbeats 4000000 in
theorem missing_c (v : Value) (f : List Ap) (vo : Value) (L : List Int) (vn : Value) (need : List Int) (w : World) (hfl : goodFl f = true) (hne : needB need = true) (hlm' : ∀ y ∈ L, ∃ (i : Nat) (a : Ap), y = (i : Int) ∧ f[i]? = some a) (hl12 : L.length ≤ 12)
    (hf : Rd w v f.length (f.flatMap Ap.cells)) (hvo : RdI w vo L) (hvn : RdI w vn need) :
    Calls Try.prog 74 #[v, vo, vn] w (OwnI (missL f L need) w) := by
  obtain ⟨hf12, hfg⟩ := goodFl_true hfl
  obtain ⟨hn4, hnb⟩ := needB_true hne
  have HN := Lib.hid hvn
  have HFG := Lib.hid hfg
  have HN4 := Lib.hid hn4
  have HNB := Lib.hid hnb
  have HLM := Lib.hid hlm'
  obtain ⟨A, c, rfl, hc, hm, hcell0⟩ := hf
  rw [maxLen_eq] at hm
  have HCELL := Lib.hid hcell0
  obtain ⟨A5, c5, rfl, hc5, hm5, hcell5⟩ := hvo
  rw [maxLen_eq] at hm5
  have HC5 := Lib.hid hcell5
  clear hcell0 hfl hfg hvn hnb hne hlm' hcell5
  go_enter Try.func74, Try.ntmps74
  go_wp2_with fail
  refine (clone_c _ need _ HN.out (by omega)).mono ?_
  rintro e w2 ⟨v9, rfl, ho9, hb1⟩
  rw [hn4] at ho9
  obtain ⟨g, cg, rfl, hbg, hgl, hcg, hcmg⟩ := own_shape ho9 (by omega)
  have HB2 := Lib.hid hb1
  have HLW0 := Lib.hid ho9
  clear ho9 hb1
  go_wp2_with fail
  go_loopw [14] (fun vi wr => ∃ (k : Nat) (d : List Int), k ≤ L.length ∧ vi = .int .i64 k ∧ Hid (missL f (L.take k) need = d) ∧ Hid (d.length = 4) ∧ Hid (∀ j, -(k : Int) ≤ d.getD j 0 ∧ d.getD j 0 ≤ 6) ∧ Hid (wr.ownsRow w.heap.size 3 1 (.slice (some ⟨g, 0, none⟩) 4 cg) 4 (ints d)) ∧ Hid (w2.grownBy wr (some g))) (fun vi _ => L.length - (intOf vi).toNat)
  case atStart => exact ⟨0, need, Nat.zero_le _, rfl, Lib.hid rfl, HN4, Lib.hid (fun j => ⟨by have := getD_ge need 0 (by omega) (fun y hy => (HNB.out y hy).1) j; omega, getD_le _ _ (by omega) (fun y hy => (HNB.out y hy).2) j⟩), HLW0, Lib.hid (World.grownBy.refl _ _)⟩
  case round =>
    obtain ⟨k, d, hk, rfl, HPK, HDL, HDB, HLW, HGR⟩ := hrel
    obtain ⟨wA, rfl⟩ : ∃ wA : World, wA = wr := ⟨_, rfl⟩
    have hsA := HGR.out.size
    by_cases hlt : k < L.length
    · obtain ⟨b5, off5, rfl, hb5, hcl5⟩ := HC5.out (by omega)
      obtain ⟨y, hy⟩ : ∃ y, L[k]? = some y := ⟨_, List.getElem?_eq_getElem hlt⟩
      obtain ⟨i, a, rfl, ha⟩ := HLM.out y (List.mem_of_getElem? hy)
      obtain ⟨nm, kd, nd, cr, sv⟩ := a
      have hgd := goodAp_true (HFG.out _ (List.mem_of_getElem? ha))
      dsimp only at hgd
      obtain ⟨_, hkd0, hkd3, _, _, _⟩ := hgd
      obtain ⟨q, rfl⟩ := Int.eq_ofNat_of_zero_le hkd0
      have hif : i < f.length := (List.getElem?_eq_some_iff.1 ha).1
      obtain ⟨b, off, rfl, hbl, hcell⟩ := HCELL.out (by omega)
      have HBA : Hid (Below w.heap.size w wA) := Lib.hid (bel_grown HB2.out HGR.out (fun q e => by have := Option.some.inj e; omega))
      obtain ⟨_, d1, _, _, _⟩ := ap_at hcell HBA.out hbl ha
      dsimp only at d1
      have hkq := kdOf_at ha
      dsimp only at hkq
      rw [Int.toNat_natCast] at hkq
      have co := cell_at hcl5 HBA.out hb5 (ints_get hy)
      have ca := own_cell HLW.out (show q < 4 by omega)
      have fb := HLW.out.frozenAt q
      obtain ⟨x, hx⟩ : ∃ x, d.getD q 0 = x := ⟨_, rfl⟩
      rw [hx] at ca
      obtain ⟨hx0, hx6⟩ : -(k : Int) ≤ x ∧ x ≤ 6 := by rw [← hx]; exact HDB.out q
      have HST : Hid (missL f (L.take (k + 1)) need = d.set q (x - 1)) := Lib.hid (by rw [missL_snoc hy, HPK.out]; unfold missStep; rw [hkq, hx])
      have i0 : (0 : Int) ≤ (i : Int) := by omega
      have i1 : (i : Int) < (f.length : Int) := by omega
      have q0 : (0 : Int) ≤ (q : Int) := by omega
      have q4 : (q : Int) < 4 := by omega
      clear hcl5 hy ha hcell hkq hx hkd3
      have s3 : IntKind.i64.wrap (x - 1) = x - 1 := IntWalk.i64_in _ (by omega)
      go_wp2
      exact ⟨⟨k + 1, _, by omega, by go_num, HST, Lib.hid (by rw [List.length_set]; exact HDL.out), Lib.hid (fun j => ⟨set_ge _ _ _ _ (by omega) (fun j => by have := (HDB.out j).1; omega) j, set_le _ _ _ _ (by omega) (fun j => (HDB.out j).2) j⟩), Lib.hid (own_setI HLW.out q (x - 1)), Lib.hid (only_setCell HGR.out q _)⟩, by simp [intOf]; omega⟩
    · obtain rfl : k = L.length := by omega
      have hpk := HPK.out
      rw [List.take_length] at hpk
      have HP := Lib.hid hpk
      clear hpk
      go_wp2
      go_ret
      rw [HP.out]
      refine ⟨_, rfl, ?_, bel_grown HB2.out HGR.out (fun q e => by have := Option.some.inj e; omega)⟩
      rw [HDL.out]; exact HLW.out

def PickIs (n : Nat) (l : List St) (f : List Ap) (src : Nat) (need : List Int) (w : World) (e : Ending) (w' : World) : Prop :=
  ∃ x y z, e = .returned (.tuple #[x, y, z]) ∧ RdI w' x (pickL f (readyL (distT n (arcs l) src) f) need).1 ∧ w'.ownsRow w.heap.size 3 1 y (pickL f (readyL (distT n (arcs l) src) f) need).2.length (ints (pickL f (readyL (distT n (arcs l) src) f) need).2) ∧ RdI w' z (allT (distT n (arcs l) src) f) ∧ Below w.heap.size w w'
set_option maxRecDepth 100000 in
set_option maxHeartbeats 4000000 in
theorem dsPick_c (n : Nat) (s : Value) (l : List St) (v : Value) (f : List Ap) (src : Nat) (vn : Value) (need : List Int) (w : World) (hg : goodTown n l = true) (hfl : goodFl f = true) (hnd : ∀ a ∈ f, 0 ≤ a.nd ∧ a.nd ≤ (n : Int) - 1) (hs : src < n) (hne : needB need = true)
    (hr : Rd w s l.length (l.flatMap St.cells)) (hf : Rd w v f.length (f.flatMap Ap.cells)) (hvn : RdI w vn need) :
    Calls Try.prog 72 #[.agg #[.int .i64 n, s], v, .int .i64 src, vn] w (PickIs n l f src need w) := by
  obtain ⟨hf12, hfg⟩ := goodFl_true hfl
  obtain ⟨hn4, hnb⟩ := needB_true hne
  have HR := Lib.hid hr
  have HF := Lib.hid hf
  have HN := Lib.hid hvn
  have HG := Lib.hid hg
  have HFL := Lib.hid hfl
  have HND := Lib.hid hnd
  have HFG := Lib.hid hfg
  have HN4 := Lib.hid hn4
  have HNB := Lib.hid hnb
  obtain ⟨A, c, rfl, hc, hm, hcell0⟩ := hf
  rw [maxLen_eq] at hm
  have HCELL := Lib.hid hcell0
  obtain ⟨i0', hi, hz0, hz1, hz2⟩ := info_parts Try.infoInt
  clear hr hcell0 hfl hfg hg hnd hvn hnb hne
  go_enter Try.func72, Try.ntmps72
  go_wp2_with fail
  generalize hW : World.alloc w _ = w0
  have hb0 : Below w.heap.size w w0 := by subst hW; exact bel_al (Below.refl _ _) _
  have HB := Lib.hid hb0
  clear hW hb0
  refine (dsReady_c n s l _ f src _ HG.out HFL.out HND.out hs (rd_below HR.out HB.out) (rd_below HF.out HB.out)).mono ?_
  rintro e w1 ⟨v5, u5, rfl, hv5, hu5, hb1⟩
  have HB1 := Lib.hid (bel_then HB.out hb1)
  have HU5 := Lib.hid hu5
  clear hb1
  have hrl := readyL_len (distT n (arcs l) src) f
  have hlm : ∀ y ∈ readyL (distT n (arcs l) src) f, ∃ (i : Nat) (a : Ap), y = (i : Int) ∧ f[i]? = some a := fun y hy => by
    obtain ⟨i, a, h1, h2, _⟩ := readyL_mem hy
    exact ⟨i, a, h1, h2⟩
  obtain ⟨L, hL⟩ : ∃ L, readyL (distT n (arcs l) src) f = L := ⟨_, rfl⟩
  rw [hL] at hv5 hrl hlm
  have HLL := Lib.hid hL
  have HLM := Lib.hid hlm
  have HV5 := Lib.hid hv5
  obtain ⟨A5, c5, rfl, hc5, hm5, hcell5⟩ := hv5
  rw [maxLen_eq] at hm5
  have HC5' := Lib.hid hcell5
  clear hcell5 hlm hL hu5
  go_wp2_with fail
  refine (l1Own_c _ need _ (rd_below HN.out HB1.out) (by omega)).mono ?_
  rintro e w2 ⟨v9, rfl, ho9, hb2⟩
  rw [hn4] at ho9
  obtain ⟨g, cg, rfl, hbg, hgl, hcg, hcmg⟩ := own_shape ho9 (by omega)
  have HB2 := Lib.hid (bel_then HB1.out hb2)
  have HLW0 := Lib.hid (own_base ho9 HB1.out.size)
  have hs1 := HB1.out.size
  have hs2 := hb2.size
  have hc52 : 0 < L.length → ∃ b off, A5 = some ⟨b, off, none⟩ ∧ b < w1.heap.size ∧ ∀ j u, (ints L)[j]? = some u → w2.cell? ⟨b, off + j, none⟩ = some u := fun h => by
    obtain ⟨b, off, e, hb, hcl⟩ := HC5'.out h
    exact ⟨b, off, e, hb, fun j u hu => (hb2.cell (p := ⟨b, off + j, none⟩) hb).trans (hcl j u hu)⟩
  have HC5 := Lib.hid hc52
  have HZ := Lib.hid (rd_below HU5.out hb2)
  have HZB : Hid (∀ b' off' n' c', u5 = .slice (some ⟨b', off', none⟩) n' c' → 0 < (allT (distT n (arcs l) src) f).length → b' ≠ g) := Lib.hid (fun b' off' n' c' e hl => by
    obtain ⟨A6, c6, rfl, _, _, h6⟩ := HU5.out
    obtain ⟨b6, off6, rfl, hb6, _⟩ := h6 hl
    cases e
    omega)
  clear ho9 hb2 hc52
  go_wp2_with fail
  go_loopw [14, 28] (fun vo vi wr => ∃ (k : Nat) (S d : List Int), k ≤ L.length ∧ S.length ≤ k ∧ vi = .int .i64 k ∧ Hid (pickL f (L.take k) need = (S, d)) ∧ Hid (d.length = 4) ∧ Hid (∀ j, d.getD j 0 ≤ 6) ∧ Hid (wr.ownsRow w2.heap.size 3 1 vo S.length (ints S)) ∧ Hid (wr.ownsRow w.heap.size 3 1 (.slice (some ⟨g, 0, none⟩) 4 cg) 4 (ints d)) ∧ Hid (w2.grownBy wr (some g))) (fun _ vi _ => L.length - (intOf vi).toNat)
  case atStart => exact ⟨0, [], need, Nat.zero_le _, Nat.le_refl _, rfl, Lib.hid rfl, HN4, Lib.hid (fun j => getD_le _ _ (by omega) (fun y hy => (HNB.out y hy).2) j), Lib.hid (World.ownsRow_nil _ _ _ _), HLW0, Lib.hid (World.grownBy.refl _ _)⟩
  case round =>
    obtain ⟨k, S, d, hk, hSk, rfl, HPK, HDL, HDB, HOW, HLW, HGR⟩ := hrel
    obtain ⟨wA, rfl⟩ : ∃ wA : World, wA = wr := ⟨_, rfl⟩
    have hsA := HGR.out.size
    by_cases hlt : k < L.length
    · obtain ⟨b5, off5, rfl, hb5, hcl5⟩ := HC5.out (by omega)
      have hb5 : b5 < w2.heap.size := by omega
      obtain ⟨y, hy⟩ : ∃ y, L[k]? = some y := ⟨_, List.getElem?_eq_getElem hlt⟩
      obtain ⟨i, a, rfl, ha⟩ := HLM.out y (List.mem_of_getElem? hy)
      obtain ⟨nm, kd, nd, cr, sv⟩ := a
      have hgd := goodAp_true (HFG.out _ (List.mem_of_getElem? ha))
      dsimp only at hgd
      obtain ⟨_, hkd0, hkd3, _, _, _⟩ := hgd
      obtain ⟨q, rfl⟩ := Int.eq_ofNat_of_zero_le hkd0
      have hif : i < f.length := (List.getElem?_eq_some_iff.1 ha).1
      obtain ⟨b, off, rfl, hbl, hcell⟩ := HCELL.out (by omega)
      obtain ⟨_, d1, _, _, _⟩ := ap_at hcell (bel_grown HB2.out HGR.out (fun q e => by have := Option.some.inj e; omega)) hbl ha
      dsimp only at d1
      have hkq := kdOf_at ha
      dsimp only at hkq
      rw [Int.toNat_natCast] at hkq
      have co := (gro_cell HGR.out (o := off5 + k) hb5 (by omega)).trans (hcl5 k _ (ints_get hy))
      have ca := own_cell HLW.out (show q < 4 by omega)
      have fb := HLW.out.frozenAt q
      obtain ⟨x, hx⟩ : ∃ x, d.getD q 0 = x := ⟨_, rfl⟩
      rw [hx] at ca
      have hx6 : x ≤ 6 := by rw [← hx]; exact HDB.out q
      have HST := Lib.hid (pickL_snoc (f := f) (need := need) hy)
      have HQ := Lib.hid hkq
      have HX := Lib.hid hx
      have i0 : (0 : Int) ≤ (i : Int) := by omega
      have i1 : (i : Int) < (f.length : Int) := by omega
      have q0 : (0 : Int) ≤ (q : Int) := by omega
      have q4 : (q : Int) < 4 := by omega
      have HOWS := Lib.hid (own_other HOW.out (g := g) (by omega) q (.int .i64 (x - 1)))
      have HLWS := Lib.hid (own_setI HLW.out q (x - 1))
      have HGRS := Lib.hid (only_setCell HGR.out q (.int .i64 (x - 1)))
      have hz0' : (wA.setCell ⟨g, q, none⟩ (.int .i64 (x - 1))).heap.size = wA.heap.size := by simp
      clear hcl5 hy ha hcell hkq hx hkd3
      by_cases hpos : 0 < x
      · have HYES : Hid (pickL f (L.take (k + 1)) need = (S ++ [(i : Int)], d.set q (x - 1))) := Lib.hid (by
          rw [HST.out, HPK.out]; exact pickStep_yes HQ.out HX.out hpos)
        have s3 : IntKind.i64.wrap (x - 1) = x - 1 := IntWalk.i64_in _ (by omega)
        go_wp2_with (at_builtin; refine wpList_app_rd _ rfl _ _ 56 rfl w2.heap.size 3 i0' (.int .i64 0) 1 8 Try.underlying56 hi hz0 hz1 hz2 rfl (by decide) _ _ _ rfl (HOWS.out.alloc _) _ 1 [.int .i64 i] rfl (rd_new _ hz0'.symm (Nat.le_refl _) (by rw [maxLen_eq]; omega)) rfl (ints_one [(i : Int)]) (by rw [maxLen_eq]; omega) (by omega) (by simp; omega) ?_; intro v7 w7 hown7 hgrow7 _)
        have hlo := HOW.out.lt
        refine ⟨⟨k + 1, S ++ [(i : Int)], d.set q (x - 1), by omega, by simp; omega, by go_num, HYES, Lib.hid (by rw [List.length_set]; exact HDL.out), Lib.hid (fun j => by have := HDB.out j; exact set_le _ _ _ _ (by omega) HDB.out j), Lib.hid ?_, Lib.hid ?_, Lib.hid ?_⟩, by simp [intOf]; omega⟩
        · rw [ints_append, List.length_append]; exact hown7
        · exact kept3 (HLWS.out.alloc _) hgrow7 (fun p p' e e' => by have := (hlo p' e').1; have : g = p := Option.some.inj e; omega)
        · exact gro_and (gro_al HGRS.out _) hgrow7 (fun p e => (hlo p e).1)
      · have HNO : Hid (pickL f (L.take (k + 1)) need = (S, d)) := Lib.hid (by rw [HST.out, HPK.out]; exact pickStep_no HQ.out HX.out (by omega))
        go_wp2
        exact ⟨⟨k + 1, S, d, by omega, by omega, by go_num, HNO, HDL, HDB, HOW, HLW, HGR⟩, by simp [intOf]; omega⟩
    · obtain rfl : k = L.length := by omega
      have hpk := HPK.out
      rw [List.take_length] at hpk
      have HP := Lib.hid hpk
      clear hpk
      go_wp2
      go_ret3
      have hzz : RdI wA u5 (allT (distT n (arcs l) src) f) := rdi_gro HZ.out HGR.out (fun b' off' n' c' e hl => HZB.out b' off' n' c' e hl)
      refine ⟨_, _, _, rfl, ?_, ?_, hzz, bel_grown HB2.out HGR.out (fun q e => by have := Option.some.inj e; omega)⟩
      · rw [HLL.out, HP.out]; exact rdi_own HOW.out
      · rw [HLL.out, HP.out]; dsimp only; rw [HDL.out]; exact HLW.out
end Go.Proofs.Ytcpchdbhpcebeaa
