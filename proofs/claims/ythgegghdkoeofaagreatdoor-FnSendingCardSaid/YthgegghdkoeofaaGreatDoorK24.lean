/-
  SendChoice: what is sent, for the walk of impl.sendChoice. impl.sendChoice. spec.dsSend: the fleet with those of a list called, and their names. FnChoices: the plain laws: a choice is a best one, it and what is missing make up the need, and no one that is nearer is left out. SendChoice: both sides (printed by gen_send.py). FnSending: the plain laws: the fleet that is sent is valid, those who are sent are called, the time of attendance is the last one's, served nodes have what is needed in time. FnChoices: the callees' contracts: lists of choices compared, sums, an appliance found, a travel time. (joined by pack.py: SendI SendW SendS ChoiLaw Send SndLaw ChoiC)
-/
import Derived.Test.YthgegghdkoeofaaGreatDoorK20
import Derived.Test.YthgegghdkoeofaaGreatDoorK21
import Derived.Test.YthgegghdkoeofaaGreatDoorK3
import Derived.Test.YthgegghdkoeofaaGreatDoorK23
import Derived.Test.YthgegghdkoeofaaGreatDoorK9
import Derived.WalkSpells
import Derived.Test.YthgegghdkoeofaaGreatDoorK18
import Derived.Test.YthgegghdkoeofaaGreatDoorK12
import Derived.Test.YthgegghdkoeofaaGreatDoorK16
import Derived.BigQuiet
namespace Go.Proofs.YthgegghdkoeofaaGreatDoor
set_option linter.unusedVariables false
set_option linter.unusedSimpArgs false
open Go.RowKit

def namesI (f : List Ap) (S : List Int) : List ByteArray := S.map (nmI f)
theorem namesI_snoc {f : List Ap} {S : List Int} {k : Nat} {y : Int} (h : S[k]? = some y) : namesI f (S.take (k + 1)) = namesI f (S.take k) ++ [nmI f y] := by unfold namesI; rw [take_succ_of h, List.map_append]; rfl
theorem namesI_len (f : List Ap) (S : List Int) : (namesI f S).length = S.length := by simp [namesI]
theorem strs_snoc (a : List ByteArray) (x : ByteArray) : strs (a ++ [x]) = strs a ++ [.string x] := by simp [strs]
theorem sendF_nm {f : List Ap} {S : List Int} {i : Nat} {a : Ap} (h : f[i]? = some a) : ∃ b, (sendF f S)[i]? = some b ∧ b.nm = a.nm ∧ b.nd = a.nd ∧ b.kd = a.kd := by
  rw [sendF_get, h]
  refine ⟨_, rfl, ?_⟩
  dsimp only
  split <;> exact ⟨rfl, rfl, rfl⟩
theorem sendF_congr {f : List Ap} {S T : List Int} (h : ∀ x, x ∈ S ↔ x ∈ T) : sendF f S = sendF f T := by
  unfold sendF
  simp only [h]
/-- What is sent: the fleet and the names, both of the call's own. -/
def Own2 (F : List Ap) (q : List ByteArray) (b : Bool) (w : World) (e : Ending) (w' : World) : Prop :=
  ∃ x y, e = .returned (.tuple #[x, y, .bool b]) ∧ w'.ownsRow w.heap.size 35 5 x F.length (F.flatMap Ap.cells) ∧ w'.ownsRow w.heap.size 9 1 y q.length (strs q) ∧ Sep x y ∧ Below w.heap.size w w'
end Go.Proofs.YthgegghdkoeofaaGreatDoor

namespace Go.Proofs.YthgegghdkoeofaaGreatDoor
set_option linter.unusedVariables false
set_option linter.unusedSimpArgs false
open Go.RowKit

theorem readyL_nodup2 (ev : List Int) (f : List Ap) : (readyL ev f).Nodup := by
  unfold readyL
  rw [(isort_perm _ _).nodup_iff]
  unfold selD
  exact nodup_map_of _ _ (nodup_filter _ List.nodup_range) (fun (x : Nat) _ (y : Nat) _ e => by have h : (x : Int) = (y : Int) := e; omega)
theorem own_down {w : World} {base base' : Nat} {e : TypeId} {sz : Nat} {v : Value} {n : Nat} {xs : List Value} (h : w.ownsRow base e sz v n xs) (hb : base' ≤ base) : w.ownsRow base' e sz v n xs := by
  refine ⟨h.1, h.2.imp id ?_⟩
  rintro ⟨g, cap, cur, e1, h1, r⟩
  exact ⟨g, cap, cur, e1, Nat.le_trans hb h1, r⟩
theorem miss_len4 (f : List Ap) : ∀ (L d : List Int), (missL f L d).length = d.length := by
  intro L
  induction L with
  | nil => intro d; rfl
  | cons i L ih => intro d; unfold missL; rw [List.foldl_cons]; have := ih (missStep f d i); unfold missL at this; rw [this]; unfold missStep; simp
theorem sortO_c (v : Value) (P : List Int) (base : Nat) (w : World) (ho : w.ownsRow base 3 1 v P.length (ints P)) (hn : P.length < 4611686018427387904) :
    Calls Tryz.prog 136 #[v] w fun e w' => e = .returned (.tuple #[]) ∧ w'.ownsRow base 3 1 v P.length (ints (P.mergeSort fun x y => decide (x ≤ y))) ∧ w.grownBy w' v.ownBlock := by
  by_cases hp : 0 < P.length
  · exact sort_c v P base w ho hp hn
  · obtain rfl : P = [] := List.eq_nil_of_length_eq_zero (by omega)
    obtain ⟨A, c, rfl, _⟩ := own_rd ho
    refine (sort0_c A c w).mono ?_
    rintro e w' ⟨rfl, rfl⟩
    exact ⟨rfl, by simpa using ho, World.grownBy.refl _ _⟩
set_option maxRecDepth 100000 in
set_option maxHeartbeats 4000000 in
/-- The loop behind the sort: the states set, the names gathered. -/
theorem sendChoiceW_c (N : Nat) (s : Value) (l : List St) (v : Value) (f : List Ap) (src B : Nat) (vn : Value) (need : List Int) (w : World) (hg : goodTown N l = true) (hfl : goodFl f = true) (hnd : ∀ a ∈ f, 0 ≤ a.nd ∧ a.nd ≤ (N : Int) - 1) (hs : src < N) (hne : needB need = true)
    (t0 : w.cell? ⟨B, 0, none⟩ = some (.int .i64 N)) (t1 : w.cell? ⟨B, 1, none⟩ = some s) (hr : Rd w s l.length (l.flatMap St.cells)) (hf : Rd w v f.length (f.flatMap Ap.cells)) (hvn : RdI w vn need) (ev P : List Int) (hev : distT N (arcs l) src = ev) (hP : (pickL f (readyL ev f) need).1 = P) :
    Calls Tryz.prog 90 #[.pointer (some ⟨B, 0, none⟩), v, .int .i64 src, vn] w
      (if 0 < maxL (missL f P need) then Own2 [] [] false w else Own2 (sendF f P) (namesI f (selD (fun i => decide ((i : Int) ∈ P)) f.length)) true w) := by
  have HR := Lib.hid hr
  have HF := Lib.hid hf
  obtain ⟨A, cA, rfl, hcA, hmA, hcellA⟩ := hf
  rw [maxLen_eq] at hmA
  have HCELL := Lib.hid hcellA
  have HN := Lib.hid hvn
  have HGT := Lib.hid hg
  have HGF := Lib.hid hfl
  have HND := Lib.hid hnd
  have HNE := Lib.hid hne
  have T0 := Lib.hid t0
  have T1 := Lib.hid t1
  obtain ⟨hm5, hl5⟩ := readyTimes_mem (ev := ev) hfl
  obtain ⟨hpm, hpl⟩ := pick_mem f (fun y => ∃ (i : Nat) (a : Ap), y = (i : Int) ∧ f[i]? = some a) (readyL ev f) need hm5
  rw [hP] at hpm hpl
  have HPM := Lib.hid hpm
  have hp12 : P.length ≤ 12 := by omega
  have HPN : Hid P.Nodup := Lib.hid (by rw [← hP]; exact pick_nodup f need (readyL_nodup2 ev f))
  have HPI : Hid (∀ y ∈ P, ∃ i : Nat, y = (i : Int) ∧ i < f.length) := Lib.hid (fun y hy => by
    obtain ⟨i, a, e, ha⟩ := hpm y hy
    exact ⟨i, e, (List.getElem?_eq_some_iff.1 ha).1⟩)
  have hf12 := (goodFl_true hfl).1
  have HPE : Hid ((pickL f (readyL (distT N (arcs l) src) f) need).1 = P) := Lib.hid (by rw [hev]; exact hP)
  clear hr hcellA hvn hg hfl hnd hne t0 t1 hpm hm5 hpl hev hP
  go_enter Tryz.func90, Tryz.ntmps90
  go_wp2_with fail
  refine (choose_c N s l _ f src B _ need _ HGT.out HGF.out HND.out hs HNE.out T0.out T1.out HR.out HF.out HN.out).mono ?_
  rintro e w1 ⟨vo, rfl, ho, hb1⟩
  rw [HPE.out] at ho
  have HB1 := Lib.hid hb1
  have HO := Lib.hid ho
  clear hb1 ho
  go_wp2_with fail
  refine (missing_c _ f _ P _ need _ HGF.out HNE.out HPM.out hp12 (rd_below HF.out HB1.out) (rdi_own HO.out) (rd_below HN.out HB1.out)).mono ?_
  rintro e w2 ⟨vm, rfl, hm, hb2⟩
  have HB2 := Lib.hid (bel_then HB1.out hb2)
  have HO2 := Lib.hid (own_below HO.out hb2)
  have HM := Lib.hid hm
  clear hb2 hm
  go_wp2_with fail
  refine (max_c _ (missL f P need) _ (rdi_own HM.out) (by rw [miss_len4, (needB_true HNE.out).1]; omega)).mono ?_; rintro e w3 ⟨rfl, rfl⟩
  obtain ⟨mx, hmx⟩ : ∃ mx, maxL (missL f P need) = mx := ⟨_, rfl⟩
  rw [hmx]
  by_cases hpos : 0 < mx
  · have HPOS := Lib.hid hpos
    go_wp2
    go_ret3
    exact ⟨_, _, rfl, World.ownsRow_nil _ _ _ _, World.ownsRow_nil _ _ _ _, (by intro q q' h; cases h), HB2.out⟩
  · have hle : mx ≤ 0 := by omega
    have HLE : Hid (¬ 0 < maxL (missL f P need)) := Lib.hid (by rw [hmx]; exact hpos)
    clear hpos hmx
    go_wp2_with fail
    refine (sortO_c _ P _ _ HO2.out (by omega)).mono ?_
    rintro e w4 ⟨rfl, hs4, hg4⟩
    rw [sort_eq HPN.out HPI.out] at hs4
    have HB4 : Hid (Below w.heap.size w w4) := Lib.hid (bel_grown HB2.out hg4 (fun q e => (HO2.out.lt q e).1))
    obtain ⟨S, hS⟩ : ∃ S, selD (fun i => decide ((i : Int) ∈ P)) f.length = S := ⟨_, rfl⟩
    have hPS : P.length = S.length := by
      have := hs4.1
      rw [ints_len, hS] at this
      omega
    rw [hS, hPS] at hs4
    have hS12 : S.length ≤ 12 := by omega
    have HSE := Lib.hid hS
    have HS4 := Lib.hid hs4
    have hs42 := hg4.size
    obtain ⟨AS, cS, rfl, hcS, hmS, hclS⟩ := rdi_own hs4
    rw [maxLen_eq] at hmS
    have HCS := Lib.hid hclS
    have HSM : Hid (∀ y ∈ S, ∃ (i : Nat) (a : Ap), y = (i : Int) ∧ f[i]? = some a) := Lib.hid (fun y hy => by
      rw [← hS] at hy
      obtain ⟨i, rfl, hi, _⟩ := selD_mem hy
      exact ⟨i, _, rfl, List.getElem?_eq_getElem hi⟩)
    clear hs4 hg4 hclS hS hPS
    go_wp2_with fail
    refine (cloneA_c _ f _ (rd_below HF.out HB4.out) (by omega)).mono ?_
    rintro e w5 ⟨vc, rfl, hc, hb5⟩
    have hs45 := hb5.size
    have hw4 := HB4.out.size
    have HC5 : Hid (w5.ownsRow w4.heap.size 35 5 vc f.length ((sendF f (S.take 0)).flatMap Ap.cells)) := Lib.hid (by rw [List.take_zero, sendF_nil]; exact hc)
    have HB5 := Lib.hid hb5
    obtain ⟨i0', hi, hz0, hz1, hz2⟩ := info_parts Tryz.infoStr
    clear hb5 hc
    go_wp2_with fail
    go_loopw [13, 33] (fun vo vi wr => ∃ (k : Nat) (q : List ByteArray), k ≤ S.length ∧ q.length = k ∧ vi = .int .i64 k ∧ w5.heap.size ≤ wr.heap.size ∧ Hid (namesI f (S.take k) = q) ∧ Hid (wr.ownsRow w4.heap.size 35 5 vc f.length ((sendF f (S.take k)).flatMap Ap.cells)) ∧ Hid (wr.ownsRow w5.heap.size 9 1 vo k (strs q)) ∧ Hid (Below w4.heap.size w4 wr)) (fun _ vi _ => S.length - (intOf vi).toNat)
    case atStart => exact ⟨0, [], Nat.zero_le _, rfl, rfl, Nat.le_refl _, Lib.hid rfl, HC5, Lib.hid (World.ownsRow_nil _ _ _ _), HB5⟩
    case round =>
      obtain ⟨k, q, hk, hqk, rfl, hsw, HQ, HC, HNM, HBL⟩ := hrel
      have HQK := Lib.hid hqk
      obtain ⟨wA, rfl⟩ : ∃ wA : World, wA = wr := ⟨_, rfl⟩
      by_cases hlt : k < S.length
      · obtain ⟨bS, offS, rfl, hbS, hcS'⟩ := HCS.out (by omega)
        obtain ⟨y, hy⟩ : ∃ y, S[k]? = some y := ⟨_, List.getElem?_eq_getElem hlt⟩
        obtain ⟨i, a, rfl, ha⟩ := HSM.out y (List.mem_of_getElem? hy)
        have hif : i < f.length := (List.getElem?_eq_some_iff.1 ha).1
        have co := cell_at hcS' HBL.out hbS (ints_get hy)
        obtain ⟨b0, hb0, hb1, _, _⟩ := sendF_nm (S := S.take k) ha
        obtain ⟨gc, cc, rfl, hgc, hgcA, _, _⟩ := own_shape HC.out (by omega)
        have hgc5 : gc < w5.heap.size := (HC5.out.lt gc rfl).2
        have c4 := (HC.out.cellAt (i * 5 + 4) (by omega)).trans (flat_get Ap.cells_len _ i b0 hb0 4 (by omega))
        have f4 := HC.out.frozenAt (i * 5 + 4)
        have hnm := nmI_at ha
        have HSN : Hid (namesI f (S.take (k + 1)) = q ++ [a.nm]) := Lib.hid (by rw [namesI_snoc hy, HQ.out, hnm])
        have HST : Hid ((wA.setCell ⟨gc, i * 5 + 4, none⟩ (.int .i64 1)).ownsRow w4.heap.size 35 5 (.slice (some ⟨gc, 0, none⟩) f.length cc) f.length ((sendF f (S.take (k + 1))).flatMap Ap.cells)) := Lib.hid (by
          have h1 := (HC.out.stored (i * 5 + 4) (.int .i64 1)).1
          rw [put_state hb0] at h1
          have h2 : (sendF f (S.take k)).set i (callA b0) = sendF f (S.take (k + 1)) := by rw [sendF_snoc hb0, take_succ_of hy]
          rw [h2] at h1
          exact h1)
        obtain ⟨b, off, rfl, hbl, hcell⟩ : ∃ b off, A = some ⟨b, off, none⟩ ∧ b < w.heap.size ∧ ∀ j u, (f.flatMap Ap.cells)[j]? = some u → w.cell? ⟨b, off + j, none⟩ = some u := HCELL.out (by omega)
        obtain ⟨nm, kd, nd, cr, sv⟩ := a
        obtain ⟨d0, _, _, _, _⟩ := ap_at hcell (bel_then HB4.out HBL.out) hbl ha
        dsimp only at d0
        have d9 : (wA.setCell ⟨gc, i * 5 + 4, none⟩ (.int .i64 1)).cell? ⟨b, off + i * 5, none⟩ = some (.string nm) := (gro_cell (only_setCell (World.grownBy.refl wA (some gc)) (i * 5 + 4) _) (by show b < _; omega) (by omega)).trans d0
        have HNS := Lib.hid (own_other HNM.out (g := gc) hgc5 (i * 5 + 4) (.int .i64 1))
        have HBS := Lib.hid (Below.setCell (p := ⟨gc, i * 5 + 4, none⟩) HBL.out hgc (.int .i64 1))
        have i0 : (0 : Int) ≤ (i : Int) := by omega
        have i1 : (i : Int) < (f.length : Int) := by omega
        have hz0' : (wA.setCell ⟨gc, i * 5 + 4, none⟩ (.int .i64 1)).heap.size = wA.heap.size := by simp
        clear hcS' hy ha hb0 hcell hnm hqk
        go_upto_region 11 with fail
        obtain ⟨wB, hwB⟩ : ∃ wB, wA.setCell ⟨gc, i * 5 + 4, none⟩ (.int .i64 1) = wB := ⟨_, rfl⟩
        rw [hwB] at HST d9 HNS HBS hz0'
        rw [hwB]
        clear hwB
        go_wp2_with (at_builtin; go_must (refine wpList_app_rd _ rfl _ _ 51 rfl w5.heap.size 9 i0' (.string ⟨#[]⟩) 1 16 Tryz.underlying51 hi hz0 hz1 hz2 rfl (by decide) _ _ _ rfl (HNS.out.alloc _) _ 1 [.string nm] rfl (rd_new _ hz0'.symm (Nat.le_refl _) (by rw [maxLen_eq]; omega)) rfl (by intro u hu; simp at hu; rcases hu with rfl; rfl) (by rw [maxLen_eq]; omega) (by omega) (by simp; omega) ?_); intro v7 w7 hown7 hgrow7 _)
        have hg7 : (wB.alloc (.cells #[.string nm] 9)).grownBy w7 u13.ownBlock := hgrow7
        have hsz7 := hg7.size
        have hszA : (wB.alloc (.cells #[.string nm] 9)).heap.size = wB.heap.size + 1 := by simp
        have HN7 : Hid (w7.ownsRow w5.heap.size 9 1 v7 (k + 1) (strs (q ++ [nm]))) := Lib.hid (by rw [strs_snoc]; exact hown7)
        refine ⟨⟨k + 1, q ++ [nm], hlt, by simp [HQK.out], by simp, by omega, HSN, ?_, HN7, ?_⟩, by simp [intOf]; omega⟩
        · refine Lib.hid ((HST.out.alloc _).kept hg7 (.inr (fun e => ?_)))
          have h1 : (some gc : Option Nat) = u13.ownBlock := e
          have := (HNS.out.lt gc h1.symm).1
          omega
        · exact Lib.hid (bel_grown (bel_al HBS.out _) hg7 (fun g e => by have := (HNS.out.lt g e).1; omega))
      · obtain rfl : k = S.length := by omega
        have hmem : ∀ x, x ∈ S ↔ x ∈ P := by
          intro x
          rw [← HSE.out]
          unfold selD
          constructor
          · intro hx
            obtain ⟨i, hi, rfl⟩ := List.mem_map.1 hx
            have := (List.mem_filter.1 hi).2
            exact of_decide_eq_true this
          · intro hx
            obtain ⟨i, rfl, hi⟩ := HPI.out x hx
            exact List.mem_map.2 ⟨i, List.mem_filter.2 ⟨List.mem_range.2 hi, decide_eq_true hx⟩, rfl⟩
        have hHC := HC.out
        have hHQ := HQ.out
        rw [List.take_length] at hHC hHQ
        rw [sendF_congr hmem] at hHC
        have hHN := HNM.out
        rw [← hqk] at hHN
        clear hlt hmem hk hqk
        go_wp2_with fail
        · exfalso; have := HLE.out; omega
        · rw [HSE.out, hHQ]
          go_ret3
          refine ⟨_, _, rfl, (by rw [sendF_len]; exact own_down hHC hw4), own_down hHN (by omega), ?_, bel_then HB4.out HBL.out⟩
          intro q1 q2 h1 h2
          have h3 := (HNM.out.lt q2 h2).1
          have h4 := (HC5.out.lt q1 h1).2
          omega
end Go.Proofs.YthgegghdkoeofaaGreatDoor

namespace Go.Proofs.YthgegghdkoeofaaGreatDoor
set_option linter.unusedVariables false
set_option linter.unusedSimpArgs false
open Go.RowKit

theorem put_ap {F : List Ap} {i : Nat} {a b : Ap} (h : F[i]? = some b) : putAt (F.flatMap Ap.cells) (i * 5) a.cells = (F.set i a).flatMap Ap.cells := by
  have hi := (List.getElem?_eq_some_iff.1 h).1
  have ha := (List.getElem?_eq_some_iff.1 h).2
  have hd : F = F.take i ++ (b :: F.drop (i + 1)) := by rw [← ha, ← List.drop_eq_getElem_cons hi, List.take_append_drop]
  have hl : (F.take i).length = i := by rw [List.length_take]; omega
  have h2 : F.set i a = F.take i ++ (a :: F.drop (i + 1)) := by
    conv => lhs; rw [hd]
    rw [List.set_append_right _ _ (by omega), hl, Nat.sub_self]; rfl
  rw [h2]
  conv => lhs; rw [hd]
  rw [List.flatMap_append, List.flatMap_append, List.flatMap_cons, List.flatMap_cons]
  exact putAt_block _ _ _ _ (by rw [Ap.cells_len, Ap.cells_len]) _ (by rw [len_flat Ap.cells_len, hl])
/-- The fleet and the names, both of the call's own (two results). -/
def Own2p (F : List Ap) (q : List ByteArray) (w : World) (e : Ending) (w' : World) : Prop :=
  ∃ x y, e = .returned (.tuple #[x, y]) ∧ w'.ownsRow w.heap.size 35 5 x F.length (F.flatMap Ap.cells) ∧ w'.ownsRow w.heap.size 9 1 y q.length (strs q) ∧ Sep x y ∧ Below w.heap.size w w'
set_option maxRecDepth 100000 in
set_option maxHeartbeats 600000 in
theorem dsSend_c (v : Value) (f : List Ap) (vp : Value) (P : List Int) (w : World) (hf12 : f.length ≤ 12) (hP : ∀ y ∈ P, ∃ i : Nat, y = (i : Int) ∧ i < f.length) (hf : Rd w v f.length (f.flatMap Ap.cells)) (hp : RdI w vp P) :
    Calls Tryz.prog 92 #[v, vp] w (Own2p (sendF f P) (namesI f (selD (fun i => decide ((i : Int) ∈ P)) f.length)) w) := by
  have HR := Lib.hid hf
  have HPR := Lib.hid hp
  have HPI := Lib.hid hP
  obtain ⟨A, cA, rfl, hcA, hmA, hcellA⟩ := hf
  rw [maxLen_eq] at hmA
  have HCELL := Lib.hid hcellA
  clear hcellA hp hP
  obtain ⟨i0, hi, hz0, hz1, hz2⟩ := info_parts Tryz.infoAp
  obtain ⟨j0, hj, hj0, hj1, hj2⟩ := info_parts Tryz.infoStr
  go_enter Tryz.func92, Tryz.ntmps92
  go_wp2_with (at_builtin; go_must (refine wpList_app_rd _ rfl _ _ 24 rfl w.heap.size 35 i0 _ 5 48 Tryz.underlying24 hi hz0 hz1 hz2 rfl (by decide) _ _ _ rfl (World.ownsRow_made (size := 5) w #[] 0 (Nat.le_refl _) (Nat.zero_le _) rfl) _ f.length (f.flatMap Ap.cells) rfl (rd_below HR.out (bel_al (Below.refl _ _) _)) (by rw [len_flat Ap.cells_len]) (ap_one f) (by rw [maxLen_eq]; omega) (by omega) (by simp) ?_); intro vc w5 hown' hgrow _)
  have hg5 := hgrow.size
  have hB5 : Below w.heap.size w w5 := bel_grown (bel_al (Below.refl _ _) _) hgrow (fun q e => by
    have h : w.heap.size = q := Option.some.inj e
    omega)
  have hC5 : w5.ownsRow w.heap.size 35 5 vc f.length (f.flatMap Ap.cells) := by simpa using hown'
  have HC5 : Hid (w5.ownsRow w.heap.size 35 5 vc f.length ((sendF f (selD (fun i => decide ((i : Int) ∈ P)) 0)).flatMap Ap.cells)) := Lib.hid (by
    have e : selD (fun i => decide ((i : Int) ∈ P)) 0 = [] := rfl
    rw [e, sendF_nil]; exact hC5)
  have HB5 := Lib.hid hB5
  have hw5 := hB5.size
  clear hown' hgrow hg5 hB5 hC5
  go_wp2_with fail
  go_loopw [7, 15] (fun vo vi wr => ∃ (k : Nat) (q : List ByteArray), k ≤ f.length ∧ q.length = (selD (fun i => decide ((i : Int) ∈ P)) k).length ∧ vi = .int .i64 k ∧ w5.heap.size ≤ wr.heap.size ∧ Hid (namesI f (selD (fun i => decide ((i : Int) ∈ P)) k) = q) ∧ Hid (wr.ownsRow w.heap.size 35 5 vc f.length ((sendF f (selD (fun i => decide ((i : Int) ∈ P)) k)).flatMap Ap.cells)) ∧ Hid (wr.ownsRow w5.heap.size 9 1 vo q.length (strs q)) ∧ Hid (Below w.heap.size w wr)) (fun _ vi _ => f.length - (intOf vi).toNat)
  case atStart => exact ⟨0, [], Nat.zero_le _, rfl, rfl, Nat.le_refl _, Lib.hid rfl, HC5, Lib.hid (World.ownsRow_nil _ _ _ _), HB5⟩
  case round =>
    obtain ⟨k, q, hk, hqk, rfl, hsw, HQ, HC, HNM, HBL⟩ := hrel
    obtain ⟨wA, rfl⟩ : ∃ wA : World, wA = wr := ⟨_, rfl⟩
    by_cases hlt : k < f.length
    · obtain ⟨b, off, rfl, hbl, hcell⟩ : ∃ b off, A = some ⟨b, off, none⟩ ∧ b < w.heap.size ∧ ∀ j u, (f.flatMap Ap.cells)[j]? = some u → w.cell? ⟨b, off + j, none⟩ = some u := HCELL.out (by omega)
      obtain ⟨a, ha⟩ : ∃ a, f[k]? = some a := ⟨_, List.getElem?_eq_getElem hlt⟩
      obtain ⟨nm, kd, nd, cr, sv⟩ := a
      obtain ⟨d0, d1, d2, d3, d4⟩ := ap_at hcell HBL.out hbl ha
      dsimp only at d0 d1 d2 d3 d4
      have HA := Lib.hid ha
      clear hcell ha
      have hP1 : wA.heap.size < (wA.alloc (.cells #[.string nm, .int .i64 kd, .int .i64 nd, .int .i64 cr, .int .i64 sv] 35)).heap.size := by simp
      have HPA := rdi_below HPR.out (bel_al HBL.out (.cells #[.string nm, .int .i64 kd, .int .i64 nd, .int .i64 cr, .int .i64 sv] 35))
      obtain ⟨gc, cc, rfl, hgc, hgcA, _, _⟩ := own_shape HC.out (by omega)
      have hgc5 : gc < w5.heap.size := (HC5.out.lt gc rfl).2
      go_upto_region 6 with fail
      by_cases hin : (k : Int) ∈ P
      · have hd : decide ((k : Int) ∈ P) = true := decide_eq_true hin
        have HD := Lib.hid hd
        go_upto_region 7 with (go_at_call 119; go_must (refine (l1Has_c _ (k : Int) P _ HPA).mono ?_); rw [HD.out]; rintro e w2 ⟨rfl, rfl⟩)
        go_upto_region 8 with fail
        have hC8 := HC.out.alloc (.cells #[.string nm, .int .i64 kd, .int .i64 nd, .int .i64 cr, .int .i64 1] 35)
        have hN8 := HNM.out.alloc (.cells #[.string nm, .int .i64 kd, .int .i64 nd, .int .i64 cr, .int .i64 1] 35)
        have hB8 := bel_al HBL.out (.cells #[.string nm, .int .i64 kd, .int .i64 nd, .int .i64 cr, .int .i64 1] 35)
        have hs8 : (wA.alloc (.cells #[.string nm, .int .i64 kd, .int .i64 nd, .int .i64 cr, .int .i64 1] 35)).heap.size = wA.heap.size + 1 := by simp
        obtain ⟨Z, hZ⟩ : ∃ Z, wA.heap.size = Z := ⟨_, rfl⟩
        have e0 : (wA.alloc (.cells #[.string nm, .int .i64 kd, .int .i64 nd, .int .i64 cr, .int .i64 1] 35)).cell? ⟨Z, 0, none⟩ = some (.string nm) := by rw [← hZ, World.cell?_alloc_new]; rfl
        have e1 : (wA.alloc (.cells #[.string nm, .int .i64 kd, .int .i64 nd, .int .i64 cr, .int .i64 1] 35)).cell? ⟨Z, 1, none⟩ = some (.int .i64 kd) := by rw [← hZ, World.cell?_alloc_new]; rfl
        have e2 : (wA.alloc (.cells #[.string nm, .int .i64 kd, .int .i64 nd, .int .i64 cr, .int .i64 1] 35)).cell? ⟨Z, 2, none⟩ = some (.int .i64 nd) := by rw [← hZ, World.cell?_alloc_new]; rfl
        have e3 : (wA.alloc (.cells #[.string nm, .int .i64 kd, .int .i64 nd, .int .i64 cr, .int .i64 1] 35)).cell? ⟨Z, 3, none⟩ = some (.int .i64 cr) := by rw [← hZ, World.cell?_alloc_new]; rfl
        have e4 : (wA.alloc (.cells #[.string nm, .int .i64 kd, .int .i64 nd, .int .i64 cr, .int .i64 1] 35)).cell? ⟨Z, 4, none⟩ = some (.int .i64 1) := by rw [← hZ, World.cell?_alloc_new]; rfl
        obtain ⟨W8, hW8⟩ : ∃ W8, wA.alloc (.cells #[.string nm, .int .i64 kd, .int .i64 nd, .int .i64 cr, .int .i64 1] 35) = W8 := ⟨_, rfl⟩
        rw [hW8] at hC8 hN8 hB8 hs8 e0 e1 e2 e3 e4
        rw [hW8, hZ]
        clear hW8
        obtain ⟨b0, hb0, _, _, _⟩ := sendF_nm (S := selD (fun i => decide ((i : Int) ∈ P)) k) HA.out
        have c0 := (hC8.cellAt (k * 5) (by omega)).trans (show _ = some _ by exact flat_get Ap.cells_len _ k b0 hb0 0 (by omega))
        have f0 := hC8.frozenAt (k * 5)
        have hC80 := (hC8.stored (k * 5) (.string nm)).1
        have c1 := (hC80.cellAt (k * 5 + 1) (by omega)).trans (show _ = some _ by rw [List.getElem?_set_ne (by omega)]; exact flat_get Ap.cells_len _ k b0 hb0 1 (by omega))
        have f1 := hC80.frozenAt (k * 5 + 1)
        have hC81 := (hC80.stored (k * 5 + 1) (.int .i64 kd)).1
        have c2 := (hC81.cellAt (k * 5 + 2) (by omega)).trans (show _ = some _ by rw [List.getElem?_set_ne (by omega)]; rw [List.getElem?_set_ne (by omega)]; exact flat_get Ap.cells_len _ k b0 hb0 2 (by omega))
        have f2 := hC81.frozenAt (k * 5 + 2)
        have hC82 := (hC81.stored (k * 5 + 2) (.int .i64 nd)).1
        have c3 := (hC82.cellAt (k * 5 + 3) (by omega)).trans (show _ = some _ by rw [List.getElem?_set_ne (by omega)]; rw [List.getElem?_set_ne (by omega)]; rw [List.getElem?_set_ne (by omega)]; exact flat_get Ap.cells_len _ k b0 hb0 3 (by omega))
        have f3 := hC82.frozenAt (k * 5 + 3)
        have hC83 := (hC82.stored (k * 5 + 3) (.int .i64 cr)).1
        have c4 := (hC83.cellAt (k * 5 + 4) (by omega)).trans (show _ = some _ by rw [List.getElem?_set_ne (by omega)]; rw [List.getElem?_set_ne (by omega)]; rw [List.getElem?_set_ne (by omega)]; rw [List.getElem?_set_ne (by omega)]; exact flat_get Ap.cells_len _ k b0 hb0 4 (by omega))
        have f4 := hC83.frozenAt (k * 5 + 4)
        have hC84 := (hC83.stored (k * 5 + 4) (.int .i64 1)).1
        have HC9 := Lib.hid hC84
        clear hC80 hC81 hC82 hC83 hC84
        have HC8 := Lib.hid hC8
        clear hC8
        have HN8 := Lib.hid hN8
        have HB8 := Lib.hid hB8
        clear hN8 hB8
        go_upto_region 9 with fail
        have hgZ : gc < Z := by omega
        have hO9 : W8.grownBy (((((W8.setCell ⟨gc, k * 5, none⟩ (.string nm)).setCell ⟨gc, k * 5 + 1, none⟩ (.int .i64 kd)).setCell ⟨gc, k * 5 + 2, none⟩ (.int .i64 nd)).setCell ⟨gc, k * 5 + 3, none⟩ (.int .i64 cr)).setCell ⟨gc, k * 5 + 4, none⟩ (.int .i64 1)) (some gc) := only_setCell (only_setCell (only_setCell (only_setCell (only_setCell (World.grownBy.refl W8 (some gc)) _ _) _ _) _ _) _ _) _ _
        have hcE := HC9.out
        have hnE := HN8.out.kept hO9 (.inr (fun e => by have := (HN8.out.lt gc e).1; omega))
        have hbE := bel_grown HB8.out hO9 (fun q1 e => by have h : gc = q1 := Option.some.inj e; omega)
        have e9 := (gro_cell (o := 0) hO9 (x := Z) (by omega) (by omega)).trans e0
        have hs9 := hO9.size
        have hs9' : (((((W8.setCell ⟨gc, k * 5, none⟩ (.string nm)).setCell ⟨gc, k * 5 + 1, none⟩ (.int .i64 kd)).setCell ⟨gc, k * 5 + 2, none⟩ (.int .i64 nd)).setCell ⟨gc, k * 5 + 3, none⟩ (.int .i64 cr)).setCell ⟨gc, k * 5 + 4, none⟩ (.int .i64 1)).heap.size = W8.heap.size := by simp
        obtain ⟨W9, hW9⟩ : ∃ W9, ((((W8.setCell ⟨gc, k * 5, none⟩ (.string nm)).setCell ⟨gc, k * 5 + 1, none⟩ (.int .i64 kd)).setCell ⟨gc, k * 5 + 2, none⟩ (.int .i64 nd)).setCell ⟨gc, k * 5 + 3, none⟩ (.int .i64 cr)).setCell ⟨gc, k * 5 + 4, none⟩ (.int .i64 1) = W9 := ⟨_, rfl⟩
        rw [hW9] at hcE hnE hbE e9 hs9 hs9'
        rw [hW9]
        have HSE : selD (fun i => decide ((i : Int) ∈ P)) (k + 1) = selD (fun i => decide ((i : Int) ∈ P)) k ++ [(k : Int)] := selD_yes HD.out
        have hq12 : q.length ≤ 12 := by rw [hqk]; have := selD_len (fun i => decide ((i : Int) ∈ P)) k; omega
        have HNE := Lib.hid hnE
        have HBE := Lib.hid hbE
        have hav : callA b0 = ⟨nm, kd, nd, cr, 1⟩ := by
          rw [sendF_get, HA.out] at hb0
          have h := Option.some.inj hb0
          rw [← h]
          split <;> rfl
        have HCE : Hid (W9.ownsRow w.heap.size 35 5 (.slice (some ⟨gc, 0, none⟩) f.length cc) f.length ((sendF f (selD (fun i => decide ((i : Int) ∈ P)) (k + 1))).flatMap Ap.cells)) := Lib.hid (by
          rw [HSE, ← sendF_snoc hb0, hav, ← put_ap hb0]
          exact hcE)
        clear hcE hnE hbE hW9 hO9 c0 c1 c2 c3 c4 f0 f1 f2 f3 f4 e0 e1 e2 e3 e4
        go_wp2_with (at_builtin; go_must (refine wpList_app_rd _ rfl _ _ 51 rfl w5.heap.size 9 j0 (.string ⟨#[]⟩) 1 16 Tryz.underlying51 hj hj0 hj1 hj2 rfl (by decide) _ _ _ rfl (HNE.out.alloc _) _ 1 [.string nm] rfl (rd_new _ (by omega) (by omega) (by rw [maxLen_eq]; omega)) rfl (by intro u hu; simp at hu; rcases hu with rfl; rfl) (by rw [maxLen_eq]; omega) (by omega) (by simp; omega) ?_); intro v7 w7 hown7 hgrow7 _)
        have hg7 : (W9.alloc (.cells #[.string nm] 9)).grownBy w7 u7.ownBlock := hgrow7
        have hsz7 := hg7.size
        have hszA : (W9.alloc (.cells #[.string nm] 9)).heap.size = W9.heap.size + 1 := by simp
        have hnm := nmI_at HA.out
        have HN7 : Hid (w7.ownsRow w5.heap.size 9 1 v7 (q ++ [nm]).length (strs (q ++ [nm]))) := Lib.hid (by rw [strs_snoc, List.length_append]; exact hown7)
        refine ⟨⟨k + 1, q ++ [nm], hlt, by rw [HSE]; simp [hqk], by simp, by omega, Lib.hid (by rw [HSE]; unfold namesI; rw [List.map_append]; have := HQ.out; unfold namesI at this; rw [this]; simp [hnm]), ?_, HN7, ?_⟩, by simp [intOf]; omega⟩
        · refine Lib.hid ((HCE.out.alloc _).kept hg7 (.inr (fun e => ?_)))
          have h1 : (some gc : Option Nat) = u7.ownBlock := e
          have := (HNE.out.lt gc h1.symm).1
          omega
        · exact Lib.hid (bel_grown (bel_al HBE.out _) hg7 (fun g e => by have := (HNE.out.lt g e).1; omega))
      · have hd : decide ((k : Int) ∈ P) = false := decide_eq_false hin
        have HD := Lib.hid hd
        go_wp2_with (go_at_call 119; go_must (refine (l1Has_c _ (k : Int) P _ HPA).mono ?_); rw [HD.out]; rintro e w2 ⟨rfl, rfl⟩)
        have HSE : selD (fun i => decide ((i : Int) ∈ P)) (k + 1) = selD (fun i => decide ((i : Int) ∈ P)) k := selD_no HD.out
        refine ⟨⟨k + 1, q, hlt, by rw [HSE]; exact hqk, by simp, by simp; omega, by rw [HSE]; exact HQ, by rw [HSE]; exact Lib.hid (HC.out.alloc _), Lib.hid (HNM.out.alloc _), Lib.hid (bel_al HBL.out _)⟩, by simp [intOf]; omega⟩
    · obtain rfl : k = f.length := by omega
      have hmem : ∀ x, x ∈ selD (fun i => decide ((i : Int) ∈ P)) f.length ↔ x ∈ P := by
        intro x
        unfold selD
        constructor
        · intro hx
          obtain ⟨i, hi, rfl⟩ := List.mem_map.1 hx
          have := (List.mem_filter.1 hi).2
          exact of_decide_eq_true this
        · intro hx
          obtain ⟨i, rfl, hi⟩ := HPI.out x hx
          exact List.mem_map.2 ⟨i, List.mem_filter.2 ⟨List.mem_range.2 hi, decide_eq_true hx⟩, rfl⟩
      have hHC := Lib.hid HC.out
      rw [sendF_congr hmem] at hHC
      have HCC := Lib.hid hHC.out
      clear hHC hmem hlt
      go_wp2_with fail
      rw [HQ.out]
      go_ret2
      refine ⟨_, _, rfl, (by rw [sendF_len]; exact HCC.out), own_down HNM.out (by omega), ?_, HBL.out⟩
      intro q1 q2 h1 h2
      have h3 := (HNM.out.lt q2 h2).1
      have h4 := (HC5.out.lt q1 h1).2
      omega
end Go.Proofs.YthgegghdkoeofaaGreatDoor

namespace Go.Proofs.YthgegghdkoeofaaGreatDoor
set_option linter.unusedVariables false
set_option linter.unusedSimpArgs false
open Go.RowKit

def lexLt (key : Int → Int) (x y : Int) : Prop := key x < key y ∨ key x = key y ∧ x < y
theorem insFrom_up {key : Int → Int} {gt : Int → Int → Bool} (hgt : ∀ y x, gt y x = decide (key x < key y)) {x : Int} {p : List Int} (hp : p.Pairwise (lexLt key)) (hx : ∀ y ∈ p, y < x) : ∀ j, j ≤ p.length → (∀ y ∈ p.drop j, key x < key y) → (insFrom gt x p j).Pairwise (lexLt key) := by
  intro j
  induction j with
  | zero =>
    intro _ h
    simp only [insFrom, List.pairwise_cons]
    rw [List.drop_zero] at h
    exact ⟨fun y hy => .inl (h y hy), hp⟩
  | succ j ih =>
    intro hj h
    have hd : p.drop j = p[j] :: p.drop (j + 1) := List.drop_eq_getElem_cons (by omega)
    have hg : p.getD j 0 = p[j] := by simp [List.getD, List.getElem?_eq_getElem (show j < p.length by omega)]
    simp only [insFrom]
    rw [hg, hgt]
    by_cases hk : key x < key p[j]
    · rw [decide_eq_true hk, if_pos rfl]
      refine ih (by omega) (fun y hy => ?_)
      rw [hd] at hy
      rcases List.mem_cons.1 hy with rfl | hy
      · exact hk
      · exact h y hy
    · rw [decide_eq_false hk, if_neg (by simp)]
      have hp2 := hp
      rw [← List.take_append_drop (j + 1) p, List.pairwise_append] at hp2
      obtain ⟨q1, q2, q3⟩ := hp2
      rw [List.pairwise_append]
      refine ⟨q1, List.pairwise_cons.2 ⟨fun y hy => .inl (h y hy), q2⟩, fun a ha b hb => ?_⟩
      rcases List.mem_cons.1 hb with rfl | hb
      · have ha' : a ∈ p := List.mem_of_mem_take ha
        have hax := hx a ha'
        have hle : key a ≤ key p[j] := by
          obtain ⟨i, hi, e⟩ := List.getElem_of_mem ha
          rw [List.length_take] at hi
          rw [List.getElem_take] at e
          subst e
          rcases Nat.lt_or_ge i j with hlt | hge
          · have := (List.pairwise_iff_getElem.1 hp) i j (by omega) (by omega) hlt
            rcases this with h' | h' <;> omega
          · have : i = j := by omega
            subst this; exact Int.le_refl _
        unfold lexLt
        omega
      · exact q3 a ha b hb
theorem isort_up {key : Int → Int} {gt : Int → Int → Bool} (hgt : ∀ y x, gt y x = decide (key x < key y)) (L : List Int) (hL : L.Pairwise (· < ·)) : (isort gt L).Pairwise (lexLt key) := by
  have : ∀ k, k ≤ L.length → (isort gt (L.take k)).Pairwise (lexLt key) := by
    intro k
    induction k with
    | zero => intro _; simp [isort]
    | succ k ih =>
      intro hk
      obtain ⟨x, hx⟩ : ∃ x, L[k]? = some x := ⟨_, List.getElem?_eq_getElem (by omega)⟩
      rw [take_succ_of hx, isort_snoc]
      unfold insR
      refine insFrom_up hgt (ih (by omega)) (fun y hy => ?_) _ (Nat.le_refl _) (by simp)
      have hm := (isort_perm gt (L.take k)).mem_iff.1 hy
      obtain ⟨i, hi, rfl⟩ := List.getElem_of_mem hm
      rw [List.length_take] at hi
      rw [List.getElem_take]
      obtain ⟨hk2, rfl⟩ := List.getElem?_eq_some_iff.1 hx
      exact (List.pairwise_iff_getElem.1 hL) i k (by omega) hk2 (by omega)
  have h := this L.length (Nat.le_refl _)
  rwa [List.take_length] at h
/-- Those who are ready come in the order of their times. -/
theorem ready_up (ev : List Int) (f : List Ap) : (readyL ev f).Pairwise (fun x y => rdyKey ev f x ≤ rdyKey ev f y) := by
  refine List.Pairwise.imp ?_ (isort_up (key := rdyKey ev f) (gt := gtOf (rdyCf ev f)) (fun y x => by unfold gtOf rdyCf; exact cmpI_lt _ _) _ (selD_rise _ _))
  rintro a b (h | ⟨h, _⟩) <;> omega
theorem pick_sub (f : List Ap) (L need : List Int) : (pickL f L need).1.Sublist L := by
  obtain ⟨T, h1, h2⟩ := pick_sub_aux f L ([], need)
  unfold pickL
  rw [h1]
  simpa using h2
/-- Who is left out finds nothing left of its kind, and all that were taken of its kind come before it. -/
theorem pick_greedy (ev : List Int) (f : List Ap) (need : List Int) (R : List Int) (hup : R.Pairwise (fun x y => rdyKey ev f x ≤ rdyKey ev f y)) (hnd : R.Nodup) :
    ∀ i ∈ R, i ∉ (pickL f R need).1 → ∀ j ∈ (pickL f R need).1, kdOf f j = kdOf f i → rdyKey ev f j ≤ rdyKey ev f i := by
  have key : ∀ k, k ≤ R.length → (∀ i ∈ R.take k, i ∉ (pickL f (R.take k) need).1 → (pickL f (R.take k) need).2.getD (kdOf f i) 0 ≤ 0) ∧ (∀ i ∈ R.take k, i ∉ (pickL f (R.take k) need).1 → ∀ j ∈ (pickL f (R.take k) need).1, kdOf f j = kdOf f i → rdyKey ev f j ≤ rdyKey ev f i) := by
    intro k
    induction k with
    | zero => intro _; simp
    | succ k ih =>
      intro hk
      obtain ⟨h1, h2⟩ := ih (by omega)
      obtain ⟨x, hx⟩ : ∃ x, R[k]? = some x := ⟨_, List.getElem?_eq_getElem (by omega)⟩
      have hsub := pick_sub f (R.take k) need
      have hbef : ∀ j ∈ R.take k, rdyKey ev f j ≤ rdyKey ev f x := fun j hj => by
        obtain ⟨i, hi, rfl⟩ := List.getElem_of_mem hj
        rw [List.length_take] at hi
        rw [List.getElem_take]
        obtain ⟨hk2, rfl⟩ := List.getElem?_eq_some_iff.1 hx
        exact (List.pairwise_iff_getElem.1 hup) i k (by omega) hk2 (by omega)
      rw [pickL_snoc hx, take_succ_of hx]
      obtain ⟨st, hst⟩ : ∃ st, pickL f (R.take k) need = st := ⟨_, rfl⟩
      rw [hst] at h1 h2 hsub ⊢
      obtain ⟨P, M⟩ := st
      dsimp only at h1 h2 hsub
      obtain ⟨v, hv⟩ : ∃ v, M.getD (kdOf f x) 0 = v := ⟨_, rfl⟩
      by_cases hpos : 0 < v
      · rw [pickStep_yes rfl hv hpos]
        dsimp only
        have hne : ∀ i ∈ R.take k, i ∉ P → kdOf f i ≠ kdOf f x := fun i hi hP e => by
          have := h1 i hi hP
          rw [e, hv] at this
          omega
        refine ⟨fun i hi hP => ?_, fun i hi hP j hj hjk => ?_⟩
        · rcases List.mem_append.1 hi with h | h
          · have hP' : i ∉ P := fun hm => hP (by simp [hm])
            rw [getD_set_ne (fun e => hne i h hP' e.symm)]
            exact h1 i h hP'
          · exact absurd (List.mem_append.2 (.inr h)) hP
        · rcases List.mem_append.1 hi with h | h
          · have hP' : i ∉ P := fun hm => hP (by simp [hm])
            rcases List.mem_append.1 hj with g | g
            · exact h2 i h hP' j g hjk
            · rw [List.mem_singleton] at g
              subst g
              exact absurd hjk.symm (hne i h hP')
          · exact absurd (List.mem_append.2 (.inr h)) hP
      · rw [pickStep_no rfl hv hpos]
        dsimp only
        refine ⟨fun i hi hP => ?_, fun i hi hP j hj hjk => ?_⟩
        · rcases List.mem_append.1 hi with h | h
          · exact h1 i h hP
          · rw [List.mem_singleton] at h
            subst h
            rw [hv]; omega
        · rcases List.mem_append.1 hi with h | h
          · exact h2 i h hP j hj hjk
          · rw [List.mem_singleton] at h
            subst h
            exact hbef j (hsub.subset hj)
  have h := (key R.length (Nat.le_refl _)).2
  rwa [List.take_length] at h
theorem filter_sub {L : List Int} {P : List Int} (h : P.Sublist L) (hn : L.Nodup) : L.filter (fun i => decide (i ∈ P)) = P := by
  induction h with
  | slnil => rfl
  | @cons P L x h ih =>
    obtain ⟨hx, hn⟩ := List.nodup_cons.1 hn
    rw [List.filter_cons, if_neg (by simp; exact fun hm => hx (h.subset hm))]
    exact ih hn
  | @cons_cons P L x h ih =>
    obtain ⟨hx, hn⟩ := List.nodup_cons.1 hn
    rw [List.filter_cons, if_pos (by simp)]
    congr 1
    have : L.filter (fun i => decide (i ∈ x :: P)) = L.filter (fun i => decide (i ∈ P)) := by
      apply List.filter_congr
      intro y hy
      have : y ≠ x := fun e => hx (e ▸ hy)
      simp [this]
    rw [this]
    exact ih hn
/-- The names of the choice, in the order of the fleet. -/
def selN (f : List Ap) (P : List Int) : List ByteArray := namesI f (selD (fun i => decide ((i : Int) ∈ P)) f.length)
theorem names_of_rise {f : List Ap} (hfl : goodFl f = true) (S : List Int) (hS : S.Pairwise (· < ·)) (hm : ∀ y ∈ S, ∃ (i : Nat) (a : Ap), y = (i : Int) ∧ f[i]? = some a) : namesB (namesI f S) = true := by
  unfold namesB
  rw [List.all_eq_true]
  intro k hk
  rw [List.mem_range, namesI_len] at hk
  cases k with
  | zero =>
    unfold okNm
    cases (namesI f S)[0]? <;> rfl
  | succ k =>
    have e1 : (namesI f S)[k + 1]? = some (nmI f S[k + 1]) := by unfold namesI; rw [List.getElem?_map, List.getElem?_eq_getElem hk]; rfl
    have e0 : (namesI f S)[k]? = some (nmI f S[k]) := by unfold namesI; rw [List.getElem?_map, List.getElem?_eq_getElem (by omega)]; rfl
    rw [okNm_next e1 e0]
    obtain ⟨i, a, ei, ha⟩ := hm S[k] (List.getElem_mem _)
    obtain ⟨j, b, ej, hb⟩ := hm S[k + 1] (List.getElem_mem _)
    have hlt := (List.pairwise_iff_getElem.1 hS) k (k + 1) (by omega) hk (by omega)
    rw [ei, ej] at hlt
    rw [ei, ej, nmI_at ha, nmI_at hb]
    obtain ⟨d, rfl⟩ : ∃ d, j = i + 1 + d := ⟨j - i - 1, by omega⟩
    have := rise_all (fleet_rise hfl) d i a.nm b.nm (by rw [List.getElem?_map, ha]; rfl) (by rw [List.getElem?_map, hb]; rfl)
    unfold geS
    rw [this]; rfl
theorem selN_mem {f : List Ap} (hfl : goodFl f = true) {P : List Int} (hP : ∀ y ∈ P, ∃ (i : Nat) (a : Ap), y = (i : Int) ∧ f[i]? = some a) {y : Int} {i : Nat} {a : Ap} (hy : y = (i : Int)) (ha : f[i]? = some a) : nmI f y ∈ selN f P ↔ y ∈ P := by
  unfold selN namesI
  constructor
  · intro h
    obtain ⟨z, hz, e⟩ := List.mem_map.1 h
    obtain ⟨j, rfl, hj, hp⟩ := selD_mem hz
    have hb : f[j]? = some f[j] := List.getElem?_eq_getElem hj
    rw [hy, nmI_at ha, nmI_at hb] at e
    have := fleet_inj hfl hb ha e
    subst this
    rw [hy]; exact of_decide_eq_true hp
  · intro h
    refine List.mem_map.2 ⟨y, ?_, rfl⟩
    rw [hy] at h ⊢
    unfold selD
    exact List.mem_map.2 ⟨i, List.mem_filter.2 ⟨List.mem_range.2 (List.getElem?_eq_some_iff.1 ha).1, decide_eq_true h⟩, rfl⟩
theorem selN_len {f : List Ap} {P : List Int} (hn : P.Nodup) (hP : ∀ y ∈ P, ∃ (i : Nat) (a : Ap), y = (i : Int) ∧ f[i]? = some a) : (selN f P).length = P.length := by
  unfold selN
  rw [namesI_len]
  have hr := selD_rise (fun i => decide ((i : Int) ∈ P)) f.length
  have h1 : (selD (fun i => decide ((i : Int) ∈ P)) f.length).Nodup := List.nodup_iff_pairwise_ne.2 (hr.imp (fun h => by omega))
  refine Nat.le_antisymm (nodup_len _ _ h1 (fun x hx => ?_)) (nodup_len _ _ hn (fun x hx => ?_))
  · obtain ⟨i, rfl, _, hp⟩ := selD_mem hx
    exact of_decide_eq_true hp
  · obtain ⟨i, a, rfl, ha⟩ := hP x hx
    unfold selD
    exact List.mem_map.2 ⟨i, List.mem_filter.2 ⟨List.mem_range.2 (List.getElem?_eq_some_iff.1 ha).1, decide_eq_true hx⟩, rfl⟩
/-- The choice is a best one. -/
theorem choice_best {ev : List Int} {f : List Ap} {need : List Int} (hfl : goodFl f = true) (hne : needB need = true) : bestS ev f (readyL ev f) need (pickL f (readyL ev f) need).2 (selN f (pickL f (readyL ev f) need).1) = true := by
  have hR : ∀ y ∈ readyL ev f, ∃ (i : Nat) (a : Ap), y = (i : Int) ∧ f[i]? = some a := fun y hy => by
    obtain ⟨i, a, h1, h2, _⟩ := readyL_mem hy
    exact ⟨i, a, h1, h2⟩
  have hnd := readyL_nodup2 ev f
  have hsub := pick_sub f (readyL ev f) need
  have hgr := pick_greedy ev f need (readyL ev f) (ready_up ev f) hnd
  have hmis := pick_miss f (readyL ev f) need
  have hpn := pick_nodup f (L := readyL ev f) need hnd
  obtain ⟨hn4, hnb⟩ := needB_true hne
  obtain ⟨R, hRe⟩ : ∃ R, readyL ev f = R := ⟨_, rfl⟩
  rw [hRe] at hR hnd hsub hgr hmis hpn ⊢
  obtain ⟨P, hPe⟩ : ∃ P, (pickL f R need).1 = P := ⟨_, rfl⟩
  rw [hPe] at hsub hgr hmis hpn ⊢
  rw [← hmis]
  have hP : ∀ y ∈ P, ∃ (i : Nat) (a : Ap), y = (i : Int) ∧ f[i]? = some a := fun y hy => hR y (hsub.subset hy)
  have hhas : hasL f (selN f P) R = P := by
    unfold hasL
    rw [← filter_sub hsub hnd]
    conv => rhs; rw [filter_sub hsub hnd]
    rw [show (R.filter fun i => hasN (selN f (R.filter fun i => decide (i ∈ P))) (nmI f i)) = R.filter (fun i => decide (i ∈ P)) from ?_, filter_sub hsub hnd]
    apply List.filter_congr
    intro y hy
    rw [filter_sub hsub hnd]
    obtain ⟨i, a, e, ha⟩ := hR y hy
    have := selN_mem hfl hP e ha
    by_cases hm : y ∈ P
    · rw [decide_eq_true hm]; exact hasN_iff.2 (this.2 hm)
    · rw [decide_eq_false hm]; exact hasN_false (fun h => hm (this.1 h))
  have hkd : ∀ y ∈ P, kdOf f y < 4 := fun y hy => by
    obtain ⟨i, a, rfl, ha⟩ := hP y hy
    obtain ⟨_, h0, h3, _⟩ := goodAp_true ((goodFl_true hfl).2 a (List.mem_of_getElem? ha))
    rw [kdOf_at ha]; omega
  unfold bestS
  rw [hhas]
  simp only [Bool.and_eq_true]
  refine ⟨?_, ?_, ?_, ?_⟩
  · exact names_of_rise hfl _ (selD_rise _ _) (fun y hy => by
      obtain ⟨i, rfl, hi, _⟩ := selD_mem hy
      exact ⟨i, _, rfl, List.getElem?_eq_getElem hi⟩)
  · rw [List.all_eq_true]
    intro k hk
    have hk4 := List.mem_range.1 hk
    have h1 := cnt_get f P hk4
    have h2 := (miss_aux f P need hn4).2 k hk4
    rw [h1]
    unfold missL
    rw [h2]
    exact beq_iff_eq.2 (by omega)
  · rw [cnt_sum f P hkd, selN_len hpn hP]
    exact beq_iff_eq.2 rfl
  · rw [List.all_eq_true]
    intro i hi
    obtain ⟨ii, a, e, ha⟩ := hR i hi
    by_cases hm : i ∈ P
    · rw [hasN_iff.2 ((selN_mem hfl hP e ha).2 hm)]; rfl
    · have hki : kdOf f i < 4 := by
        obtain ⟨_, h0, h3, _⟩ := goodAp_true ((goodFl_true hfl).2 a (List.mem_of_getElem? ha))
        rw [e, kdOf_at ha]; omega
      have hc := ((wst_aux ev f P [-1, -1, -1, -1] rfl).2 (kdOf f i) hki).2.2 (rdyKey ev f i)
      have h0 : ([-1, -1, -1, -1] : List Int).getD (kdOf f i) 0 ≤ rdyKey ev f i := by
        obtain ⟨i2, a2, e2, ha2, _, hz⟩ := readyL_mem (by rw [hRe]; exact hi)
        have : rdyKey ev f i = ev.getD a2.nd.toNat 0 := by rw [e2]; exact rdyKey_at ha2
        have h4 : ([-1, -1, -1, -1] : List Int).getD (kdOf f i) 0 = -1 := by
          generalize kdOf f i = q at hki
          rcases q with _ | _ | _ | _ | q <;> first | rfl | omega
        rw [h4, this]; omega
      have := hc h0 (fun j hj hjk => hgr i hi hm j hj hjk)
      rw [hasN_false (fun h => hm ((selN_mem hfl hP e ha).1 h)), Bool.false_or]
      rw [decide_eq_false (by unfold wstL; omega)]; rfl
/-- What is chosen and what is missing make up the need. -/
theorem choice_sum {f : List Ap} {R need : List Int} (hfl : goodFl f = true) (hne : needB need = true) (hR : ∀ y ∈ R, ∃ (i : Nat) (a : Ap), y = (i : Int) ∧ f[i]? = some a) : ((pickL f R need).1.length : Int) + (pickL f R need).2.sum = need.sum := by
  obtain ⟨hn4, hnb⟩ := needB_true hne
  rw [← pick_miss]
  obtain ⟨P, hP⟩ : ∃ P, (pickL f R need).1 = P := ⟨_, rfl⟩
  have hPR : ∀ y ∈ P, y ∈ R := by rw [← hP]; exact (pick_sub f R need).subset
  rw [hP]
  obtain ⟨h1, h2⟩ := miss_aux f P need hn4
  have hs := sum_kinds (kdOf f) P (fun y hy => by
    obtain ⟨i, a, rfl, ha⟩ := hR y (hPR y hy)
    obtain ⟨_, h0, h3, _⟩ := goodAp_true ((goodFl_true hfl).2 a (List.mem_of_getElem? ha))
    rw [kdOf_at ha]; omega)
  unfold missL
  rw [sum4 h1, sum4 hn4, h2 0 (by omega), h2 1 (by omega), h2 2 (by omega), h2 3 (by omega)]
  omega
theorem miss_bd {f : List Ap} {R need : List Int} (hne : needB need = true) : ∀ y ∈ (pickL f R need).2, 0 ≤ y ∧ y ≤ 6 := by
  obtain ⟨hn4, hnb⟩ := needB_true hne
  have : ∀ (L : List Int) (st : List Int × List Int), (∀ y ∈ st.2, 0 ≤ y ∧ y ≤ 6) → ∀ y ∈ (L.foldl (pickStep f) st).2, 0 ≤ y ∧ y ≤ 6 := by
    intro L
    induction L with
    | nil => intro st h; exact h
    | cons i L ih =>
      intro st h
      rw [List.foldl_cons]
      apply ih
      unfold pickStep
      split
      · rename_i hp
        intro y hy
        rcases List.mem_or_eq_of_mem_set hy with h1 | h1
        · exact h y h1
        · have := getD_le st.2 6 (by omega) (fun z hz => (h z hz).2) (kdOf f i)
          omega
      · exact h
  exact this R ([], need) (fun y hy => hnb y hy)
theorem chL_up {ev : List Int} {f : List Ap} {L : List Int} (hL : L.Sublist (readyL ev f)) {k : Nat} {x y : Ch} (hx : (chL f ev L)[k]? = some x) (hy : (chL f ev L)[k + 1]? = some y) : x.cs ≤ y.cs := by
  unfold chL at hx hy
  rw [List.getElem?_map, Option.map_eq_some_iff] at hx hy
  obtain ⟨i, hi, rfl⟩ := hx
  obtain ⟨j, hj, rfl⟩ := hy
  have hup := (ready_up ev f).sublist hL
  obtain ⟨h1, e1⟩ := List.getElem?_eq_some_iff.1 hi
  obtain ⟨h2, e2⟩ := List.getElem?_eq_some_iff.1 hj
  have h := (List.pairwise_iff_getElem.1 hup) k (k + 1) h1 h2 (by omega)
  rw [e1, e2] at h
  have key : ∀ z ∈ L, (chAt f ev z).cs = rdyKey ev f z := fun z hz => by
    obtain ⟨a, b, e, ha, _⟩ := readyL_mem (hL.subset hz)
    rw [e, chAt_at ha, rdyKey_at ha]
  rw [key i (List.mem_of_getElem? hi), key j (List.mem_of_getElem? hj)]
  exact h
/-- An appliance is found by its name. -/
theorem find_at {f : List Ap} (hfl : goodFl f = true) {i : Nat} {a : Ap} (ha : f[i]? = some a) : findA a.nm f = (i : Int) := by
  have h0 : 0 ≤ findA a.nm f := of_decide_eq_true (by unfold findA; rw [(idxG_any _ _).1]; exact List.any_eq_true.2 ⟨a, List.mem_of_getElem? ha, by simp⟩)
  obtain ⟨j, hj⟩ := Int.eq_ofNat_of_zero_le h0
  obtain ⟨b, hb, hbp⟩ := idxG_get hj
  have := fleet_inj hfl ha hb (of_decide_eq_true hbp).symm
  rw [hj, this]
/-- The names as they are gathered: for each of the fleet those of the choice that bear its name. -/
def gath (C : List Ch) (a : Ap) : List ByteArray := (C.filter fun x => decide (x.cn = a.nm)).map Ch.cn
theorem gath_at {f : List Ap} (hfl : goodFl f = true) {ev P : List Int} (hn : P.Nodup) (hP : ∀ y ∈ P, ∃ (i : Nat) (a : Ap), y = (i : Int) ∧ f[i]? = some a) {i : Nat} {a : Ap} (ha : f[i]? = some a) : gath (chL f ev P) a = if (i : Int) ∈ P then [a.nm] else [] := by
  have hfil : P.filter (fun y => decide ((chAt f ev y).cn = a.nm)) = P.filter (fun y => decide (y = (i : Int))) := by
    apply List.filter_congr
    intro y hy
    obtain ⟨j, b, rfl, hb⟩ := hP y hy
    rw [chAt_at hb]
    by_cases e : b.nm = a.nm
    · have := fleet_inj hfl hb ha e
      subst this
      rw [decide_eq_true e, decide_eq_true rfl]
    · rw [decide_eq_false e, decide_eq_false (fun h => e (by
        have : j = i := by omega
        subst this
        rw [hb] at ha; injection ha with ha; rw [ha]))]
  unfold gath chL
  rw [List.filter_map, List.map_map]
  have e2 : (P.filter ((fun x : Ch => decide (x.cn = a.nm)) ∘ chAt f ev)) = P.filter (fun y => decide (y = (i : Int))) := hfil
  rw [e2]
  have e3 : ∀ (L : List Int), L.Nodup → L.filter (fun y => decide (y = (i : Int))) = if (i : Int) ∈ L then [(i : Int)] else [] := by
    intro L
    induction L with
    | nil => intro _; rfl
    | cons y L ih =>
      intro h
      obtain ⟨h1, h2⟩ := List.nodup_cons.1 h
      by_cases e : y = (i : Int)
      · subst e
        rw [List.filter_cons, if_pos (by simp), ih h2, if_neg h1, if_pos (by simp)]
      · rw [List.filter_cons, if_neg (by simp [e]), ih h2]
        by_cases h3 : (i : Int) ∈ L
        · rw [if_pos h3, if_pos (by simp [h3])]
        · rw [if_neg h3, if_neg (by simp [h3]; exact fun h => e h.symm)]
  rw [e3 P hn]
  split
  · simp [chAt_at ha]
  · rfl
theorem gath_all {f : List Ap} (hfl : goodFl f = true) {ev P : List Int} (hn : P.Nodup) (hP : ∀ y ∈ P, ∃ (i : Nat) (a : Ap), y = (i : Int) ∧ f[i]? = some a) : f.flatMap (gath (chL f ev P)) = selN f P := by
  have : ∀ k, k ≤ f.length → (f.take k).flatMap (gath (chL f ev P)) = namesI f (selD (fun i => decide ((i : Int) ∈ P)) k) := by
    intro k
    induction k with
    | zero => intro _; simp [selD, namesI]
    | succ k ih =>
      intro hk
      obtain ⟨a, ha⟩ : ∃ a, f[k]? = some a := ⟨_, List.getElem?_eq_getElem (by omega)⟩
      rw [take_succ_of ha, List.flatMap_append, ih (by omega)]
      have e : [a].flatMap (gath (chL f ev P)) = gath (chL f ev P) a := by simp
      rw [e, gath_at hfl hn hP ha]
      by_cases h : (k : Int) ∈ P
      · rw [if_pos h, selD_yes (decide_eq_true h)]
        unfold namesI
        rw [List.map_append]
        simp [nmI_at ha]
      · rw [if_neg h, selD_no (decide_eq_false h)]; simp
  have h := this f.length (Nat.le_refl _)
  rw [List.take_length] at h
  exact h
end Go.Proofs.YthgegghdkoeofaaGreatDoor

namespace Go.Proofs.YthgegghdkoeofaaGreatDoor
set_option linter.unusedVariables false
set_option linter.unusedSimpArgs false
open Go.RowKit

theorem pick_ge_aux (f : List Ap) : ∀ (L : List Int) (st : List Int × List Int), (∀ y ∈ st.2, 0 ≤ y) → ∀ y ∈ (L.foldl (pickStep f) st).2, 0 ≤ y := by
  intro L
  induction L with
  | nil => intro st h; exact h
  | cons i L ih =>
    intro st h
    rw [List.foldl_cons]
    apply ih
    unfold pickStep
    split
    · rename_i hp
      intro y hy
      rcases List.mem_or_eq_of_mem_set hy with hy | rfl
      · exact h y hy
      · omega
    · exact h
theorem pick_ge {f : List Ap} {L need : List Int} (h : needB need = true) : ∀ y ∈ (pickL f L need).2, 0 ≤ y := pick_ge_aux f L ([], need) (fun y hy => ((needB_true h).2 y hy).1)
theorem foldl_max_ge2 (l : List Int) : ∀ y, y ≤ l.foldl max y ∧ (∀ x ∈ l, x ≤ l.foldl max y) ∧ (l.foldl max y = y ∨ l.foldl max y ∈ l) := by
  induction l with
  | nil => intro y; simp
  | cons z l ih =>
    intro y
    rw [List.foldl_cons]
    obtain ⟨h1, h2, h3⟩ := ih (max y z)
    refine ⟨by omega, fun x hx => ?_, ?_⟩
    · rcases List.mem_cons.1 hx with rfl | hx
      · omega
      · exact h2 x hx
    · rcases h3 with h3 | h3
      · rw [h3]
        rcases Int.le_total y z with h | h
        · right; rw [Int.max_eq_right h]; simp
        · left; exact Int.max_eq_left h
      · right; simp [h3]
theorem maxL_spec2 {d : List Int} (h : 0 < d.length) : maxL d ∈ d ∧ ∀ x ∈ d, x ≤ maxL d := by
  cases d with
  | nil => simp at h
  | cons y l =>
    obtain ⟨h1, h2, h3⟩ := foldl_max_ge2 l y
    refine ⟨?_, fun x hx => ?_⟩
    · show l.foldl max y ∈ y :: l
      rcases h3 with h3 | h3
      · rw [h3]; simp
      · simp [h3]
    · rcases List.mem_cons.1 hx with rfl | hx
      · exact h1
      · exact h2 x hx
theorem all_zero_max {l : List Int} (hl : 0 < l.length) (h : ∀ y ∈ l, 0 ≤ y) : (l.all fun y => inB y 0 0) = decide (maxL l ≤ 0) := by
  by_cases hm : maxL l ≤ 0
  · rw [decide_eq_true hm, List.all_eq_true]
    intro y hy
    have h1 := (maxL_spec2 hl).2 y hy
    have h2 := h y hy
    unfold inB
    rw [decide_eq_true h2, decide_eq_true (show y ≤ 0 by omega)]; rfl
  · rw [decide_eq_false hm, List.all_eq_false]
    refine ⟨maxL l, (maxL_spec2 hl).1, ?_⟩
    unfold inB
    rw [decide_eq_false hm]; simp
def sendIn (f : List Ap) (P need : List Int) : List Ap × List ByteArray × Bool :=
  if 0 < maxL (missL f P need) then ([], [], false) else (sendF f P, namesI f (selD (fun i => decide ((i : Int) ∈ P)) f.length), true)
def sendChoiceV (n : Int) (l : List St) (f : List Ap) (x : Int) (need : List Int) : List Ap × List ByteArray × Bool :=
  if askD n l f x = true ∧ needB need = true then sendIn f (pickL f (readyL (distT n.toNat (arcs l) x.toNat) f) need).1 need else ([], [], false)
theorem sendV_no1 {n : Int} {l : List St} {f : List Ap} {x : Int} {need : List Int} (h : askD n l f x = false) : sendChoiceV n l f x need = ([], [], false) := by
  unfold sendChoiceV; rw [if_neg (by rw [h]; simp)]
theorem sendV_no2 {n : Int} {l : List St} {f : List Ap} {x : Int} {need : List Int} (h : needB need = false) : sendChoiceV n l f x need = ([], [], false) := by
  unfold sendChoiceV; rw [if_neg (by rw [h]; simp)]
theorem sendV_yes {n src : Nat} {l : List St} {f : List Ap} {need : List Int} (h : askD n l f src = true) (h2 : needB need = true) : sendChoiceV n l f src need = sendIn f (pickL f (readyL (distT n (arcs l) src) f) need).1 need := by
  unfold sendChoiceV; rw [if_pos ⟨h, h2⟩, Int.toNat_natCast, Int.toNat_natCast]
theorem sendIn_len {f : List Ap} (hf : f.length ≤ 12) (P need : List Int) : (sendIn f P need).1.length ≤ 1000000 ∧ (sendIn f P need).2.1.length ≤ 1000000 := by
  unfold sendIn
  split
  · simp
  · dsimp only
    rw [sendF_len, namesI_len]
    have : (selD (fun i => decide ((i : Int) ∈ P)) f.length).length ≤ f.length := by
      unfold selD
      rw [List.length_map]
      refine Nat.le_trans (List.length_filter_le _ _) ?_
      rw [List.length_range]; exact Nat.le_refl _
    omega
theorem sendChoiceV_len (n : Int) (l : List St) (f : List Ap) (x : Int) (need : List Int) : (sendChoiceV n l f x need).1.length ≤ 1000000 ∧ (sendChoiceV n l f x need).2.1.length ≤ 1000000 := by
  unfold sendChoiceV
  split
  · exact sendIn_len (goodFl_true (goodDs_true (askD_true (by rename_i h; exact h.1)).1).2.1).1 _ _
  · simp
/-- What SendChoice hands back. -/
def Own2V (r : List Ap × List ByteArray × Bool) (w : World) (e : Ending) (w' : World) : Prop := Own2 r.1 r.2.1 r.2.2 w e w'
theorem own2_none {w w' : World} (h : Below w.heap.size w w') : Own2 [] [] false w (.returned (.tuple #[.slice none 0 0, .slice none 0 0, .bool false])) w' :=
  ⟨_, _, rfl, World.ownsRow_nil _ _ _ _, World.ownsRow_nil _ _ _ _, (fun {q q'} e _ => by cases e), h⟩
theorem own2_base {F : List Ap} {q : List ByteArray} {b : Bool} {w w1 w' : World} {e : Ending} (h : Own2 F q b w1 e w') (hb : Below w.heap.size w w1) : Own2 F q b w e w' := by
  obtain ⟨x, y, rfl, h1, h2, h3, h4⟩ := h
  exact ⟨x, y, rfl, own_base h1 hb.size, own_base h2 hb.size, h3, bel_then hb h4⟩
set_option maxRecDepth 100000 in
set_option maxHeartbeats 4000000 in
theorem sendChoiceS_c (n : Int) (s : Value) (l : List St) (v : Value) (f : List Ap) (x : Int) (vn : Value) (need : List Int) (w : World) (hr : Rd w s l.length (l.flatMap St.cells)) (hz : ∀ x ∈ f, x.nm.size ≤ 9223372036854775807) (hf : Rd w v f.length (f.flatMap Ap.cells)) (hvn : RdI w vn need) :
    Calls Tryz.prog 28 #[.agg #[.int .i64 n, s], v, .int .i64 x, vn] w (Own2V (sendChoiceV n l f x need) w) := by
  have HR := Lib.hid hr
  have HF := Lib.hid hf
  have HZ := Lib.hid hz
  have HN := Lib.hid hvn
  clear hr hz hf hvn
  go_enter Tryz.func28, Tryz.ntmps28
  go_wp2_with fail
  (generalize hw1 : World.alloc w _ = w1; have k0 : w1.cell? ⟨w.heap.size, 0, none⟩ = some (.int .i64 n) := (by subst hw1; simp [go_sem]); have k1 : w1.cell? ⟨w.heap.size, 1, none⟩ = some s := (by subst hw1; simp [go_sem]); have hb0 : Below w.heap.size w w1 := (by subst hw1; exact bel_al (Below.refl _ _) _); have hsz1 : w.heap.size < w1.heap.size := (by subst hw1; simp); clear hw1)
  have HB := Lib.hid hb0
  refine (dsAsked_c n s l _ f x _ (rd_below HR.out HB.out) HZ.out (rd_below HF.out HB.out)).mono ?_; rintro e w2 ⟨rfl, hb1⟩
  have e0 := (hb1.cell (p := ⟨w.heap.size, 0, none⟩) (by show w.heap.size < _; omega)).trans k0
  have e1 := (hb1.cell (p := ⟨w.heap.size, 1, none⟩) (by show w.heap.size < _; omega)).trans k1
  have HB1 := Lib.hid (bel_then HB.out hb1)
  clear k0 k1 hb0 hb1
  by_cases hg : askD n l f x = true
  · have HASK := Lib.hid hg
    rw [hg]
    obtain ⟨hds, hx0, hx1⟩ := askD_true hg
    obtain ⟨hgt, hgf, hnd⟩ := goodDs_true hds
    have hn1 := (goodTown_true hgt).1
    obtain ⟨N, rfl⟩ := Int.eq_ofNat_of_zero_le (show 0 ≤ n by omega)
    obtain ⟨src, rfl⟩ := Int.eq_ofNat_of_zero_le hx0
    have hs : src < N := by omega
    have HGT := Lib.hid hgt
    have HGF := Lib.hid hgf
    have HND := Lib.hid hnd
    clear hg hds hgt hgf hnd hx0 hx1
    go_wp2_with fail
    refine (tbNeed_c _ need _ (rd_below HN.out HB1.out)).mono ?_; rintro e w3 ⟨rfl, rfl⟩
    by_cases hne : needB need = true
    · have HV := Lib.hid (sendV_yes HASK.out hne)
      have HNE := Lib.hid hne
      rw [hne]
      clear hne
      go_wp2_with fail
      refine (dsPick_c N s l _ f src _ need _ HGT.out HGF.out HND.out hs HNE.out (rd_below HR.out HB1.out) (rd_below HF.out HB1.out) (rd_below HN.out HB1.out)).mono ?_
      rintro e w3 ⟨xx, yy, zz, rfl, hx, hy, _, hb2⟩
      have HY := Lib.hid hy
      have HX := Lib.hid hx
      have HB2 := Lib.hid (bel_then HB1.out hb2)
      have hpm := pick_mem f (fun y => ∃ i : Nat, y = (i : Int) ∧ i < f.length) (readyL (distT N (arcs l) src) f) need (fun y hy => by
        obtain ⟨i, a, h1, h2, _⟩ := readyL_mem hy
        exact ⟨i, h1, (List.getElem?_eq_some_iff.1 h2).1⟩)
      have HPM := Lib.hid hpm.1
      have hmis := pick_miss f (readyL (distT N (arcs l) src) f) need
      have hnn := pick_ge (f := f) (L := readyL (distT N (arcs l) src) f) HNE.out
      obtain ⟨P, hP⟩ : ∃ P, (pickL f (readyL (distT N (arcs l) src) f) need).1 = P := ⟨_, rfl⟩
      rw [hP] at HPM HX HV hmis
      rw [← hmis] at HY hnn
      have hml : 0 < (missL f P need).length := by rw [miss_len4, (needB_true HNE.out).1]; omega
      have HALL := Lib.hid (all_zero_max hml hnn)
      clear e0 e1 hb2 hy hx hpm hmis hnn hml hP
      go_wp2_with fail
      refine (all2_c _ (missL f P need) _ _ _ (rdi_own HY.out)).mono ?_; rintro e w4 ⟨rfl, rfl⟩
      rw [HALL.out]
      by_cases hm : 0 < maxL (missL f P need)
      · have HM : Hid (sendIn f P need = ([], [], false)) := Lib.hid (by unfold sendIn; rw [if_pos hm])
        rw [show decide (maxL (missL f P need) ≤ 0) = false from decide_eq_false (by omega)]
        clear hm
        go_wp2
        go_ret3
        rw [HV.out, HM.out]
        exact own2_none HB2.out
      · have HM : Hid (sendIn f P need = (sendF f P, namesI f (selD (fun i => decide ((i : Int) ∈ P)) f.length), true)) := Lib.hid (by unfold sendIn; rw [if_neg hm])
        rw [show decide (maxL (missL f P need) ≤ 0) = true from decide_eq_true (by omega)]
        clear hm
        go_wp2_with fail
        refine (dsSend_c _ f _ P _ (goodFl_true HGF.out).1 HPM.out (rd_below HF.out HB2.out) HX.out).mono ?_
        rintro e w5 ⟨x6, y6, rfl, ho6, ho7, hsep, hb6⟩
        have HO6 := Lib.hid ho6
        have HO7 := Lib.hid ho7
        have HSEP := Lib.hid hsep
        have HB6 := Lib.hid (bel_then HB2.out hb6)
        clear ho6 ho7 hsep hb6
        go_wp2
        go_ret3
        rw [HV.out, HM.out]
        exact ⟨_, _, rfl, own_base HO6.out HB2.out.size, own_base HO7.out HB2.out.size, HSEP.out, HB6.out⟩
    · have hne : needB need = false := by simpa using hne
      have HV := Lib.hid (sendV_no2 (n := N) (l := l) (f := f) (x := src) hne)
      rw [hne]
      go_wp2
      go_ret3
      rw [HV.out]
      exact own2_none HB1.out
  · have hg : askD n l f x = false := by simpa using hg
    have HV := Lib.hid (sendV_no1 (need := need) hg)
    rw [hg]
    go_wp2
    go_ret3
    rw [HV.out]
    exact own2_none HB1.out

set_option maxRecDepth 100000 in
set_option maxHeartbeats 4000000 in
theorem sendChoiceI_c (n : Int) (s : Value) (l : List St) (v : Value) (f : List Ap) (x : Int) (vn : Value) (need : List Int) (w : World) (hr : Rd w s l.length (l.flatMap St.cells)) (hz : ∀ x ∈ f, x.nm.size ≤ 9223372036854775807) (hf : Rd w v f.length (f.flatMap Ap.cells)) (hvn : RdI w vn need) :
    Calls Tryz.prog 27 #[.agg #[.int .i64 n, s], v, .int .i64 x, vn] w (Own2V (sendChoiceV n l f x need) w) := by
  have HR := Lib.hid hr
  have HF := Lib.hid hf
  have HZ := Lib.hid hz
  have HN := Lib.hid hvn
  clear hr hz hf hvn
  go_enter Tryz.func27, Tryz.ntmps27
  go_wp2_with fail
  (generalize hw1 : World.alloc w _ = w1; have k0 : w1.cell? ⟨w.heap.size, 0, none⟩ = some (.int .i64 n) := (by subst hw1; simp [go_sem]); have k1 : w1.cell? ⟨w.heap.size, 1, none⟩ = some s := (by subst hw1; simp [go_sem]); have hb0 : Below w.heap.size w w1 := (by subst hw1; exact bel_al (Below.refl _ _) _); have hsz1 : w.heap.size < w1.heap.size := (by subst hw1; simp); clear hw1)
  have HB := Lib.hid hb0
  refine (dispatchFits_c n s l _ f w.heap.size _ k0 k1 (rd_below HR.out HB.out) HZ.out (rd_below HF.out HB.out)).mono ?_; rintro e w2 ⟨rfl, hb1⟩
  have e0 := (hb1.cell (p := ⟨w.heap.size, 0, none⟩) (by show w.heap.size < _; omega)).trans k0
  have e1 := (hb1.cell (p := ⟨w.heap.size, 1, none⟩) (by show w.heap.size < _; omega)).trans k1
  have hs1 := hb1.size
  have HB1 := Lib.hid (bel_then HB.out hb1)
  clear k0 k1 hb0 hb1
  by_cases hg : goodDs n l f = true
  · have HDS := Lib.hid hg
    rw [hg]
    obtain ⟨hgt, hgf, hnd⟩ := goodDs_true hg
    obtain ⟨hn1, hn2, _⟩ := goodTown_true hgt
    have HGT := Lib.hid hgt
    have HGF := Lib.hid hgf
    have HND := Lib.hid hnd
    clear hg hgt hgf hnd
    go_wp2_with fail
    refine (has_c n x _ _ hn1 hn2 e0).mono ?_; rintro e w3 ⟨rfl, rfl⟩
    by_cases hx : inB x 0 (n - 1) = true
    · have HASK : Hid (askD n l f x = true) := Lib.hid (by unfold askD; rw [HDS.out, hx]; rfl)
      rw [hx]
      obtain ⟨hx0, hx1⟩ := inB_true hx
      obtain ⟨N, rfl⟩ := Int.eq_ofNat_of_zero_le (show 0 ≤ n by omega)
      obtain ⟨src, rfl⟩ := Int.eq_ofNat_of_zero_le hx0
      have hs : src < N := by omega
      have E0 := Lib.hid e0
      have E1 := Lib.hid e1
      clear hx hx0 hx1
      go_wp2_with fail
      refine (isNeed_c _ need _ (rd_below HN.out HB1.out)).mono ?_; rintro e w3 ⟨rfl, rfl⟩
      by_cases hne : needB need = true
      · have HV := Lib.hid (sendV_yes HASK.out hne)
        have HNE := Lib.hid hne
        rw [hne]
        clear hne
        go_wp2_with fail
        refine (sendChoiceW_c N s l _ f src w.heap.size _ need _ HGT.out HGF.out HND.out hs HNE.out E0.out E1.out (rd_below HR.out HB1.out) (rd_below HF.out HB1.out) (rd_below HN.out HB1.out) _ _ rfl rfl).mono ?_
        rintro e w3 ho5
        obtain ⟨P, hP⟩ : ∃ P, (pickL f (readyL (distT N (arcs l) src) f) need).1 = P := ⟨_, rfl⟩
        rw [hP] at HV ho5
        by_cases hm : 0 < maxL (missL f P need)
        · rw [if_pos hm] at ho5
          have HM : Hid (sendIn f P need = ([], [], false)) := Lib.hid (by unfold sendIn; rw [if_pos hm])
          obtain ⟨x6, y6, rfl, ho6, ho7, hsep, hb6⟩ := ho5
          have HO6 := Lib.hid ho6
          have HO7 := Lib.hid ho7
          have HSEP := Lib.hid hsep
          have HB6 := Lib.hid (bel_then HB1.out hb6)
          clear ho6 ho7 hsep hb6 hm e0 e1
          go_wp2
          go_ret3
          rw [HV.out, HM.out]
          exact ⟨_, _, rfl, own_base HO6.out HB1.out.size, own_base HO7.out HB1.out.size, HSEP.out, HB6.out⟩
        · rw [if_neg hm] at ho5
          have HM : Hid (sendIn f P need = (sendF f P, namesI f (selD (fun i => decide ((i : Int) ∈ P)) f.length), true)) := Lib.hid (by unfold sendIn; rw [if_neg hm])
          obtain ⟨x6, y6, rfl, ho6, ho7, hsep, hb6⟩ := ho5
          have HO6 := Lib.hid ho6
          have HO7 := Lib.hid ho7
          have HSEP := Lib.hid hsep
          have HB6 := Lib.hid (bel_then HB1.out hb6)
          clear ho6 ho7 hsep hb6 hm e0 e1
          go_wp2
          go_ret3
          rw [HV.out, HM.out]
          exact ⟨_, _, rfl, own_base HO6.out HB1.out.size, own_base HO7.out HB1.out.size, HSEP.out, HB6.out⟩
      · have hne : needB need = false := by simpa using hne
        have HV := Lib.hid (sendV_no2 (n := N) (l := l) (f := f) (x := src) hne)
        rw [hne]
        go_wp2
        go_ret3
        rw [HV.out]
        exact own2_none HB1.out
    · have hx : inB x 0 (n - 1) = false := by simpa using hx
      have HV := Lib.hid (sendV_no1 (l := l) (f := f) (x := x) (n := n) (need := need) (by unfold askD; rw [hx]; simp))
      rw [hx]
      go_wp2
      go_ret3
      rw [HV.out]
      exact own2_none HB1.out
  · have hg : goodDs n l f = false := by simpa using hg
    have HV := Lib.hid (sendV_no1 (x := x) (n := n) (l := l) (f := f) (need := need) (by unfold askD; rw [hg]; rfl))
    rw [hg]
    go_wp2
    go_ret3
    rw [HV.out]
    exact own2_none HB1.out
end Go.Proofs.YthgegghdkoeofaaGreatDoor

namespace Go.Proofs.YthgegghdkoeofaaGreatDoor
set_option linter.unusedVariables false
set_option linter.unusedSimpArgs false
open Go.RowKit

theorem goodAp_call {a : Ap} (h : goodAp a = true) : goodAp (callA a) = true := by
  unfold goodAp callA at *
  simp only [Bool.and_eq_true] at h ⊢
  exact ⟨h.1, by decide⟩
theorem sendF_good {f : List Ap} (h : goodFl f = true) (L : List Int) : goodFl (sendF f L) = true := by
  unfold goodFl at h ⊢
  simp only [Bool.and_eq_true, decide_eq_true_eq, List.all_eq_true, List.mem_range, sendF_len] at h ⊢
  refine ⟨h.1, fun i hi => ?_⟩
  have hi' := h.2 i hi
  have hat : ∀ j, j < f.length → ∃ a b, f[j]? = some a ∧ (sendF f L)[j]? = some b ∧ b.nm = a.nm ∧ (goodAp a = true → goodAp b = true) := fun j hj => by
    have ha : f[j]? = some f[j] := List.getElem?_eq_getElem hj
    refine ⟨f[j], _, ha, by rw [sendF_get, ha]; rfl, ?_, ?_⟩
    · split <;> rfl
    · intro hg
      split
      · exact goodAp_call hg
      · exact hg
  obtain ⟨a, b, ha, hb, hn, hg⟩ := hat i hi
  unfold okAp at hi' ⊢
  rw [ha] at hi'
  rw [hb]
  simp only [Bool.and_eq_true, Bool.or_eq_true, decide_eq_true_eq] at hi' ⊢
  refine ⟨hg hi'.1, ?_⟩
  rcases hi'.2 with h0 | h0
  · exact .inl h0
  · right
    obtain ⟨a', b', ha', hb', hn', _⟩ := hat (i - 1) (by omega)
    rw [ha'] at h0
    rw [hb']
    dsimp only at h0 ⊢
    rw [hn, hn']; exact h0
theorem send_ok {n : Int} {l : List St} {f : List Ap} {x : Int} {need : List Int} (h : (sendChoiceV n l f x need).2.2 = true) : askD n l f x = true ∧ needB need = true := by
  unfold sendChoiceV at h
  split at h
  · assumption
  · cases h
theorem all_same {α : Type} {p q : α → Bool} : ∀ L : List α, (∀ z ∈ L, p z = q z) → L.all p = L.all q := by
  intro L
  induction L with
  | nil => intro _; rfl
  | cons x L ih => intro h; rw [List.all_cons, List.all_cons, h x (by simp), ih (fun y hy => h y (by simp [hy]))]
theorem sum_zero : ∀ L : List Int, (∀ y ∈ L, y = 0) → L.sum = 0 := by
  intro L
  induction L with
  | nil => intro _; rfl
  | cons x L ih =>
    intro h
    rw [List.sum_cons, ih (fun y hy => h y (by simp [hy])), h x (by simp)]; rfl
theorem sum_pos : ∀ L : List Int, (∀ y ∈ L, 0 ≤ y) → (L.sum == 0) = L.all (fun x => inB x 0 0) := by
  intro L
  induction L with
  | nil => intro _; rfl
  | cons x L ih =>
    intro h
    have h0 := h x (by simp)
    have hs : 0 ≤ L.sum := by
      have : ∀ M : List Int, (∀ y ∈ M, 0 ≤ y) → 0 ≤ M.sum := fun M => by
        induction M with
        | nil => intro _; simp
        | cons y M ihM => intro hM; rw [List.sum_cons]; have := ihM (fun z hz => hM z (by simp [hz])); have := hM y (by simp); omega
      exact this L (fun y hy => h y (by simp [hy]))
    rw [List.sum_cons, List.all_cons, ← ih (fun y hy => h y (by simp [hy]))]
    by_cases hx : x = 0
    · subst hx
      have e : inB 0 0 0 = true := by decide
      rw [e, Bool.true_and, Int.zero_add]
    · have e : inB x 0 0 = false := by unfold inB; rw [decide_eq_false (show ¬ x ≤ 0 by omega)]; simp
      rw [e, Bool.false_and]
      exact beq_false_of_ne (by omega)
theorem foldl_max_eq (g : Int → Int) (c : Int) : ∀ (S : List Int) (m : Int), m ≤ c → (∀ i ∈ S, g i ≤ c) → (m = c ∨ ∃ i ∈ S, g i = c) → S.foldl (fun m i => max m (g i)) m = c := by
  intro S
  induction S with
  | nil =>
    intro m _ _ h
    rcases h with h | ⟨i, hi, _⟩
    · exact h
    · simp at hi
  | cons i S ih =>
    intro m hm hS h
    rw [List.foldl_cons]
    have hi := hS i (by simp)
    refine ih (max m (g i)) (by omega) (fun j hj => hS j (by simp [hj])) ?_
    rcases h with h | ⟨j, hj, e⟩
    · left; omega
    · rcases List.mem_cons.1 hj with rfl | hj
      · left; omega
      · exact .inr ⟨j, hj, e⟩
/-- All that is said of what is sent. -/
theorem send_law {N src : Nat} {l : List St} {f : List Ap} {need : List Int} (h : (sendChoiceV N l f src need).2.2 = true) :
    ∃ P : List Int, (pickL f (readyL (distT N (arcs l) src) f) need).1 = P ∧ (sendChoiceV N l f src need).1 = sendF f P ∧ (sendChoiceV N l f src need).2.1 = selN f P ∧ goodFl (sendF f P) = true ∧ ((selN f P).length : Int) = need.sum ∧
      (∀ (i : Nat) (a b : Ap), f[i]? = some a → (sendF f P)[i]? = some b → b = (if hasN (selN f P) b.nm = true then callA a else a)) ∧
      (0 < (selN f P).length → ∃ (C : List Ch) (x : Ch) (k : Nat), chooseForV N l f src need = (C, true) ∧ C.length = k + 1 ∧ C.length ≤ 12 ∧ C[k]? = some x ∧ attendanceTimeV N l f src (selN f P) = (x.cs, true)) := by
  obtain ⟨hask, hne⟩ := send_ok h
  obtain ⟨hds, _, _⟩ := askD_true hask
  obtain ⟨_, hfl, _⟩ := goodDs_true hds
  rw [sendV_yes hask hne] at h ⊢
  obtain ⟨ev, hev⟩ : ∃ ev, distT N (arcs l) src = ev := ⟨_, rfl⟩
  rw [hev] at h ⊢
  have hRm : ∀ y ∈ readyL ev f, ∃ (i : Nat) (a : Ap), y = (i : Int) ∧ f[i]? = some a := fun y hy => by
    obtain ⟨i, a, h1, h2, _⟩ := readyL_mem hy
    exact ⟨i, a, h1, h2⟩
  have hsum := choice_sum (f := f) (R := readyL ev f) (need := need) hfl hne hRm
  have hbd := miss_bd (f := f) (R := readyL ev f) hne
  have hpm := pick_miss f (readyL ev f) need
  have hsub := pick_sub f (readyL ev f) need
  have hPn := pick_nodup f (L := readyL ev f) need (readyL_nodup2 ev f)
  obtain ⟨P, hP⟩ : ∃ P, (pickL f (readyL ev f) need).1 = P := ⟨_, rfl⟩
  rw [hP] at h hsum hpm hsub hPn ⊢
  rw [← hpm] at hsum hbd
  have hPm : ∀ y ∈ P, ∃ (i : Nat) (a : Ap), y = (i : Int) ∧ f[i]? = some a := fun y hy => hRm y (hsub.subset hy)
  have hmax : ¬ 0 < maxL (missL f P need) := fun hc => by
    unfold sendIn at h; rw [if_pos hc] at h; cases h
  have hlen : 0 < (missL f P need).length := by rw [miss_len4, (needB_true hne).1]; omega
  have hz : ∀ y ∈ missL f P need, y = 0 := fun y hy => by
    have h1 := (maxL_spec2 hlen).2 y hy
    have h2 := hbd y hy
    omega
  have hsl := selN_len hPn hPm
  refine ⟨P, rfl, ?_, ?_, sendF_good hfl P, ?_, ?_, ?_⟩
  · unfold sendIn; rw [if_neg hmax]
  · unfold sendIn; rw [if_neg hmax]; rfl
  · rw [sum_zero _ hz] at hsum
    rw [hsl]; omega
  · intro i a b ha hb
    rw [sendF_get, ha] at hb
    have hb := Option.some.inj hb
    dsimp only at hb
    have hnm : b.nm = a.nm := by rw [← hb]; split <;> rfl
    have hm := selN_mem hfl hPm (y := (i : Int)) rfl ha
    rw [nmI_at ha] at hm
    rw [hnm]
    by_cases hi : (i : Int) ∈ P
    · rw [if_pos (hasN_iff.2 (hm.2 hi)), ← hb]
      rw [if_pos hi]
    · rw [if_neg (by rw [hasN_false (fun k => hi (hm.1 k))]; simp), ← hb]
      rw [if_neg hi]
  · intro hpos
    rw [hsl] at hpos
    obtain ⟨k, hk⟩ : ∃ k, P.length = k + 1 := ⟨P.length - 1, by omega⟩
    obtain ⟨y, hy⟩ : ∃ y, P[k]? = some y := ⟨_, List.getElem?_eq_getElem (by omega)⟩
    have hyP := List.mem_of_getElem? hy
    have hcs : ∀ z ∈ P, (chAt f ev z).cs = rdyKey ev f z := fun z hz => by
      obtain ⟨i, a, rfl, ha⟩ := hPm z hz
      rw [chAt_at ha, rdyKey_at ha]
    have hk0 : ∀ z ∈ P, 0 ≤ rdyKey ev f z := fun z hz => by
      obtain ⟨i, a, e, ha, _, h0⟩ := readyL_mem (hsub.subset hz)
      rw [e, rdyKey_at ha]; exact h0
    have hup := (ready_up ev f).sublist hsub
    have hlast : ∀ z ∈ P, rdyKey ev f z ≤ rdyKey ev f y := fun z hz => by
      obtain ⟨i, hi, rfl⟩ := List.getElem_of_mem hz
      obtain ⟨hk2, rfl⟩ := List.getElem?_eq_some_iff.1 hy
      rcases Nat.lt_or_eq_of_le (show i ≤ k by omega) with hlt | e
      · exact (List.pairwise_iff_getElem.1 hup) i k hi hk2 hlt
      · subst e; exact Int.le_refl _
    have hSm : ∀ z ∈ selD (fun i => decide ((i : Int) ∈ P)) f.length, z ∈ P := fun z hz => by
      obtain ⟨i, rfl, _, hp⟩ := selD_mem hz
      exact of_decide_eq_true hp
    have hyS : y ∈ selD (fun i => decide ((i : Int) ∈ P)) f.length := by
      obtain ⟨i, a, rfl, ha⟩ := hPm y hyP
      unfold selD
      exact List.mem_map.2 ⟨i, List.mem_filter.2 ⟨List.mem_range.2 (List.getElem?_eq_some_iff.1 ha).1, decide_eq_true hyP⟩, rfl⟩
    have hfa : ∀ z ∈ P, findA (nmI f z) f = z := fun z hz => by
      obtain ⟨i, a, rfl, ha⟩ := hPm z hz
      rw [nmI_at ha, find_at hfl ha]
    refine ⟨chL f ev P, chAt f ev y, k, ?_, by rw [chL_len, hk], ?_, ?_, ?_⟩
    · rw [chooseFor_yes hask hne, hev, hP]
    · rw [chL_len]
      exact Nat.le_trans hsub.length_le (Nat.le_trans (readyL_len ev f) (goodFl_true hfl).1)
    · unfold chL; rw [List.getElem?_map, hy]; rfl
    · have hnB : namesB (selN f P) = true := names_of_rise hfl _ (selD_rise _ _) (fun z hz => by
        obtain ⟨i, rfl, hi, _⟩ := selD_mem hz
        exact ⟨i, _, rfl, List.getElem?_eq_getElem hi⟩)
      rw [att_yes hask (by rw [hsl]; omega) hnB (by
        rw [List.all_eq_true]
        intro nm hnm
        unfold selN namesI at hnm
        obtain ⟨z, hz, rfl⟩ := List.mem_map.1 hnm
        have hzP := hSm z hz
        obtain ⟨i, a, e, ha⟩ := hPm z hzP
        unfold attOk
        rw [hfa z hzP, hev, decide_eq_true (show 0 ≤ z by omega), decide_eq_true (hk0 z hzP)]; rfl)]
      rw [hev, hcs y hyP]
      congr 1
      unfold attMax selN namesI
      rw [List.foldl_map]
      have : ∀ (S : List Int) (m : Int), (∀ z ∈ S, z ∈ P) → S.foldl (fun m z => max m (rdyKey ev f (findA (nmI f z) f))) m = S.foldl (fun m z => max m (rdyKey ev f z)) m := by
        intro S
        induction S with
        | nil => intro m _; rfl
        | cons z S ih =>
          intro m hS
          rw [List.foldl_cons, List.foldl_cons, hfa z (hS z (by simp)), ih _ (fun u hu => hS u (by simp [hu]))]
      rw [this _ _ hSm]
      exact foldl_max_eq (rdyKey ev f) _ _ 0 (hk0 y hyP) (fun z hz => hlast z (hSm z hz)) (.inr ⟨y, hyS, rfl⟩)
theorem serv_ok {n : Int} {l : List St} {f : List Ap} {need : List Int} {limit : Int} (h : (servedNodesV n l f need limit).2 = true) : goodDs n l f = true ∧ needB need = true ∧ inB limit 0 36000 = true := by
  unfold servedNodesV at h
  split at h
  · assumption
  · cases h
/-- A node is served where nothing is missing and all come in time. -/
theorem serv_law {N : Nat} {l : List St} {f : List Ap} {need : List Int} {limit : Int} (h : (servedNodesV N l f need limit).2 = true) {x : Nat} (hx : x < N) :
    ∃ (C : List Ch) (M : List Int), chooseForV N l f x need = (C, true) ∧ missingKindsV N l f x need = (M, true) ∧ C.length ≤ 12 ∧ M.length = 4 ∧ (∀ y ∈ M, 0 ≤ y ∧ y ≤ 6) ∧ decide ((x : Int) ∈ (servedNodesV N l f need limit).1) = ((M.sum == 0) && C.all fun c => decide (c.cs ≤ limit)) := by
  obtain ⟨hds, hne, hlim⟩ := serv_ok h
  have hask : askD N l f x = true := by unfold askD; rw [hds, inB_of (by omega) (by omega)]; rfl
  obtain ⟨_, hfl, _⟩ := goodDs_true hds
  rw [serv_yes hds hne hlim]
  obtain ⟨ev, hev⟩ : ∃ ev, distT N (arcs l) x = ev := ⟨_, rfl⟩
  have hsub := pick_sub f (readyL ev f) need
  have hbd := miss_bd (f := f) (R := readyL ev f) hne
  refine ⟨chL f ev (pickL f (readyL ev f) need).1, (pickL f (readyL ev f) need).2, by rw [chooseFor_yes hask hne, hev], by rw [missV_yes hask hne, hev], ?_, ?_, hbd, ?_⟩
  · rw [chL_len]
    exact Nat.le_trans hsub.length_le (Nat.le_trans (readyL_len ev f) (goodFl_true hfl).1)
  · rw [← pick_miss, miss_len4, (needB_true hne).1]
  · have hin : decide ((x : Int) ∈ selD (servP l f need limit N) N) = servP l f need limit N x := by
      by_cases hp : servP l f need limit N x = true
      · rw [hp]
        refine decide_eq_true ?_
        unfold selD
        exact List.mem_map.2 ⟨x, List.mem_filter.2 ⟨List.mem_range.2 hx, hp⟩, rfl⟩
      · have hp : servP l f need limit N x = false := by simpa using hp
        rw [hp]
        refine decide_eq_false (fun hm => ?_)
        obtain ⟨i, e, _, hi⟩ := selD_mem hm
        have : i = x := by omega
        subst this
        rw [hp] at hi; cases hi
    dsimp only
    rw [hin]
    unfold servP
    rw [hev, sum_pos _ (fun y hy => (hbd y hy).1)]
    congr 1
    unfold chL
    rw [List.all_map]
    refine all_same _ (fun z hz => ?_)
    obtain ⟨i, a, rfl, ha, _⟩ := readyL_mem (hsub.subset hz)
    show _ = decide ((chAt f ev (i : Int)).cs ≤ limit)
    rw [chAt_at ha, rdyKey_at ha]
end Go.Proofs.YthgegghdkoeofaaGreatDoor

namespace Go.Proofs.YthgegghdkoeofaaGreatDoor
set_option linter.unusedVariables false
set_option linter.unusedSimpArgs false
open Go.RowKit

set_option maxRecDepth 100000 in
set_option maxHeartbeats 1000000 in
theorem pSum_c (v : Value) (l : List Int) (w : World) (hr : RdI w v l) (hl : l.length ≤ 1000) (hb : ∀ x ∈ l, 0 ≤ x ∧ x ≤ 1000) :
    Calls Tryz.prog 30 #[v] w fun en w' => en = .returned (.int .i64 l.sum) ∧ Below w.heap.size w w' := by
  obtain ⟨A, c, rfl, hc, hm, hr⟩ := hr
  rw [maxLen_eq] at hm
  have HS := Lib.hid hr
  have HP := Lib.hid hb
  clear hr hb
  go_enter Tryz.func30, Tryz.ntmps30
  go_wp2_with fail
  go_loopw [3, 8] (fun vs vi wr => ∃ k : Nat, k ≤ l.length ∧ vi = .int .i64 k ∧ vs = .int .i64 (l.take k).sum ∧ 0 ≤ (l.take k).sum ∧ (l.take k).sum ≤ k * 1000 ∧ Hid (Below w.heap.size w wr)) (fun _ vi _ => l.length - (intOf vi).toNat)
  case atStart => exact ⟨0, Nat.zero_le _, rfl, rfl, by simp, by simp, Lib.hid (Below.refl _ _)⟩
  case round =>
    obtain ⟨k, hk, rfl, rfl, s0, s1, HB⟩ := hrel
    have i0 : (0 : Int) ≤ (k : Int) := by omega
    by_cases hlt : k < l.length
    · obtain ⟨b, off, rfl, hbl, hcell⟩ := HS.out (by omega)
      obtain ⟨x, hx⟩ : ∃ x, l[k]? = some x := ⟨_, List.getElem?_eq_getElem hlt⟩
      have c0 := cell_at hcell HB.out hbl (ints_get hx)
      obtain ⟨x0, x1⟩ := HP.out x (List.mem_of_getElem? hx)
      have i1 : (k : Int) < (l.length : Int) := by omega
      have es : (l.take (k + 1)).sum = (l.take k).sum + x := by rw [take_succ_of hx, List.sum_append]; simp
      have ES := Lib.hid es
      obtain ⟨S, hS⟩ : ∃ S, (l.take k).sum = S := ⟨_, rfl⟩
      have HSS := Lib.hid hS
      rw [hS] at s0 s1 ⊢
      have ew : IntKind.i64.wrap (S + x) = S + x := IntWalk.i64_in _ (by omega)
      clear hcell hx es hS
      go_wp2
      exact ⟨⟨k + 1, by omega, by go_num, by rw [ES.out, HSS.out], by rw [ES.out, HSS.out]; omega, by rw [ES.out, HSS.out]; push_cast; omega, HB⟩, by simp [intOf]; omega⟩
    · obtain rfl : k = l.length := by omega
      rw [List.take_length]
      go_wp2
      go_ret
      exact ⟨rfl, HB.out⟩
/-- The index of the appliance with a name. -/
def findV (nm : ByteArray) (f : List Ap) : Int × Bool := if goodFl f = true ∧ 0 ≤ findA nm f then (findA nm f, true) else (0, false)
set_option maxRecDepth 100000 in
set_option maxHeartbeats 1000000 in
theorem findApplianceS_c (v : Value) (f : List Ap) (nm : ByteArray) (w : World) (hz : ∀ x ∈ f, x.nm.size ≤ 9223372036854775807) (hf : Rd w v f.length (f.flatMap Ap.cells)) :
    Calls Tryz.prog 10 #[v, .string nm] w fun e w' => e = .returned (.tuple #[.int .i64 (findV nm f).1, .bool (findV nm f).2]) ∧ Below w.heap.size w w' := by
  have HF := Lib.hid hf
  have HZ := Lib.hid hz
  clear hf hz
  obtain ⟨K, hK⟩ : ∃ K, findA nm f = K := ⟨_, rfl⟩
  have HK := Lib.hid hK
  have HV : Hid (findV nm f = if goodFl f = true ∧ 0 ≤ K then (K, true) else (0, false)) := Lib.hid (by unfold findV; rw [hK])
  clear hK
  go_enter Tryz.func10, Tryz.ntmps10
  go_wp2_with fail
  refine (apFleet_c _ f _ HZ.out HF.out).mono ?_; rintro e w1 ⟨rfl, hb⟩
  have HB := Lib.hid hb
  clear hb
  cases hg : goodFl f with
  | false =>
    have HG := Lib.hid hg
    clear hg
    go_wp2
    go_ret2
    rw [HV.out, if_neg (by rw [HG.out]; simp)]
    exact ⟨rfl, HB.out⟩
  | true =>
    have HG := Lib.hid hg
    clear hg
    go_wp2_with fail
    refine (apFind_c _ f nm _ (rd_below HF.out HB.out)).mono ?_; rw [HK.out]; rintro e w2 ⟨rfl, hb⟩
    have HB2 := Lib.hid (bel_then HB.out hb)
    clear hb
    by_cases hk : K < 0
    · go_wp2
      go_ret2
      rw [HV.out, if_neg (by omega)]
      exact ⟨rfl, HB2.out⟩
    · go_wp2_with fail
      refine (apFind_c _ f nm _ (rd_below HF.out HB2.out)).mono ?_; rw [HK.out]; rintro e w3 ⟨rfl, hb⟩
      have HB3 := Lib.hid (bel_then HB2.out hb)
      clear hb
      go_wp2
      go_ret2
      rw [HV.out, if_pos ⟨HG.out, by omega⟩]
      exact ⟨rfl, HB3.out⟩
end Go.Proofs.YthgegghdkoeofaaGreatDoor
