/-
  SendChoice: what is sent, for the walk of impl.sendChoice. impl.sendChoice. spec.dsSend: the fleet with those of a list called, and their names. SendChoice: both sides (printed by gen_send.py). (joined by pack.py: SendI SendW SendS Send)
-/
import Derived.Test.YtddccjdppbcnbaaGreatK20
import Derived.Test.YtddccjdppbcnbaaGreatK21
import Derived.Test.YtddccjdppbcnbaaGreatK3
import Derived.Test.YtddccjdppbcnbaaGreatK23
import Derived.Test.YtddccjdppbcnbaaGreatK9
import Derived.WalkSpells
namespace Go.Proofs.YtddccjdppbcnbaaGreat
set_option linter.unusedVariables false
set_option linter.unusedSimpArgs false
open Go.RowKit

def namesI (f : List Ap) (S : List Int) : List ByteArray := S.map (nmI f)
theorem namesI_snoc {f : List Ap} {S : List Int} {k : Nat} {y : Int} (h : S[k]? = some y) : namesI f (S.take (k + 1)) = namesI f (S.take k) ++ [nmI f y] := by unfold namesI; rw [take_succ_of h, List.map_append]; rfl
theorem namesI_len (f : List Ap) (S : List Int) : (namesI f S).length = S.length := by simp [namesI]
theorem strs_snoc (a : List ByteArray) (x : ByteArray) : strs (a ++ [x]) = strs a ++ [.string x] := by simp [strs]
theorem sendF_nm {f : List Ap} {S : List Int} {i : Nat} {a : Ap} (h : f[i]? = some a) : ∃ b, (sendF f S)[i]? = some b ∧ b.nm = a.nm ∧ b.nd = a.nd ∧ b.kd = a.kd := by
  rw [sendF_get, h]
  refine ⟨_, rfl, ?_⟩
  dsimp only
  split <;> exact ⟨rfl, rfl, rfl⟩
theorem sendF_congr {f : List Ap} {S T : List Int} (h : ∀ x, x ∈ S ↔ x ∈ T) : sendF f S = sendF f T := by
  unfold sendF
  simp only [h]
/-- What is sent: the fleet and the names, both of the call's own. -/
def Own2 (F : List Ap) (q : List ByteArray) (b : Bool) (w : World) (e : Ending) (w' : World) : Prop :=
  ∃ x y, e = .returned (.tuple #[x, y, .bool b]) ∧ w'.ownsRow w.heap.size 60 5 x F.length (F.flatMap Ap.cells) ∧ w'.ownsRow w.heap.size 9 1 y q.length (strs q) ∧ Sep x y ∧ Below w.heap.size w w'
end Go.Proofs.YtddccjdppbcnbaaGreat

namespace Go.Proofs.YtddccjdppbcnbaaGreat
set_option linter.unusedVariables false
set_option linter.unusedSimpArgs false
open Go.RowKit

theorem readyL_nodup (ev : List Int) (f : List Ap) : (readyL ev f).Nodup := by
  unfold readyL
  rw [(isort_perm _ _).nodup_iff]
  unfold selD
  exact nodup_map_of _ _ (nodup_filter _ List.nodup_range) (fun (x : Nat) _ (y : Nat) _ e => by have h : (x : Int) = (y : Int) := e; omega)
theorem own_down {w : World} {base base' : Nat} {e : TypeId} {sz : Nat} {v : Value} {n : Nat} {xs : List Value} (h : w.ownsRow base e sz v n xs) (hb : base' ≤ base) : w.ownsRow base' e sz v n xs := by
  refine ⟨h.1, h.2.imp id ?_⟩
  rintro ⟨g, cap, cur, e1, h1, r⟩
  exact ⟨g, cap, cur, e1, Nat.le_trans hb h1, r⟩
theorem miss_len4 (f : List Ap) : ∀ (L d : List Int), (missL f L d).length = d.length := by
  intro L
  induction L with
  | nil => intro d; rfl
  | cons i L ih => intro d; unfold missL; rw [List.foldl_cons]; have := ih (missStep f d i); unfold missL at this; rw [this]; unfold missStep; simp
theorem sortO_c (v : Value) (P : List Int) (base : Nat) (w : World) (ho : w.ownsRow base 3 1 v P.length (ints P)) (hn : P.length < 4611686018427387904) :
    Calls Tryz.prog 53 #[v] w fun e w' => e = .returned (.tuple #[]) ∧ w'.ownsRow base 3 1 v P.length (ints (P.mergeSort fun x y => decide (x ≤ y))) ∧ w.grownBy w' v.ownBlock := by
  by_cases hp : 0 < P.length
  · exact sort_c v P base w ho hp hn
  · obtain rfl : P = [] := List.eq_nil_of_length_eq_zero (by omega)
    obtain ⟨A, c, rfl, _⟩ := own_rd ho
    refine (sort0_c A c w).mono ?_
    rintro e w' ⟨rfl, rfl⟩
    exact ⟨rfl, by simpa using ho, World.grownBy.refl _ _⟩
set_option maxRecDepth 100000 in
set_option maxHeartbeats 4000000 in
/-- The loop behind the sort: the states set, the names gathered. -/
theorem sendChoiceW_c (N : Nat) (s : Value) (l : List St) (v : Value) (f : List Ap) (src B : Nat) (vn : Value) (need : List Int) (w : World) (hg : goodTown N l = true) (hfl : goodFl f = true) (hnd : ∀ a ∈ f, 0 ≤ a.nd ∧ a.nd ≤ (N : Int) - 1) (hs : src < N) (hne : needB need = true)
    (t0 : w.cell? ⟨B, 0, none⟩ = some (.int .i64 N)) (t1 : w.cell? ⟨B, 1, none⟩ = some s) (hr : Rd w s l.length (l.flatMap St.cells)) (hf : Rd w v f.length (f.flatMap Ap.cells)) (hvn : RdI w vn need) (ev P : List Int) (hev : distT N (arcs l) src = ev) (hP : (pickL f (readyL ev f) need).1 = P) :
    Calls Tryz.prog 33 #[.pointer (some ⟨B, 0, none⟩), v, .int .i64 src, vn] w
      (if 0 < maxL (missL f P need) then Own2 [] [] false w else Own2 (sendF f P) (namesI f (selD (fun i => decide ((i : Int) ∈ P)) f.length)) true w) := by
  have HR := Lib.hid hr
  have HF := Lib.hid hf
  obtain ⟨A, cA, rfl, hcA, hmA, hcellA⟩ := hf
  rw [maxLen_eq] at hmA
  have HCELL := Lib.hid hcellA
  have HN := Lib.hid hvn
  have HGT := Lib.hid hg
  have HGF := Lib.hid hfl
  have HND := Lib.hid hnd
  have HNE := Lib.hid hne
  have T0 := Lib.hid t0
  have T1 := Lib.hid t1
  obtain ⟨hm5, hl5⟩ := readyTimes_mem (ev := ev) hfl
  obtain ⟨hpm, hpl⟩ := pick_mem f (fun y => ∃ (i : Nat) (a : Ap), y = (i : Int) ∧ f[i]? = some a) (readyL ev f) need hm5
  rw [hP] at hpm hpl
  have HPM := Lib.hid hpm
  have hp12 : P.length ≤ 12 := by omega
  have HPN : Hid P.Nodup := Lib.hid (by rw [← hP]; exact pick_nodup f need (readyL_nodup ev f))
  have HPI : Hid (∀ y ∈ P, ∃ i : Nat, y = (i : Int) ∧ i < f.length) := Lib.hid (fun y hy => by
    obtain ⟨i, a, e, ha⟩ := hpm y hy
    exact ⟨i, e, (List.getElem?_eq_some_iff.1 ha).1⟩)
  have hf12 := (goodFl_true hfl).1
  have HPE : Hid ((pickL f (readyL (distT N (arcs l) src) f) need).1 = P) := Lib.hid (by rw [hev]; exact hP)
  clear hr hcellA hvn hg hfl hnd hne t0 t1 hpm hm5 hpl hev hP
  go_enter Tryz.func33, Tryz.ntmps33
  go_wp2_with fail
  refine (choose_c N s l _ f src B _ need _ HGT.out HGF.out HND.out hs HNE.out T0.out T1.out HR.out HF.out HN.out).mono ?_
  rintro e w1 ⟨vo, rfl, ho, hb1⟩
  rw [HPE.out] at ho
  have HB1 := Lib.hid hb1
  have HO := Lib.hid ho
  clear hb1 ho
  go_wp2_with fail
  refine (missing_c _ f _ P _ need _ HGF.out HNE.out HPM.out hp12 (rd_below HF.out HB1.out) (rdi_own HO.out) (rd_below HN.out HB1.out)).mono ?_
  rintro e w2 ⟨vm, rfl, hm, hb2⟩
  have HB2 := Lib.hid (bel_then HB1.out hb2)
  have HO2 := Lib.hid (own_below HO.out hb2)
  have HM := Lib.hid hm
  clear hb2 hm
  go_wp2_with fail
  refine (max_c _ (missL f P need) _ (rdi_own HM.out) (by rw [miss_len4, (needB_true HNE.out).1]; omega)).mono ?_; rintro e w3 ⟨rfl, rfl⟩
  obtain ⟨mx, hmx⟩ : ∃ mx, maxL (missL f P need) = mx := ⟨_, rfl⟩
  rw [hmx]
  by_cases hpos : 0 < mx
  · have HPOS := Lib.hid hpos
    go_wp2
    go_ret3
    exact ⟨_, _, rfl, World.ownsRow_nil _ _ _ _, World.ownsRow_nil _ _ _ _, (by intro q q' h; cases h), HB2.out⟩
  · have hle : mx ≤ 0 := by omega
    have HLE : Hid (¬ 0 < maxL (missL f P need)) := Lib.hid (by rw [hmx]; exact hpos)
    clear hpos hmx
    go_wp2_with fail
    refine (sortO_c _ P _ _ HO2.out (by omega)).mono ?_
    rintro e w4 ⟨rfl, hs4, hg4⟩
    rw [sort_eq HPN.out HPI.out] at hs4
    have HB4 : Hid (Below w.heap.size w w4) := Lib.hid (bel_grown HB2.out hg4 (fun q e => (HO2.out.lt q e).1))
    obtain ⟨S, hS⟩ : ∃ S, selD (fun i => decide ((i : Int) ∈ P)) f.length = S := ⟨_, rfl⟩
    have hPS : P.length = S.length := by
      have := hs4.1
      rw [ints_len, hS] at this
      omega
    rw [hS, hPS] at hs4
    have hS12 : S.length ≤ 12 := by omega
    have HSE := Lib.hid hS
    have HS4 := Lib.hid hs4
    have hs42 := hg4.size
    obtain ⟨AS, cS, rfl, hcS, hmS, hclS⟩ := rdi_own hs4
    rw [maxLen_eq] at hmS
    have HCS := Lib.hid hclS
    have HSM : Hid (∀ y ∈ S, ∃ (i : Nat) (a : Ap), y = (i : Int) ∧ f[i]? = some a) := Lib.hid (fun y hy => by
      rw [← hS] at hy
      obtain ⟨i, rfl, hi, _⟩ := selD_mem hy
      exact ⟨i, _, rfl, List.getElem?_eq_getElem hi⟩)
    clear hs4 hg4 hclS hS hPS
    go_wp2_with fail
    refine (cloneA_c _ f _ (rd_below HF.out HB4.out) (by omega)).mono ?_
    rintro e w5 ⟨vc, rfl, hc, hb5⟩
    have hs45 := hb5.size
    have hw4 := HB4.out.size
    have HC5 : Hid (w5.ownsRow w4.heap.size 60 5 vc f.length ((sendF f (S.take 0)).flatMap Ap.cells)) := Lib.hid (by rw [List.take_zero, sendF_nil]; exact hc)
    have HB5 := Lib.hid hb5
    obtain ⟨i0', hi, hz0, hz1, hz2⟩ := info_parts Tryz.infoStr
    clear hb5 hc
    go_wp2_with fail
    go_loopw [13, 33] (fun vo vi wr => ∃ (k : Nat) (q : List ByteArray), k ≤ S.length ∧ q.length = k ∧ vi = .int .i64 k ∧ w5.heap.size ≤ wr.heap.size ∧ Hid (namesI f (S.take k) = q) ∧ Hid (wr.ownsRow w4.heap.size 60 5 vc f.length ((sendF f (S.take k)).flatMap Ap.cells)) ∧ Hid (wr.ownsRow w5.heap.size 9 1 vo k (strs q)) ∧ Hid (Below w4.heap.size w4 wr)) (fun _ vi _ => S.length - (intOf vi).toNat)
    case atStart => exact ⟨0, [], Nat.zero_le _, rfl, rfl, Nat.le_refl _, Lib.hid rfl, HC5, Lib.hid (World.ownsRow_nil _ _ _ _), HB5⟩
    case round =>
      obtain ⟨k, q, hk, hqk, rfl, hsw, HQ, HC, HNM, HBL⟩ := hrel
      have HQK := Lib.hid hqk
      obtain ⟨wA, rfl⟩ : ∃ wA : World, wA = wr := ⟨_, rfl⟩
      by_cases hlt : k < S.length
      · obtain ⟨bS, offS, rfl, hbS, hcS'⟩ := HCS.out (by omega)
        obtain ⟨y, hy⟩ : ∃ y, S[k]? = some y := ⟨_, List.getElem?_eq_getElem hlt⟩
        obtain ⟨i, a, rfl, ha⟩ := HSM.out y (List.mem_of_getElem? hy)
        have hif : i < f.length := (List.getElem?_eq_some_iff.1 ha).1
        have co := cell_at hcS' HBL.out hbS (ints_get hy)
        obtain ⟨b0, hb0, hb1, _, _⟩ := sendF_nm (S := S.take k) ha
        obtain ⟨gc, cc, rfl, hgc, hgcA, _, _⟩ := own_shape HC.out (by omega)
        have hgc5 : gc < w5.heap.size := (HC5.out.lt gc rfl).2
        have c4 := (HC.out.cellAt (i * 5 + 4) (by omega)).trans (flat_get Ap.cells_len _ i b0 hb0 4 (by omega))
        have f4 := HC.out.frozenAt (i * 5 + 4)
        have hnm := nmI_at ha
        have HSN : Hid (namesI f (S.take (k + 1)) = q ++ [a.nm]) := Lib.hid (by rw [namesI_snoc hy, HQ.out, hnm])
        have HST : Hid ((wA.setCell ⟨gc, i * 5 + 4, none⟩ (.int .i64 1)).ownsRow w4.heap.size 60 5 (.slice (some ⟨gc, 0, none⟩) f.length cc) f.length ((sendF f (S.take (k + 1))).flatMap Ap.cells)) := Lib.hid (by
          have h1 := (HC.out.stored (i * 5 + 4) (.int .i64 1)).1
          rw [put_state hb0] at h1
          have h2 : (sendF f (S.take k)).set i (callA b0) = sendF f (S.take (k + 1)) := by rw [sendF_snoc hb0, take_succ_of hy]
          rw [h2] at h1
          exact h1)
        obtain ⟨b, off, rfl, hbl, hcell⟩ : ∃ b off, A = some ⟨b, off, none⟩ ∧ b < w.heap.size ∧ ∀ j u, (f.flatMap Ap.cells)[j]? = some u → w.cell? ⟨b, off + j, none⟩ = some u := HCELL.out (by omega)
        obtain ⟨nm, kd, nd, cr, sv⟩ := a
        obtain ⟨d0, _, _, _, _⟩ := ap_at hcell (bel_then HB4.out HBL.out) hbl ha
        dsimp only at d0
        have d9 : (wA.setCell ⟨gc, i * 5 + 4, none⟩ (.int .i64 1)).cell? ⟨b, off + i * 5, none⟩ = some (.string nm) := (gro_cell (only_setCell (World.grownBy.refl wA (some gc)) (i * 5 + 4) _) (by show b < _; omega) (by omega)).trans d0
        have HNS := Lib.hid (own_other HNM.out (g := gc) hgc5 (i * 5 + 4) (.int .i64 1))
        have HBS := Lib.hid (Below.setCell (p := ⟨gc, i * 5 + 4, none⟩) HBL.out hgc (.int .i64 1))
        have i0 : (0 : Int) ≤ (i : Int) := by omega
        have i1 : (i : Int) < (f.length : Int) := by omega
        have hz0' : (wA.setCell ⟨gc, i * 5 + 4, none⟩ (.int .i64 1)).heap.size = wA.heap.size := by simp
        clear hcS' hy ha hb0 hcell hnm hqk
        go_upto_region 11 with fail
        obtain ⟨wB, hwB⟩ : ∃ wB, wA.setCell ⟨gc, i * 5 + 4, none⟩ (.int .i64 1) = wB := ⟨_, rfl⟩
        rw [hwB] at HST d9 HNS HBS hz0'
        rw [hwB]
        clear hwB
        go_wp2_with (at_builtin; go_must (refine wpList_app_rd _ rfl _ _ 30 rfl w5.heap.size 9 i0' (.string ⟨#[]⟩) 1 16 Tryz.underlying30 hi hz0 hz1 hz2 rfl (by decide) _ _ _ rfl (HNS.out.alloc _) _ 1 [.string nm] rfl (rd_new _ hz0'.symm (Nat.le_refl _) (by rw [maxLen_eq]; omega)) rfl (by intro u hu; simp at hu; rcases hu with rfl; rfl) (by rw [maxLen_eq]; omega) (by omega) (by simp; omega) ?_); intro v7 w7 hown7 hgrow7 _)
        have hg7 : (wB.alloc (.cells #[.string nm] 9)).grownBy w7 u13.ownBlock := hgrow7
        have hsz7 := hg7.size
        have hszA : (wB.alloc (.cells #[.string nm] 9)).heap.size = wB.heap.size + 1 := by simp
        have HN7 : Hid (w7.ownsRow w5.heap.size 9 1 v7 (k + 1) (strs (q ++ [nm]))) := Lib.hid (by rw [strs_snoc]; exact hown7)
        refine ⟨⟨k + 1, q ++ [nm], hlt, by simp [HQK.out], by simp, by omega, HSN, ?_, HN7, ?_⟩, by simp [intOf]; omega⟩
        · refine Lib.hid ((HST.out.alloc _).kept hg7 (.inr (fun e => ?_)))
          have h1 : (some gc : Option Nat) = u13.ownBlock := e
          have := (HNS.out.lt gc h1.symm).1
          omega
        · exact Lib.hid (bel_grown (bel_al HBS.out _) hg7 (fun g e => by have := (HNS.out.lt g e).1; omega))
      · obtain rfl : k = S.length := by omega
        have hmem : ∀ x, x ∈ S ↔ x ∈ P := by
          intro x
          rw [← HSE.out]
          unfold selD
          constructor
          · intro hx
            obtain ⟨i, hi, rfl⟩ := List.mem_map.1 hx
            have := (List.mem_filter.1 hi).2
            exact of_decide_eq_true this
          · intro hx
            obtain ⟨i, rfl, hi⟩ := HPI.out x hx
            exact List.mem_map.2 ⟨i, List.mem_filter.2 ⟨List.mem_range.2 hi, decide_eq_true hx⟩, rfl⟩
        have hHC := HC.out
        have hHQ := HQ.out
        rw [List.take_length] at hHC hHQ
        rw [sendF_congr hmem] at hHC
        have hHN := HNM.out
        rw [← hqk] at hHN
        clear hlt hmem hk hqk
        go_wp2_with fail
        · exfalso; have := HLE.out; omega
        · rw [HSE.out, hHQ]
          go_ret3
          refine ⟨_, _, rfl, (by rw [sendF_len]; exact own_down hHC hw4), own_down hHN (by omega), ?_, bel_then HB4.out HBL.out⟩
          intro q1 q2 h1 h2
          have h3 := (HNM.out.lt q2 h2).1
          have h4 := (HC5.out.lt q1 h1).2
          omega
end Go.Proofs.YtddccjdppbcnbaaGreat

namespace Go.Proofs.YtddccjdppbcnbaaGreat
set_option linter.unusedVariables false
set_option linter.unusedSimpArgs false
open Go.RowKit

theorem put_ap {F : List Ap} {i : Nat} {a b : Ap} (h : F[i]? = some b) : putAt (F.flatMap Ap.cells) (i * 5) a.cells = (F.set i a).flatMap Ap.cells := by
  have hi := (List.getElem?_eq_some_iff.1 h).1
  have ha := (List.getElem?_eq_some_iff.1 h).2
  have hd : F = F.take i ++ (b :: F.drop (i + 1)) := by rw [← ha, ← List.drop_eq_getElem_cons hi, List.take_append_drop]
  have hl : (F.take i).length = i := by rw [List.length_take]; omega
  have h2 : F.set i a = F.take i ++ (a :: F.drop (i + 1)) := by
    conv => lhs; rw [hd]
    rw [List.set_append_right _ _ (by omega), hl, Nat.sub_self]; rfl
  rw [h2]
  conv => lhs; rw [hd]
  rw [List.flatMap_append, List.flatMap_append, List.flatMap_cons, List.flatMap_cons]
  exact putAt_block _ _ _ _ (by rw [Ap.cells_len, Ap.cells_len]) _ (by rw [len_flat Ap.cells_len, hl])
/-- The fleet and the names, both of the call's own (two results). -/
def Own2p (F : List Ap) (q : List ByteArray) (w : World) (e : Ending) (w' : World) : Prop :=
  ∃ x y, e = .returned (.tuple #[x, y]) ∧ w'.ownsRow w.heap.size 60 5 x F.length (F.flatMap Ap.cells) ∧ w'.ownsRow w.heap.size 9 1 y q.length (strs q) ∧ Sep x y ∧ Below w.heap.size w w'
set_option maxRecDepth 100000 in
set_option maxHeartbeats 600000 in
theorem dsSend_c (v : Value) (f : List Ap) (vp : Value) (P : List Int) (w : World) (hf12 : f.length ≤ 12) (hP : ∀ y ∈ P, ∃ i : Nat, y = (i : Int) ∧ i < f.length) (hf : Rd w v f.length (f.flatMap Ap.cells)) (hp : RdI w vp P) :
    Calls Tryz.prog 27 #[v, vp] w (Own2p (sendF f P) (namesI f (selD (fun i => decide ((i : Int) ∈ P)) f.length)) w) := by
  have HR := Lib.hid hf
  have HPR := Lib.hid hp
  have HPI := Lib.hid hP
  obtain ⟨A, cA, rfl, hcA, hmA, hcellA⟩ := hf
  rw [maxLen_eq] at hmA
  have HCELL := Lib.hid hcellA
  clear hcellA hp hP
  obtain ⟨i0, hi, hz0, hz1, hz2⟩ := info_parts Tryz.infoAp
  obtain ⟨j0, hj, hj0, hj1, hj2⟩ := info_parts Tryz.infoStr
  go_enter Tryz.func27, Tryz.ntmps27
  go_wp2_with (at_builtin; go_must (refine wpList_app_rd _ rfl _ _ 29 rfl w.heap.size 60 i0 _ 5 48 Tryz.underlying29 hi hz0 hz1 hz2 rfl (by decide) _ _ _ rfl (World.ownsRow_made (size := 5) w #[] 0 (Nat.le_refl _) (Nat.zero_le _) rfl) _ f.length (f.flatMap Ap.cells) rfl (rd_below HR.out (bel_al (Below.refl _ _) _)) (by rw [len_flat Ap.cells_len]) (ap_one f) (by rw [maxLen_eq]; omega) (by omega) (by simp) ?_); intro vc w5 hown' hgrow _)
  have hg5 := hgrow.size
  have hB5 : Below w.heap.size w w5 := bel_grown (bel_al (Below.refl _ _) _) hgrow (fun q e => by
    have h : w.heap.size = q := Option.some.inj e
    omega)
  have hC5 : w5.ownsRow w.heap.size 60 5 vc f.length (f.flatMap Ap.cells) := by simpa using hown'
  have HC5 : Hid (w5.ownsRow w.heap.size 60 5 vc f.length ((sendF f (selD (fun i => decide ((i : Int) ∈ P)) 0)).flatMap Ap.cells)) := Lib.hid (by
    have e : selD (fun i => decide ((i : Int) ∈ P)) 0 = [] := rfl
    rw [e, sendF_nil]; exact hC5)
  have HB5 := Lib.hid hB5
  have hw5 := hB5.size
  clear hown' hgrow hg5 hB5 hC5
  go_wp2_with fail
  go_loopw [7, 15] (fun vo vi wr => ∃ (k : Nat) (q : List ByteArray), k ≤ f.length ∧ q.length = (selD (fun i => decide ((i : Int) ∈ P)) k).length ∧ vi = .int .i64 k ∧ w5.heap.size ≤ wr.heap.size ∧ Hid (namesI f (selD (fun i => decide ((i : Int) ∈ P)) k) = q) ∧ Hid (wr.ownsRow w.heap.size 60 5 vc f.length ((sendF f (selD (fun i => decide ((i : Int) ∈ P)) k)).flatMap Ap.cells)) ∧ Hid (wr.ownsRow w5.heap.size 9 1 vo q.length (strs q)) ∧ Hid (Below w.heap.size w wr)) (fun _ vi _ => f.length - (intOf vi).toNat)
  case atStart => exact ⟨0, [], Nat.zero_le _, rfl, rfl, Nat.le_refl _, Lib.hid rfl, HC5, Lib.hid (World.ownsRow_nil _ _ _ _), HB5⟩
  case round =>
    obtain ⟨k, q, hk, hqk, rfl, hsw, HQ, HC, HNM, HBL⟩ := hrel
    obtain ⟨wA, rfl⟩ : ∃ wA : World, wA = wr := ⟨_, rfl⟩
    by_cases hlt : k < f.length
    · obtain ⟨b, off, rfl, hbl, hcell⟩ : ∃ b off, A = some ⟨b, off, none⟩ ∧ b < w.heap.size ∧ ∀ j u, (f.flatMap Ap.cells)[j]? = some u → w.cell? ⟨b, off + j, none⟩ = some u := HCELL.out (by omega)
      obtain ⟨a, ha⟩ : ∃ a, f[k]? = some a := ⟨_, List.getElem?_eq_getElem hlt⟩
      obtain ⟨nm, kd, nd, cr, sv⟩ := a
      obtain ⟨d0, d1, d2, d3, d4⟩ := ap_at hcell HBL.out hbl ha
      dsimp only at d0 d1 d2 d3 d4
      have HA := Lib.hid ha
      clear hcell ha
      have hP1 : wA.heap.size < (wA.alloc (.cells #[.string nm, .int .i64 kd, .int .i64 nd, .int .i64 cr, .int .i64 sv] 60)).heap.size := by simp
      have HPA := rdi_below HPR.out (bel_al HBL.out (.cells #[.string nm, .int .i64 kd, .int .i64 nd, .int .i64 cr, .int .i64 sv] 60))
      obtain ⟨gc, cc, rfl, hgc, hgcA, _, _⟩ := own_shape HC.out (by omega)
      have hgc5 : gc < w5.heap.size := (HC5.out.lt gc rfl).2
      go_upto_region 6 with fail
      by_cases hin : (k : Int) ∈ P
      · have hd : decide ((k : Int) ∈ P) = true := decide_eq_true hin
        have HD := Lib.hid hd
        go_upto_region 7 with (go_at_call 43; go_must (refine (l1Has_c _ (k : Int) P _ HPA).mono ?_); rw [HD.out]; rintro e w2 ⟨rfl, rfl⟩)
        go_upto_region 8 with fail
        have hC8 := HC.out.alloc (.cells #[.string nm, .int .i64 kd, .int .i64 nd, .int .i64 cr, .int .i64 1] 60)
        have hN8 := HNM.out.alloc (.cells #[.string nm, .int .i64 kd, .int .i64 nd, .int .i64 cr, .int .i64 1] 60)
        have hB8 := bel_al HBL.out (.cells #[.string nm, .int .i64 kd, .int .i64 nd, .int .i64 cr, .int .i64 1] 60)
        have hs8 : (wA.alloc (.cells #[.string nm, .int .i64 kd, .int .i64 nd, .int .i64 cr, .int .i64 1] 60)).heap.size = wA.heap.size + 1 := by simp
        obtain ⟨Z, hZ⟩ : ∃ Z, wA.heap.size = Z := ⟨_, rfl⟩
        have e0 : (wA.alloc (.cells #[.string nm, .int .i64 kd, .int .i64 nd, .int .i64 cr, .int .i64 1] 60)).cell? ⟨Z, 0, none⟩ = some (.string nm) := by rw [← hZ, World.cell?_alloc_new]; rfl
        have e1 : (wA.alloc (.cells #[.string nm, .int .i64 kd, .int .i64 nd, .int .i64 cr, .int .i64 1] 60)).cell? ⟨Z, 1, none⟩ = some (.int .i64 kd) := by rw [← hZ, World.cell?_alloc_new]; rfl
        have e2 : (wA.alloc (.cells #[.string nm, .int .i64 kd, .int .i64 nd, .int .i64 cr, .int .i64 1] 60)).cell? ⟨Z, 2, none⟩ = some (.int .i64 nd) := by rw [← hZ, World.cell?_alloc_new]; rfl
        have e3 : (wA.alloc (.cells #[.string nm, .int .i64 kd, .int .i64 nd, .int .i64 cr, .int .i64 1] 60)).cell? ⟨Z, 3, none⟩ = some (.int .i64 cr) := by rw [← hZ, World.cell?_alloc_new]; rfl
        have e4 : (wA.alloc (.cells #[.string nm, .int .i64 kd, .int .i64 nd, .int .i64 cr, .int .i64 1] 60)).cell? ⟨Z, 4, none⟩ = some (.int .i64 1) := by rw [← hZ, World.cell?_alloc_new]; rfl
        obtain ⟨W8, hW8⟩ : ∃ W8, wA.alloc (.cells #[.string nm, .int .i64 kd, .int .i64 nd, .int .i64 cr, .int .i64 1] 60) = W8 := ⟨_, rfl⟩
        rw [hW8] at hC8 hN8 hB8 hs8 e0 e1 e2 e3 e4
        rw [hW8, hZ]
        clear hW8
        obtain ⟨b0, hb0, _, _, _⟩ := sendF_nm (S := selD (fun i => decide ((i : Int) ∈ P)) k) HA.out
        have c0 := (hC8.cellAt (k * 5) (by omega)).trans (show _ = some _ by exact flat_get Ap.cells_len _ k b0 hb0 0 (by omega))
        have f0 := hC8.frozenAt (k * 5)
        have hC80 := (hC8.stored (k * 5) (.string nm)).1
        have c1 := (hC80.cellAt (k * 5 + 1) (by omega)).trans (show _ = some _ by rw [List.getElem?_set_ne (by omega)]; exact flat_get Ap.cells_len _ k b0 hb0 1 (by omega))
        have f1 := hC80.frozenAt (k * 5 + 1)
        have hC81 := (hC80.stored (k * 5 + 1) (.int .i64 kd)).1
        have c2 := (hC81.cellAt (k * 5 + 2) (by omega)).trans (show _ = some _ by rw [List.getElem?_set_ne (by omega)]; rw [List.getElem?_set_ne (by omega)]; exact flat_get Ap.cells_len _ k b0 hb0 2 (by omega))
        have f2 := hC81.frozenAt (k * 5 + 2)
        have hC82 := (hC81.stored (k * 5 + 2) (.int .i64 nd)).1
        have c3 := (hC82.cellAt (k * 5 + 3) (by omega)).trans (show _ = some _ by rw [List.getElem?_set_ne (by omega)]; rw [List.getElem?_set_ne (by omega)]; rw [List.getElem?_set_ne (by omega)]; exact flat_get Ap.cells_len _ k b0 hb0 3 (by omega))
        have f3 := hC82.frozenAt (k * 5 + 3)
        have hC83 := (hC82.stored (k * 5 + 3) (.int .i64 cr)).1
        have c4 := (hC83.cellAt (k * 5 + 4) (by omega)).trans (show _ = some _ by rw [List.getElem?_set_ne (by omega)]; rw [List.getElem?_set_ne (by omega)]; rw [List.getElem?_set_ne (by omega)]; rw [List.getElem?_set_ne (by omega)]; exact flat_get Ap.cells_len _ k b0 hb0 4 (by omega))
        have f4 := hC83.frozenAt (k * 5 + 4)
        have hC84 := (hC83.stored (k * 5 + 4) (.int .i64 1)).1
        have HC9 := Lib.hid hC84
        clear hC80 hC81 hC82 hC83 hC84
        have HC8 := Lib.hid hC8
        clear hC8
        have HN8 := Lib.hid hN8
        have HB8 := Lib.hid hB8
        clear hN8 hB8
        go_upto_region 9 with fail
        have hgZ : gc < Z := by omega
        have hO9 : W8.grownBy (((((W8.setCell ⟨gc, k * 5, none⟩ (.string nm)).setCell ⟨gc, k * 5 + 1, none⟩ (.int .i64 kd)).setCell ⟨gc, k * 5 + 2, none⟩ (.int .i64 nd)).setCell ⟨gc, k * 5 + 3, none⟩ (.int .i64 cr)).setCell ⟨gc, k * 5 + 4, none⟩ (.int .i64 1)) (some gc) := only_setCell (only_setCell (only_setCell (only_setCell (only_setCell (World.grownBy.refl W8 (some gc)) _ _) _ _) _ _) _ _) _ _
        have hcE := HC9.out
        have hnE := HN8.out.kept hO9 (.inr (fun e => by have := (HN8.out.lt gc e).1; omega))
        have hbE := bel_grown HB8.out hO9 (fun q1 e => by have h : gc = q1 := Option.some.inj e; omega)
        have e9 := (gro_cell (o := 0) hO9 (x := Z) (by omega) (by omega)).trans e0
        have hs9 := hO9.size
        have hs9' : (((((W8.setCell ⟨gc, k * 5, none⟩ (.string nm)).setCell ⟨gc, k * 5 + 1, none⟩ (.int .i64 kd)).setCell ⟨gc, k * 5 + 2, none⟩ (.int .i64 nd)).setCell ⟨gc, k * 5 + 3, none⟩ (.int .i64 cr)).setCell ⟨gc, k * 5 + 4, none⟩ (.int .i64 1)).heap.size = W8.heap.size := by simp
        obtain ⟨W9, hW9⟩ : ∃ W9, ((((W8.setCell ⟨gc, k * 5, none⟩ (.string nm)).setCell ⟨gc, k * 5 + 1, none⟩ (.int .i64 kd)).setCell ⟨gc, k * 5 + 2, none⟩ (.int .i64 nd)).setCell ⟨gc, k * 5 + 3, none⟩ (.int .i64 cr)).setCell ⟨gc, k * 5 + 4, none⟩ (.int .i64 1) = W9 := ⟨_, rfl⟩
        rw [hW9] at hcE hnE hbE e9 hs9 hs9'
        rw [hW9]
        have HSE : selD (fun i => decide ((i : Int) ∈ P)) (k + 1) = selD (fun i => decide ((i : Int) ∈ P)) k ++ [(k : Int)] := selD_yes HD.out
        have hq12 : q.length ≤ 12 := by rw [hqk]; have := selD_len (fun i => decide ((i : Int) ∈ P)) k; omega
        have HNE := Lib.hid hnE
        have HBE := Lib.hid hbE
        have hav : callA b0 = ⟨nm, kd, nd, cr, 1⟩ := by
          rw [sendF_get, HA.out] at hb0
          have h := Option.some.inj hb0
          rw [← h]
          split <;> rfl
        have HCE : Hid (W9.ownsRow w.heap.size 60 5 (.slice (some ⟨gc, 0, none⟩) f.length cc) f.length ((sendF f (selD (fun i => decide ((i : Int) ∈ P)) (k + 1))).flatMap Ap.cells)) := Lib.hid (by
          rw [HSE, ← sendF_snoc hb0, hav, ← put_ap hb0]
          exact hcE)
        clear hcE hnE hbE hW9 hO9 c0 c1 c2 c3 c4 f0 f1 f2 f3 f4 e0 e1 e2 e3 e4
        go_wp2_with (at_builtin; go_must (refine wpList_app_rd _ rfl _ _ 30 rfl w5.heap.size 9 j0 (.string ⟨#[]⟩) 1 16 Tryz.underlying30 hj hj0 hj1 hj2 rfl (by decide) _ _ _ rfl (HNE.out.alloc _) _ 1 [.string nm] rfl (rd_new _ (by omega) (by omega) (by rw [maxLen_eq]; omega)) rfl (by intro u hu; simp at hu; rcases hu with rfl; rfl) (by rw [maxLen_eq]; omega) (by omega) (by simp; omega) ?_); intro v7 w7 hown7 hgrow7 _)
        have hg7 : (W9.alloc (.cells #[.string nm] 9)).grownBy w7 u7.ownBlock := hgrow7
        have hsz7 := hg7.size
        have hszA : (W9.alloc (.cells #[.string nm] 9)).heap.size = W9.heap.size + 1 := by simp
        have hnm := nmI_at HA.out
        have HN7 : Hid (w7.ownsRow w5.heap.size 9 1 v7 (q ++ [nm]).length (strs (q ++ [nm]))) := Lib.hid (by rw [strs_snoc, List.length_append]; exact hown7)
        refine ⟨⟨k + 1, q ++ [nm], hlt, by rw [HSE]; simp [hqk], by simp, by omega, Lib.hid (by rw [HSE]; unfold namesI; rw [List.map_append]; have := HQ.out; unfold namesI at this; rw [this]; simp [hnm]), ?_, HN7, ?_⟩, by simp [intOf]; omega⟩
        · refine Lib.hid ((HCE.out.alloc _).kept hg7 (.inr (fun e => ?_)))
          have h1 : (some gc : Option Nat) = u7.ownBlock := e
          have := (HNE.out.lt gc h1.symm).1
          omega
        · exact Lib.hid (bel_grown (bel_al HBE.out _) hg7 (fun g e => by have := (HNE.out.lt g e).1; omega))
      · have hd : decide ((k : Int) ∈ P) = false := decide_eq_false hin
        have HD := Lib.hid hd
        go_wp2_with (go_at_call 43; go_must (refine (l1Has_c _ (k : Int) P _ HPA).mono ?_); rw [HD.out]; rintro e w2 ⟨rfl, rfl⟩)
        have HSE : selD (fun i => decide ((i : Int) ∈ P)) (k + 1) = selD (fun i => decide ((i : Int) ∈ P)) k := selD_no HD.out
        refine ⟨⟨k + 1, q, hlt, by rw [HSE]; exact hqk, by simp, by simp; omega, by rw [HSE]; exact HQ, by rw [HSE]; exact Lib.hid (HC.out.alloc _), Lib.hid (HNM.out.alloc _), Lib.hid (bel_al HBL.out _)⟩, by simp [intOf]; omega⟩
    · obtain rfl : k = f.length := by omega
      have hmem : ∀ x, x ∈ selD (fun i => decide ((i : Int) ∈ P)) f.length ↔ x ∈ P := by
        intro x
        unfold selD
        constructor
        · intro hx
          obtain ⟨i, hi, rfl⟩ := List.mem_map.1 hx
          have := (List.mem_filter.1 hi).2
          exact of_decide_eq_true this
        · intro hx
          obtain ⟨i, rfl, hi⟩ := HPI.out x hx
          exact List.mem_map.2 ⟨i, List.mem_filter.2 ⟨List.mem_range.2 hi, decide_eq_true hx⟩, rfl⟩
      have hHC := Lib.hid HC.out
      rw [sendF_congr hmem] at hHC
      have HCC := Lib.hid hHC.out
      clear hHC hmem hlt
      go_wp2_with fail
      rw [HQ.out]
      go_ret2
      refine ⟨_, _, rfl, (by rw [sendF_len]; exact HCC.out), own_down HNM.out (by omega), ?_, HBL.out⟩
      intro q1 q2 h1 h2
      have h3 := (HNM.out.lt q2 h2).1
      have h4 := (HC5.out.lt q1 h1).2
      omega
end Go.Proofs.YtddccjdppbcnbaaGreat

namespace Go.Proofs.YtddccjdppbcnbaaGreat
set_option linter.unusedVariables false
set_option linter.unusedSimpArgs false
open Go.RowKit

theorem pick_ge_aux (f : List Ap) : ∀ (L : List Int) (st : List Int × List Int), (∀ y ∈ st.2, 0 ≤ y) → ∀ y ∈ (L.foldl (pickStep f) st).2, 0 ≤ y := by
  intro L
  induction L with
  | nil => intro st h; exact h
  | cons i L ih =>
    intro st h
    rw [List.foldl_cons]
    apply ih
    unfold pickStep
    split
    · rename_i hp
      intro y hy
      rcases List.mem_or_eq_of_mem_set hy with hy | rfl
      · exact h y hy
      · omega
    · exact h
theorem pick_ge {f : List Ap} {L need : List Int} (h : needB need = true) : ∀ y ∈ (pickL f L need).2, 0 ≤ y := pick_ge_aux f L ([], need) (fun y hy => ((needB_true h).2 y hy).1)
theorem foldl_max_ge2 (l : List Int) : ∀ y, y ≤ l.foldl max y ∧ (∀ x ∈ l, x ≤ l.foldl max y) ∧ (l.foldl max y = y ∨ l.foldl max y ∈ l) := by
  induction l with
  | nil => intro y; simp
  | cons z l ih =>
    intro y
    rw [List.foldl_cons]
    obtain ⟨h1, h2, h3⟩ := ih (max y z)
    refine ⟨by omega, fun x hx => ?_, ?_⟩
    · rcases List.mem_cons.1 hx with rfl | hx
      · omega
      · exact h2 x hx
    · rcases h3 with h3 | h3
      · rw [h3]
        rcases Int.le_total y z with h | h
        · right; rw [Int.max_eq_right h]; simp
        · left; exact Int.max_eq_left h
      · right; simp [h3]
theorem maxL_spec2 {d : List Int} (h : 0 < d.length) : maxL d ∈ d ∧ ∀ x ∈ d, x ≤ maxL d := by
  cases d with
  | nil => simp at h
  | cons y l =>
    obtain ⟨h1, h2, h3⟩ := foldl_max_ge2 l y
    refine ⟨?_, fun x hx => ?_⟩
    · show l.foldl max y ∈ y :: l
      rcases h3 with h3 | h3
      · rw [h3]; simp
      · simp [h3]
    · rcases List.mem_cons.1 hx with rfl | hx
      · exact h1
      · exact h2 x hx
theorem all_zero_max {l : List Int} (hl : 0 < l.length) (h : ∀ y ∈ l, 0 ≤ y) : (l.all fun y => inB y 0 0) = decide (maxL l ≤ 0) := by
  by_cases hm : maxL l ≤ 0
  · rw [decide_eq_true hm, List.all_eq_true]
    intro y hy
    have h1 := (maxL_spec2 hl).2 y hy
    have h2 := h y hy
    unfold inB
    rw [decide_eq_true h2, decide_eq_true (show y ≤ 0 by omega)]; rfl
  · rw [decide_eq_false hm, List.all_eq_false]
    refine ⟨maxL l, (maxL_spec2 hl).1, ?_⟩
    unfold inB
    rw [decide_eq_false hm]; simp
def sendIn (f : List Ap) (P need : List Int) : List Ap × List ByteArray × Bool :=
  if 0 < maxL (missL f P need) then ([], [], false) else (sendF f P, namesI f (selD (fun i => decide ((i : Int) ∈ P)) f.length), true)
def sendChoiceV (n : Int) (l : List St) (f : List Ap) (x : Int) (need : List Int) : List Ap × List ByteArray × Bool :=
  if askD n l f x = true ∧ needB need = true then sendIn f (pickL f (readyL (distT n.toNat (arcs l) x.toNat) f) need).1 need else ([], [], false)
theorem sendV_no1 {n : Int} {l : List St} {f : List Ap} {x : Int} {need : List Int} (h : askD n l f x = false) : sendChoiceV n l f x need = ([], [], false) := by
  unfold sendChoiceV; rw [if_neg (by rw [h]; simp)]
theorem sendV_no2 {n : Int} {l : List St} {f : List Ap} {x : Int} {need : List Int} (h : needB need = false) : sendChoiceV n l f x need = ([], [], false) := by
  unfold sendChoiceV; rw [if_neg (by rw [h]; simp)]
theorem sendV_yes {n src : Nat} {l : List St} {f : List Ap} {need : List Int} (h : askD n l f src = true) (h2 : needB need = true) : sendChoiceV n l f src need = sendIn f (pickL f (readyL (distT n (arcs l) src) f) need).1 need := by
  unfold sendChoiceV; rw [if_pos ⟨h, h2⟩, Int.toNat_natCast, Int.toNat_natCast]
theorem sendIn_len {f : List Ap} (hf : f.length ≤ 12) (P need : List Int) : (sendIn f P need).1.length ≤ 1000000 ∧ (sendIn f P need).2.1.length ≤ 1000000 := by
  unfold sendIn
  split
  · simp
  · dsimp only
    rw [sendF_len, namesI_len]
    have : (selD (fun i => decide ((i : Int) ∈ P)) f.length).length ≤ f.length := by
      unfold selD
      rw [List.length_map]
      refine Nat.le_trans (List.length_filter_le _ _) ?_
      rw [List.length_range]; exact Nat.le_refl _
    omega
theorem sendChoiceV_len (n : Int) (l : List St) (f : List Ap) (x : Int) (need : List Int) : (sendChoiceV n l f x need).1.length ≤ 1000000 ∧ (sendChoiceV n l f x need).2.1.length ≤ 1000000 := by
  unfold sendChoiceV
  split
  · exact sendIn_len (goodFl_true (goodDs_true (askD_true (by rename_i h; exact h.1)).1).2.1).1 _ _
  · simp
/-- What SendChoice hands back. -/
def Own2V (r : List Ap × List ByteArray × Bool) (w : World) (e : Ending) (w' : World) : Prop := Own2 r.1 r.2.1 r.2.2 w e w'
theorem own2_none {w w' : World} (h : Below w.heap.size w w') : Own2 [] [] false w (.returned (.tuple #[.slice none 0 0, .slice none 0 0, .bool false])) w' :=
  ⟨_, _, rfl, World.ownsRow_nil _ _ _ _, World.ownsRow_nil _ _ _ _, (fun {q q'} e _ => by cases e), h⟩
theorem own2_base {F : List Ap} {q : List ByteArray} {b : Bool} {w w1 w' : World} {e : Ending} (h : Own2 F q b w1 e w') (hb : Below w.heap.size w w1) : Own2 F q b w e w' := by
  obtain ⟨x, y, rfl, h1, h2, h3, h4⟩ := h
  exact ⟨x, y, rfl, own_base h1 hb.size, own_base h2 hb.size, h3, bel_then hb h4⟩
set_option maxRecDepth 100000 in
set_option maxHeartbeats 4000000 in
theorem sendChoiceS_c (n : Int) (s : Value) (l : List St) (v : Value) (f : List Ap) (x : Int) (vn : Value) (need : List Int) (w : World) (hr : Rd w s l.length (l.flatMap St.cells)) (hz : ∀ x ∈ f, x.nm.size ≤ 9223372036854775807) (hf : Rd w v f.length (f.flatMap Ap.cells)) (hvn : RdI w vn need) :
    Calls Tryz.prog 6 #[.agg #[.int .i64 n, s], v, .int .i64 x, vn] w (Own2V (sendChoiceV n l f x need) w) := by
  have HR := Lib.hid hr
  have HF := Lib.hid hf
  have HZ := Lib.hid hz
  have HN := Lib.hid hvn
  clear hr hz hf hvn
  go_enter Tryz.func6, Tryz.ntmps6
  go_wp2_with fail
  (generalize hw1 : World.alloc w _ = w1; have k0 : w1.cell? ⟨w.heap.size, 0, none⟩ = some (.int .i64 n) := (by subst hw1; simp [go_sem]); have k1 : w1.cell? ⟨w.heap.size, 1, none⟩ = some s := (by subst hw1; simp [go_sem]); have hb0 : Below w.heap.size w w1 := (by subst hw1; exact bel_al (Below.refl _ _) _); have hsz1 : w.heap.size < w1.heap.size := (by subst hw1; simp); clear hw1)
  have HB := Lib.hid hb0
  refine (dsAsked_c n s l _ f x _ (rd_below HR.out HB.out) HZ.out (rd_below HF.out HB.out)).mono ?_; rintro e w2 ⟨rfl, hb1⟩
  have e0 := (hb1.cell (p := ⟨w.heap.size, 0, none⟩) (by show w.heap.size < _; omega)).trans k0
  have e1 := (hb1.cell (p := ⟨w.heap.size, 1, none⟩) (by show w.heap.size < _; omega)).trans k1
  have HB1 := Lib.hid (bel_then HB.out hb1)
  clear k0 k1 hb0 hb1
  by_cases hg : askD n l f x = true
  · have HASK := Lib.hid hg
    rw [hg]
    obtain ⟨hds, hx0, hx1⟩ := askD_true hg
    obtain ⟨hgt, hgf, hnd⟩ := goodDs_true hds
    have hn1 := (goodTown_true hgt).1
    obtain ⟨N, rfl⟩ := Int.eq_ofNat_of_zero_le (show 0 ≤ n by omega)
    obtain ⟨src, rfl⟩ := Int.eq_ofNat_of_zero_le hx0
    have hs : src < N := by omega
    have HGT := Lib.hid hgt
    have HGF := Lib.hid hgf
    have HND := Lib.hid hnd
    clear hg hds hgt hgf hnd hx0 hx1
    go_wp2_with fail
    refine (tbNeed_c _ need _ (rd_below HN.out HB1.out)).mono ?_; rintro e w3 ⟨rfl, rfl⟩
    by_cases hne : needB need = true
    · have HV := Lib.hid (sendV_yes HASK.out hne)
      have HNE := Lib.hid hne
      rw [hne]
      clear hne
      go_wp2_with fail
      refine (dsPick_c N s l _ f src _ need _ HGT.out HGF.out HND.out hs HNE.out (rd_below HR.out HB1.out) (rd_below HF.out HB1.out) (rd_below HN.out HB1.out)).mono ?_
      rintro e w3 ⟨xx, yy, zz, rfl, hx, hy, _, hb2⟩
      have HY := Lib.hid hy
      have HX := Lib.hid hx
      have HB2 := Lib.hid (bel_then HB1.out hb2)
      have hpm := pick_mem f (fun y => ∃ i : Nat, y = (i : Int) ∧ i < f.length) (readyL (distT N (arcs l) src) f) need (fun y hy => by
        obtain ⟨i, a, h1, h2, _⟩ := readyL_mem hy
        exact ⟨i, h1, (List.getElem?_eq_some_iff.1 h2).1⟩)
      have HPM := Lib.hid hpm.1
      have hmis := pick_miss f (readyL (distT N (arcs l) src) f) need
      have hnn := pick_ge (f := f) (L := readyL (distT N (arcs l) src) f) HNE.out
      obtain ⟨P, hP⟩ : ∃ P, (pickL f (readyL (distT N (arcs l) src) f) need).1 = P := ⟨_, rfl⟩
      rw [hP] at HPM HX HV hmis
      rw [← hmis] at HY hnn
      have hml : 0 < (missL f P need).length := by rw [miss_len4, (needB_true HNE.out).1]; omega
      have HALL := Lib.hid (all_zero_max hml hnn)
      clear e0 e1 hb2 hy hx hpm hmis hnn hml hP
      go_wp2_with fail
      refine (all2_c _ (missL f P need) _ _ _ (rdi_own HY.out)).mono ?_; rintro e w4 ⟨rfl, rfl⟩
      rw [HALL.out]
      by_cases hm : 0 < maxL (missL f P need)
      · have HM : Hid (sendIn f P need = ([], [], false)) := Lib.hid (by unfold sendIn; rw [if_pos hm])
        rw [show decide (maxL (missL f P need) ≤ 0) = false from decide_eq_false (by omega)]
        clear hm
        go_wp2
        go_ret3
        rw [HV.out, HM.out]
        exact own2_none HB2.out
      · have HM : Hid (sendIn f P need = (sendF f P, namesI f (selD (fun i => decide ((i : Int) ∈ P)) f.length), true)) := Lib.hid (by unfold sendIn; rw [if_neg hm])
        rw [show decide (maxL (missL f P need) ≤ 0) = true from decide_eq_true (by omega)]
        clear hm
        go_wp2_with fail
        refine (dsSend_c _ f _ P _ (goodFl_true HGF.out).1 HPM.out (rd_below HF.out HB2.out) HX.out).mono ?_
        rintro e w5 ⟨x6, y6, rfl, ho6, ho7, hsep, hb6⟩
        have HO6 := Lib.hid ho6
        have HO7 := Lib.hid ho7
        have HSEP := Lib.hid hsep
        have HB6 := Lib.hid (bel_then HB2.out hb6)
        clear ho6 ho7 hsep hb6
        go_wp2
        go_ret3
        rw [HV.out, HM.out]
        exact ⟨_, _, rfl, own_base HO6.out HB2.out.size, own_base HO7.out HB2.out.size, HSEP.out, HB6.out⟩
    · have hne : needB need = false := by simpa using hne
      have HV := Lib.hid (sendV_no2 (n := N) (l := l) (f := f) (x := src) hne)
      rw [hne]
      go_wp2
      go_ret3
      rw [HV.out]
      exact own2_none HB1.out
  · have hg : askD n l f x = false := by simpa using hg
    have HV := Lib.hid (sendV_no1 (need := need) hg)
    rw [hg]
    go_wp2
    go_ret3
    rw [HV.out]
    exact own2_none HB1.out

set_option maxRecDepth 100000 in
set_option maxHeartbeats 4000000 in
theorem sendChoiceI_c (n : Int) (s : Value) (l : List St) (v : Value) (f : List Ap) (x : Int) (vn : Value) (need : List Int) (w : World) (hr : Rd w s l.length (l.flatMap St.cells)) (hz : ∀ x ∈ f, x.nm.size ≤ 9223372036854775807) (hf : Rd w v f.length (f.flatMap Ap.cells)) (hvn : RdI w vn need) :
    Calls Tryz.prog 10 #[.agg #[.int .i64 n, s], v, .int .i64 x, vn] w (Own2V (sendChoiceV n l f x need) w) := by
  have HR := Lib.hid hr
  have HF := Lib.hid hf
  have HZ := Lib.hid hz
  have HN := Lib.hid hvn
  clear hr hz hf hvn
  go_enter Tryz.func10, Tryz.ntmps10
  go_wp2_with fail
  (generalize hw1 : World.alloc w _ = w1; have k0 : w1.cell? ⟨w.heap.size, 0, none⟩ = some (.int .i64 n) := (by subst hw1; simp [go_sem]); have k1 : w1.cell? ⟨w.heap.size, 1, none⟩ = some s := (by subst hw1; simp [go_sem]); have hb0 : Below w.heap.size w w1 := (by subst hw1; exact bel_al (Below.refl _ _) _); have hsz1 : w.heap.size < w1.heap.size := (by subst hw1; simp); clear hw1)
  have HB := Lib.hid hb0
  refine (dispatchFits_c n s l _ f w.heap.size _ k0 k1 (rd_below HR.out HB.out) HZ.out (rd_below HF.out HB.out)).mono ?_; rintro e w2 ⟨rfl, hb1⟩
  have e0 := (hb1.cell (p := ⟨w.heap.size, 0, none⟩) (by show w.heap.size < _; omega)).trans k0
  have e1 := (hb1.cell (p := ⟨w.heap.size, 1, none⟩) (by show w.heap.size < _; omega)).trans k1
  have hs1 := hb1.size
  have HB1 := Lib.hid (bel_then HB.out hb1)
  clear k0 k1 hb0 hb1
  by_cases hg : goodDs n l f = true
  · have HDS := Lib.hid hg
    rw [hg]
    obtain ⟨hgt, hgf, hnd⟩ := goodDs_true hg
    obtain ⟨hn1, hn2, _⟩ := goodTown_true hgt
    have HGT := Lib.hid hgt
    have HGF := Lib.hid hgf
    have HND := Lib.hid hnd
    clear hg hgt hgf hnd
    go_wp2_with fail
    refine (has_c n x _ _ hn1 hn2 e0).mono ?_; rintro e w3 ⟨rfl, rfl⟩
    by_cases hx : inB x 0 (n - 1) = true
    · have HASK : Hid (askD n l f x = true) := Lib.hid (by unfold askD; rw [HDS.out, hx]; rfl)
      rw [hx]
      obtain ⟨hx0, hx1⟩ := inB_true hx
      obtain ⟨N, rfl⟩ := Int.eq_ofNat_of_zero_le (show 0 ≤ n by omega)
      obtain ⟨src, rfl⟩ := Int.eq_ofNat_of_zero_le hx0
      have hs : src < N := by omega
      have E0 := Lib.hid e0
      have E1 := Lib.hid e1
      clear hx hx0 hx1
      go_wp2_with fail
      refine (isNeed_c _ need _ (rd_below HN.out HB1.out)).mono ?_; rintro e w3 ⟨rfl, rfl⟩
      by_cases hne : needB need = true
      · have HV := Lib.hid (sendV_yes HASK.out hne)
        have HNE := Lib.hid hne
        rw [hne]
        clear hne
        go_wp2_with fail
        refine (sendChoiceW_c N s l _ f src w.heap.size _ need _ HGT.out HGF.out HND.out hs HNE.out E0.out E1.out (rd_below HR.out HB1.out) (rd_below HF.out HB1.out) (rd_below HN.out HB1.out) _ _ rfl rfl).mono ?_
        rintro e w3 ho5
        obtain ⟨P, hP⟩ : ∃ P, (pickL f (readyL (distT N (arcs l) src) f) need).1 = P := ⟨_, rfl⟩
        rw [hP] at HV ho5
        by_cases hm : 0 < maxL (missL f P need)
        · rw [if_pos hm] at ho5
          have HM : Hid (sendIn f P need = ([], [], false)) := Lib.hid (by unfold sendIn; rw [if_pos hm])
          obtain ⟨x6, y6, rfl, ho6, ho7, hsep, hb6⟩ := ho5
          have HO6 := Lib.hid ho6
          have HO7 := Lib.hid ho7
          have HSEP := Lib.hid hsep
          have HB6 := Lib.hid (bel_then HB1.out hb6)
          clear ho6 ho7 hsep hb6 hm e0 e1
          go_wp2
          go_ret3
          rw [HV.out, HM.out]
          exact ⟨_, _, rfl, own_base HO6.out HB1.out.size, own_base HO7.out HB1.out.size, HSEP.out, HB6.out⟩
        · rw [if_neg hm] at ho5
          have HM : Hid (sendIn f P need = (sendF f P, namesI f (selD (fun i => decide ((i : Int) ∈ P)) f.length), true)) := Lib.hid (by unfold sendIn; rw [if_neg hm])
          obtain ⟨x6, y6, rfl, ho6, ho7, hsep, hb6⟩ := ho5
          have HO6 := Lib.hid ho6
          have HO7 := Lib.hid ho7
          have HSEP := Lib.hid hsep
          have HB6 := Lib.hid (bel_then HB1.out hb6)
          clear ho6 ho7 hsep hb6 hm e0 e1
          go_wp2
          go_ret3
          rw [HV.out, HM.out]
          exact ⟨_, _, rfl, own_base HO6.out HB1.out.size, own_base HO7.out HB1.out.size, HSEP.out, HB6.out⟩
      · have hne : needB need = false := by simpa using hne
        have HV := Lib.hid (sendV_no2 (n := N) (l := l) (f := f) (x := src) hne)
        rw [hne]
        go_wp2
        go_ret3
        rw [HV.out]
        exact own2_none HB1.out
    · have hx : inB x 0 (n - 1) = false := by simpa using hx
      have HV := Lib.hid (sendV_no1 (l := l) (f := f) (x := x) (n := n) (need := need) (by unfold askD; rw [hx]; simp))
      rw [hx]
      go_wp2
      go_ret3
      rw [HV.out]
      exact own2_none HB1.out
  · have hg : goodDs n l f = false := by simpa using hg
    have HV := Lib.hid (sendV_no1 (x := x) (n := n) (l := l) (f := f) (need := need) (by unfold askD; rw [hg]; rfl))
    rw [hg]
    go_wp2
    go_ret3
    rw [HV.out]
    exact own2_none HB1.out
end Go.Proofs.YtddccjdppbcnbaaGreat
