/-
  Stations without one of them, and the nodes that are lost then, on both sides. The reference's stations without one of them, and the nodes that are lost then. LostWithout and NeededStations on both sides. (joined by pack.py: CovF CovF2 CovG)
-/
import Derived.Test.YtahehdgkbhjpoaaK9
import Derived.Test.YtahehdgkbhjpoaaK12
import Derived.Test.YtahehdgkbhjpoaaK7
import Derived.Deep.RegionHeld3
import Derived.Deep.RegionLaw
namespace Go.Proofs.Ytahehdgkbhjpoaa
set_option linter.unusedVariables false
set_option linter.unusedSimpArgs false
open Go.RowKit

def dropI (q : List Int) (i : Nat) : List Int := q.take i ++ q.drop (i + 1)
theorem dropI_mem {q : List Int} {i : Nat} {x : Int} (h : x ∈ dropI q i) : x ∈ q := by
  rcases List.mem_append.1 h with h | h
  · exact List.mem_of_mem_take h
  · exact List.mem_of_mem_drop h
theorem dropI_len {q : List Int} {i : Nat} (h : i < q.length) : (dropI q i).length = q.length - 1 := by
  unfold dropI; rw [List.length_append, List.length_take, List.length_drop]; omega
def covL (m : Nat) (l : List St) (q : List Int) (a : Int) : List Int := covIdx (coverL m (arcs l) q) a true m
theorem covL_len (m : Nat) (l : List St) (q : List Int) (a : Int) : (covL m l q a).length ≤ m := covIdx_len _ _ _ _
def notIn (o : List Int) (x : Int) : Bool := !decide (x ∈ o)
def lostL (m : Nat) (l : List St) (q : List Int) (i : Nat) (a : Int) : List Int := (covL m l q a).filter (notIn (covL m l (dropI q i) a))

theorem lostF_c (x : Int) (vo : Value) (o : List Int) (B : Nat) (W : World) (c0 : W.cell? ⟨B, 0, none⟩ = some vo) (hr : RdI W vo o) :
    Calls Try.prog 118 #[.int .i64 x, .pointer (some ⟨B, 0, none⟩)] W fun e w' => e = .returned (.bool (decide (x ∈ o))) ∧ W = w' := by
  have HR := Lib.hid hr
  clear hr
  go_enter Try.func118, Try.ntmps118
  go_wp2_with fail
  refine (contains_c _ x o _ HR.out).mono ?_; rintro e w' ⟨rfl, rfl⟩
  go_wp2
  go_ret
  exact ⟨rfl, rfl⟩

set_option maxRecDepth 100000 in
set_option maxHeartbeats 1000000 in
theorem lostWithout_c (m : Nat) (s v : Value) (l : List St) (q : List Int) (i j : Nat) (a : Int) (B : Nat) (w : World) (hg : goodTown m l = true) (hq : ∀ x ∈ q, 0 ≤ x ∧ x ≤ (m : Int) - 1) (hi : i < q.length) (hj : j = i + 1) (hl6 : q.length ≤ 6) (t0 : w.cell? ⟨B, 0, none⟩ = some (.int .i64 m)) (t1 : w.cell? ⟨B, 1, none⟩ = some s) (hr : Rd w s l.length (l.flatMap St.cells)) (hv : RdI w v q) :
    Calls Try.prog 75 #[.pointer (some ⟨B, 0, none⟩), v, .int .i64 i, .int .i64 a] w (OwnI (lostL m l q i a) w) := by
  have HR := Lib.hid hr
  have HV := Lib.hid hv
  have hB : B < w.heap.size := World.block_lt_of_cell? w _ t0
  have HT0 := Lib.hid t0
  have HT1 := Lib.hid t1
  have HG := Lib.hid hg
  have HQ := Lib.hid hq
  have eg : ∀ args w, (callFunc 118 args).run Try.prog w = .ok (.enter 118 args) w := enters_of Try.func118 (by kernel_rfl) rfl
  have EG := Lib.hid eg
  have HJ := Lib.hid hj
  have hjn : j ≤ q.length := by omega
  obtain ⟨hm1, hm2, _, _⟩ := goodTown_true hg
  clear hr hv hg hq t0 t1 eg
  have hsum : ((i : Int) + 1) = (j : Int) := by omega
  clear hj
  go_enter Try.func75, Try.ntmps75
  go_wp2_with fail
  refine (clone_c _ q _ HV.out (by omega)).mono ?_
  rintro e w1 ⟨v1, rfl, ho1, hb1⟩
  obtain ⟨g1, cap1, rfl, hbg1, hgl1, hcap1, _⟩ := own_shape ho1 (by omega)
  have HO1 := Lib.hid ho1
  have HB1 := Lib.hid hb1
  clear ho1 hb1
  go_wp2_with fail
  refine (delete1_c g1 cap1 q.length i j _ q _ HO1.out HJ.out hjn).mono ?_
  rintro e w2 ⟨rfl, ho2, hgr2⟩
  have HB2 : Hid (Below w.heap.size w w2) := Lib.hid (bel_grown HB1.out hgr2 (fun k e => by have := Option.some.inj e; omega))
  have hdl := dropI_len hi
  have HO2 : Hid (RdI w2 (.slice (some ⟨g1, 0, none⟩) (q.length - 1) cap1) (dropI q i)) := Lib.hid (by
    have h := ho2
    rw [HJ.out] at h
    unfold RdI
    rw [hdl]
    exact own_rd h)
  clear ho2 hgr2
  go_wp2_with fail
  refine (coveredNodes_c m s _ l (dropI q i) a true B _ HG.out (fun x hx => HQ.out x (dropI_mem hx)) ((HB2.out.cell (p := ⟨B, 0, none⟩) hB).trans HT0.out) ((HB2.out.cell (p := ⟨B, 1, none⟩) hB).trans HT1.out) (rd_below HR.out HB2.out) HO2.out).mono ?_
  rintro e w3 ⟨v3, rfl, ho3, hb3⟩
  have HO3 : Hid (w3.ownsRow w2.heap.size 3 1 v3 (covL m l (dropI q i) a).length (ints (covL m l (dropI q i) a))) := Lib.hid ho3
  have HB3 := Lib.hid (bel_then HB2.out hb3)
  clear ho3 hb3
  obtain ⟨A3, cc3, hx3, _⟩ := own_rd HO3.out
  subst hx3
  go_wp2_with fail
  generalize hW4 : World.alloc w3 _ = w4
  have c4 : w4.cell? ⟨w3.heap.size, 0, none⟩ = some (.slice A3 (covL m l (dropI q i) a).length cc3) := by subst hW4; simp [go_sem]
  have z4 : w3.heap.size < w4.heap.size := by subst hW4; simp
  have HO4 : Hid (w4.ownsRow w2.heap.size 3 1 (.slice A3 (covL m l (dropI q i) a).length cc3) (covL m l (dropI q i) a).length (ints (covL m l (dropI q i) a))) := Lib.hid (by subst hW4; exact HO3.out.alloc _)
  have HB4 : Hid (Below w.heap.size w w4) := Lib.hid (by subst hW4; exact bel_al HB3.out _)
  have I3 := Lib.hid HO3.out.lt
  clear hW4 HO3 HO2
  refine (coveredNodes_c m s _ l q a true B _ HG.out HQ.out ((HB4.out.cell (p := ⟨B, 0, none⟩) hB).trans HT0.out) ((HB4.out.cell (p := ⟨B, 1, none⟩) hB).trans HT1.out) (rd_below HR.out HB4.out) (rdi_below HV.out HB4.out)).mono ?_
  rintro e w5 ⟨v5, rfl, ho5, hb5⟩
  have HO5 : Hid (w5.ownsRow w4.heap.size 3 1 v5 (covL m l q a).length (ints (covL m l q a))) := Lib.hid ho5
  have I5 := Lib.hid ho5.lt
  have HB5 := Lib.hid (bel_then HB4.out hb5)
  have c5 := (hb5.cell (p := ⟨w3.heap.size, 0, none⟩) z4).trans c4
  have s5 := hb5.size
  have HO35 := Lib.hid (own_below HO4.out hb5)
  have hz2 := HB2.out.size
  clear ho5 hb5 c4 HO4
  have hsays : ∀ W, w5.grownBy W v5.ownBlock → Says 118 #[.pointer (some ⟨w3.heap.size, 0, none⟩)] (fun x => decide (x ∈ covL m l (dropI q i) a)) (covL m l q a) W := fun W hW x _ =>
    lostF_c x _ _ w3.heap.size W ((cell_mark hW (by omega) (fun q' e' => by have := (I5.out q' e').1; omega)).trans c5) (rdi_own (kept2 HO35.out hW (fun k k' e e' => by have := I3.out k e; have := I5.out k' e'; omega)))
  have HS := Lib.hid hsays
  clear hsays c5
  go_wp2_with fail
  refine (deleteFunc_c 118 _ EG.out _ v5 _ _ (covL m l q a) _ HS.out HO5.out).mono ?_
  rintro e w6 ⟨v6, rfl, ho6, hg6⟩
  have HB6 : Hid (Below w.heap.size w w6) := Lib.hid (bel_mark HB5.out HB5.out.size hg6 (fun k e => by have := (I5.out k e).1; have := HB4.out.size; omega))
  have HO6 := Lib.hid ho6
  clear ho6 hg6
  go_wp2
  go_ret
  exact ⟨_, rfl, own_base HO6.out HB4.out.size, HB6.out⟩
end Go.Proofs.Ytahehdgkbhjpoaa

namespace Go.Proofs.Ytahehdgkbhjpoaa
set_option linter.unusedVariables false
set_option linter.unusedSimpArgs false
open Go.RowKit

theorem rdi_cut {w : World} {b off n c j : Nat} {l : List Int} (h : Rd w (.slice (some ⟨b, off, none⟩) n c) n (ints l)) (hj : j ≤ n) (hl : l.length = n) : RdI w (.slice (some ⟨b, off, none⟩) j c) (l.take j) := by
  obtain ⟨A, c', hv, h1, h2, h3⟩ := h
  injection hv with hA _ hcc
  subst hA; subst hcc
  refine ⟨_, _, by rw [List.length_take, Nat.min_eq_left (by omega)], by rw [List.length_take]; omega, h2, fun hn => ?_⟩
  rw [List.length_take] at hn
  obtain ⟨b', off', e, hb, hcell⟩ := h3 (by omega)
  refine ⟨b', off', e, hb, fun q u hu => hcell q u ?_⟩
  rw [ints, List.map_take, List.getElem?_take] at hu
  split at hu
  · exact hu
  · cases hu
theorem rdi_from {w : World} {b off n c j : Nat} {l : List Int} (h : Rd w (.slice (some ⟨b, off, none⟩) n c) n (ints l)) (hj : j ≤ n) : Rd w (.slice (some ⟨b, off + j, none⟩) (n - j) (c - j)) (n - j) (ints (l.drop j)) := by
  obtain ⟨A, c', hv, h1, h2, h3⟩ := h
  injection hv with hA _ hcc
  subst hA; subst hcc
  refine ⟨_, _, rfl, by omega, by omega, fun hn => ?_⟩
  obtain ⟨b', off', e, hb, hcell⟩ := h3 (by omega)
  injection e with e
  injection e with e1 e2
  subst e1; subst e2
  refine ⟨b, off + j, rfl, hb, fun q u hu => ?_⟩
  have := hcell (j + q) u (by rw [ints, List.map_drop, List.getElem?_drop] at hu; exact hu)
  rw [Nat.add_assoc]; exact this

set_option maxRecDepth 100000 in
set_option maxHeartbeats 1000000 in
theorem cvDrop_c (v : Value) (q : List Int) (i j : Nat) (w : World) (hv : RdI w v q) (hj : j = i + 1) (hjn : j ≤ q.length) (hl : q.length ≤ 1000) :
    Calls Try.prog 121 #[v, .int .i64 i] w (OwnI (dropI q i) w) := by
  have hv0 := hv
  obtain ⟨A, c, rfl, hc, hm, hr⟩ := hv
  obtain ⟨b, off, rfl, hbl, _⟩ := hr (by omega)
  rw [maxLen_eq] at hm
  obtain ⟨i0, hi, hz0, hz1, hz2⟩ := info_parts Try.infoInt
  have HT := Lib.hid (rdi_cut (j := i) hv0 (by omega) rfl)
  have hti : (q.take i).length = i := by rw [List.length_take]; omega
  have HTI := Lib.hid hti
  have hdl : (ints (q.drop j)).length = q.length - j := by rw [ints_len, List.length_drop]
  have HDL : Hid ((ints (q.drop j)).length = (q.length - j) * 1) := Lib.hid (by rw [hdl, Nat.mul_one])
  have HJ := Lib.hid hj
  have s1 : IntKind.i64.wrap ((i : Int) + 1) = (j : Int) := by rw [IntKind.wrap_i64]; omega
  have HV0 := Lib.hid hv0
  have q0 : (0 : Int) ≤ (i : Int) := by omega
  have q1 : (i : Int) ≤ (c : Int) := by omega
  have q2 : (0 : Int) ≤ (j : Int) := by omega
  have q5 : (i : Int) < (j : Int) := by omega
  have q3 : (j : Int) ≤ (q.length : Int) := by omega
  have q4 : (j : Int) ≤ (c : Int) := by omega
  clear hr hti hdl hj hv0
  by_cases hcj : c = j
  · have hnj : q.length = j := by omega
    have hcz : c = q.length := by omega
    subst hcz
    have hjq : j = q.length := by omega
    subst hjq
    have HD : Hid (Rd w (.slice (some ⟨b, off, none⟩) 0 0) 0 (ints (q.drop q.length))) := Lib.hid ⟨_, _, rfl, by omega, by rw [maxLen_eq]; omega, fun h => absurd h (by omega)⟩
    have HDL0 : Hid ((ints (q.drop q.length)).length = 0 * 1) := Lib.hid (by rw [HDL.out]; omega)
    clear hcj hnj
    go_enter Try.func121, Try.ntmps121
    go_wp2_with fail
    go_region_held3 (fun W' => Below w.heap.size w W') (first | exact bel_grown ‹_› hgrowA (fun q e => (ho2.lt q e).1) | exact bel_then ‹_› hb1 | exact bel_dr (Below.refl _ _)) (first | (go_at_call 126; refine (l1Own_c _ (q.take i) _ (rd_below HT.out ‹_›) (by rw [HTI.out]; omega)).mono ?_; rintro e w' ⟨vo, rfl, hoo, hb1⟩; have ho2 : w'.ownsRow w.heap.size 3 1 vo i (ints (q.take i)) := (by have h := own_base (base' := w.heap.size) hoo (by first | exact Nat.le_refl _ | (simp; done)); rwa [HTI.out] at h)) | (refine step_app_rd _ rfl (.tmp 8) (.tmp 12) 27 rfl w.heap.size 3 i0 (.int .i64 0) 1 8 Try.underlying27 hi hz0 hz1 hz2 rfl (by decide) _ i (ints (q.take i)) rfl ho2 _ 0 (ints (q.drop q.length)) rfl (rd_below HD.out ‹Below w.heap.size w _›) HDL0.out (ints_one _) (by rw [maxLen_eq]; omega) (by omega) (Below.size ‹Below w.heap.size w _›) ?_; intro vA wA hownA hgrowA _))
    all_goals
      go_wp2
      go_ret
      refine ⟨_, rfl, ?_, ‹Below w.heap.size w _›⟩
      have e : dropI q i = q.take i ++ q.drop q.length := by unfold dropI; rw [HJ.out]
      have el : (q.take i ++ q.drop q.length).length = i + (q.length - q.length) := by rw [List.length_append, HTI.out, List.length_drop]
      rw [e, el, ints_append, show i + (q.length - q.length) = i + 0 by omega]
      exact hownA
  · have HD := Lib.hid (rdi_from (j := j) HV0.out hjn)
    go_enter Try.func121, Try.ntmps121
    go_wp2_with fail
    go_region_held3 (fun W' => Below w.heap.size w W') (first | exact bel_grown ‹_› hgrowA (fun q e => (ho2.lt q e).1) | exact bel_then ‹_› hb1 | exact bel_dr (Below.refl _ _)) (first | (go_at_call 126; refine (l1Own_c _ (q.take i) _ (rd_below HT.out ‹_›) (by rw [HTI.out]; omega)).mono ?_; rintro e w' ⟨vo, rfl, hoo, hb1⟩; have ho2 : w'.ownsRow w.heap.size 3 1 vo i (ints (q.take i)) := (by have h := own_base (base' := w.heap.size) hoo (by first | exact Nat.le_refl _ | (simp; done)); rwa [HTI.out] at h)) | (refine step_app_rd _ rfl (.tmp 8) (.tmp 12) 27 rfl w.heap.size 3 i0 (.int .i64 0) 1 8 Try.underlying27 hi hz0 hz1 hz2 rfl (by decide) _ i (ints (q.take i)) rfl ho2 _ (q.length - j) (ints (q.drop j)) rfl (rd_below HD.out ‹Below w.heap.size w _›) HDL.out (ints_one _) (by rw [maxLen_eq]; omega) (by omega) (Below.size ‹Below w.heap.size w _›) ?_; intro vA wA hownA hgrowA _))
    all_goals
      go_wp2
      go_ret
      refine ⟨_, rfl, ?_, ‹Below w.heap.size w _›⟩
      have e : dropI q i = q.take i ++ q.drop j := by unfold dropI; rw [HJ.out]
      have el : (q.take i ++ q.drop j).length = i + (q.length - j) := by rw [List.length_append, HTI.out, List.length_drop]
      rw [e, el, ints_append]
      exact hownA

set_option maxRecDepth 100000 in
set_option maxHeartbeats 1000000 in
theorem cvLost_c (m : Nat) (s v : Value) (l : List St) (q : List Int) (i j : Nat) (a : Int) (w : World) (hg : goodTown m l = true) (hq : ∀ x ∈ q, 0 ≤ x ∧ x ≤ (m : Int) - 1) (hi : i < q.length) (hj : j = i + 1) (hl6 : q.length ≤ 6) (hr : Rd w s l.length (l.flatMap St.cells)) (hv : RdI w v q) :
    Calls Try.prog 86 #[.agg #[.int .i64 m, s], v, .int .i64 i, .int .i64 a] w (OwnI (lostL m l q i a) w) := by
  have HR := Lib.hid hr
  have HV := Lib.hid hv
  obtain ⟨As, cs, rfl, _⟩ := hr
  have HG := Lib.hid hg
  have HQ := Lib.hid hq
  have HJ := Lib.hid hj
  have hjn : j ≤ q.length := by omega
  obtain ⟨i0, hi0, hz0, hz1, hz2⟩ := info_parts Try.infoInt
  obtain ⟨hm1, hm2, _, _⟩ := goodTown_true hg
  clear hv hg hq hj
  go_enter Try.func86, Try.ntmps86
  go_wp2_with fail
  generalize hw1 : World.alloc w _ = w1
  have k0 : w1.cell? ⟨w.heap.size, 0, none⟩ = some (.int .i64 m) := by subst hw1; simp [go_sem]
  have k1 : w1.cell? ⟨w.heap.size, 1, none⟩ = some (.slice As l.length cs) := by subst hw1; simp [go_sem]
  have hb1 : Below w.heap.size w w1 := by subst hw1; exact bel_al (Below.refl _ _) _
  have hz : w.heap.size < w1.heap.size := by subst hw1; simp
  clear hw1
  refine (cvSplit_c m _ _ l q a _ HG.out HQ.out (rd_below HR.out hb1) (rdi_below HV.out hb1)).mono ?_
  rintro e w2 ⟨v2, u2, rfl, ho2, _, hb2⟩
  have HO2 : Hid (w2.ownsRow w1.heap.size 3 1 v2 (covL m l q a).length (ints (covL m l q a))) := Lib.hid ho2
  have z0 := (hb2.cell (p := ⟨w.heap.size, 0, none⟩) hz).trans k0
  have z1 := (hb2.cell (p := ⟨w.heap.size, 1, none⟩) hz).trans k1
  have HB2 := Lib.hid (bel_then hb1 hb2)
  have hs12 := hb2.size
  have hz2' : w.heap.size < w2.heap.size := Nat.lt_of_lt_of_le hz hb2.size
  clear ho2 k0 k1 hb1 hb2 hz
  go_wp2_with fail
  go_region_held3 (fun w' => w'.cell? ⟨w.heap.size, 0, none⟩ = some (.int .i64 m) ∧ w'.cell? ⟨w.heap.size, 1, none⟩ = some (.slice As l.length cs)) (first | go_keep | (go_split_ands; refine ⟨?_, ?_⟩ <;> (rw [hb1.cell (by simp; omega)]; assumption)))
    (first | (go_at_call 121; refine (cvDrop_c _ q i j _ (rdi_below HV.out (bel_dr HB2.out)) HJ.out hjn (by omega)).mono ?_; rintro e w' ⟨x9, rfl, ho9, hb1⟩; have hbT := hb1; have sT : w2.heap.size ≤ w'.heap.size := hb1.size) | (go_at_call 61; refine (cvSplit_c m _ _ l (dropI q i) a _ HG.out (fun x hx => HQ.out x (dropI_mem hx)) (rd_below (rd_below HR.out (bel_dr HB2.out)) hbT) (rdi_own ho9)).mono ?_; rintro e w'' ⟨v3, u3, rfl, ho3, _, hb1⟩; have sE := hb1.size))
  have HO3 : Hid (w''.ownsRow w'.heap.size 3 1 v3 (covL m l (dropI q i) a).length (ints (covL m l (dropI q i) a))) := Lib.hid ho3
  have hb3 : Below w2.heap.size w2 w'' := bel_then (bel_then (bel_dr (Below.refl _ _)) hbT) hb1
  have HB3 := Lib.hid (bel_then HB2.out hb3)
  have HI3 := Lib.hid (own_below HO2.out hb3)
  have hsz3 : w1.heap.size ≤ w''.heap.size := by have := hb3.size; omega
  clear ho3 hb1 hbT ho9 hb3 z0 z1
  have hcl := covL_len m l q a
  obtain ⟨L, hL⟩ : ∃ L, covL m l q a = L := ⟨_, rfl⟩
  obtain ⟨O, hO⟩ : ∃ O, covL m l (dropI q i) a = O := ⟨_, rfl⟩
  rw [hL] at HI3 HO2 hcl
  rw [hO] at HO3
  have HLO : Hid (lostL m l q i a = L.filter (notIn O)) := Lib.hid (by unfold lostL; rw [hL, hO])
  have HR3 := Lib.hid (own_rd HI3.out)
  obtain ⟨A2, c2, hx2, hc2, hm2', hr2⟩ := own_rd HI3.out
  subst hx2
  rw [maxLen_eq] at hm2'
  have HRC := Lib.hid hr2
  clear hL hO hr2 HO2 HI3
  go_wp2_with fail
  go_loopw [13, 34] (fun v13 v34 wr => ∃ (k : Nat) (M : List Int), k ≤ L.length ∧ v34 = .int .i64 k ∧ M.length ≤ k ∧ Hid ((L.take k).filter (notIn O) = M) ∧ Hid (wr.ownsRow w''.heap.size 3 1 v13 M.length (ints M)) ∧ Hid (Below w''.heap.size w'' wr)) (fun _ v34 _ => L.length - (intOf v34).toNat)
  case atStart => exact ⟨0, [], Nat.zero_le _, rfl, by simp, Lib.hid rfl, Lib.hid (World.ownsRow_nil _ _ _ _), Lib.hid (Below.refl _ _)⟩
  case round =>
    obtain ⟨k, M, hk, rfl, hMk, HM, HOW, HBL⟩ := hrel
    obtain ⟨wA, rfl⟩ : ∃ wA : World, wA = wr := ⟨_, rfl⟩
    by_cases hlt : k < L.length
    · obtain ⟨b, off, rfl, hbl, hcell⟩ := HRC.out (by omega)
      obtain ⟨x, hx⟩ : ∃ x, L[k]? = some x := ⟨_, List.getElem?_eq_getElem hlt⟩
      have c0 := cell_at hcell HBL.out hbl (ints_get hx)
      have HX := Lib.hid hx
      clear hx hcell
      go_wp2_with fail
      refine (l1Has_c _ x O _ (rdi_below (rdi_own HO3.out) HBL.out)).mono ?_; rintro e w' ⟨rfl, rfl⟩
      by_cases hmem : x ∈ O
      · rw [decide_eq_true hmem]
        have HM' : Hid ((L.take (k + 1)).filter (notIn O) = M) := Lib.hid (by rw [take_succ_of HX.out, List.filter_append, HM.out]; simp [notIn, hmem])
        clear hmem
        go_wp2
        exact ⟨⟨k + 1, M, by omega, by go_num, by omega, HM', HOW, HBL⟩, by simp [intOf]; omega⟩
      · rw [decide_eq_false hmem]
        have HM' : Hid ((L.take (k + 1)).filter (notIn O) = M ++ [x]) := Lib.hid (by rw [take_succ_of HX.out, List.filter_append, HM.out]; simp [notIn, hmem])
        clear hmem
        go_wp2_with (at_builtin; refine wpList_app_rd _ rfl _ _ 27 rfl w''.heap.size 3 i0 (.int .i64 0) 1 8 Try.underlying27 hi0 hz0 hz1 hz2 rfl (by decide) _ _ _ rfl (HOW.out.alloc _) _ 1 [.int .i64 x] rfl (rd_new _ rfl (Nat.le_refl _) (by rw [maxLen_eq]; omega)) rfl (ints_one [x]) (by rw [maxLen_eq]; omega) (by omega) (by have := HBL.out.size; simp; omega) ?_; intro v' w7 hown' hgrow _)
        refine ⟨⟨k + 1, M ++ [x], by omega, by go_num, by rw [List.length_append]; simp; omega, HM', Lib.hid ?_, Lib.hid (bel_grown (bel_al HBL.out _) hgrow (fun q e => (HOW.out.lt q e).1))⟩, by simp [intOf]; omega⟩
        rw [ints_append, List.length_append]; exact hown'
    · obtain rfl : k = L.length := by omega
      have hM := HM.out
      rw [List.take_length] at hM
      have HM2 := Lib.hid hM
      clear hM
      go_wp2
      go_ret
      rw [HLO.out, HM2.out]
      refine ⟨_, rfl, ?_, bel_then HB3.out HBL.out⟩
      exact own_base HOW.out HB3.out.size
end Go.Proofs.Ytahehdgkbhjpoaa

namespace Go.Proofs.Ytahehdgkbhjpoaa
set_option linter.unusedVariables false
set_option linter.unusedSimpArgs false
open Go.RowKit

theorem lostL_len (m : Nat) (l : List St) (q : List Int) (i : Nat) (a : Int) : (lostL m l q i a).length ≤ m := by
  have h1 := List.length_filter_le (notIn (covL m l (dropI q i) a)) (covL m l q a)
  have h2 := covL_len m l q a
  unfold lostL
  omega
def askW (n : Int) (l : List St) (q : List Int) (i a : Int) : Bool := askC n l q a && inB i 0 ((q.length : Int) - 1)
def lostWithoutV (n : Int) (l : List St) (q : List Int) (i a : Int) : List Int × Bool := if askW n l q i a = true then (lostL n.toNat l q i.toNat a, true) else ([], false)
theorem lostWithoutV_len (n : Int) (l : List St) (q : List Int) (i a : Int) : (lostWithoutV n l q i a).1.length ≤ 1000000 := by
  unfold lostWithoutV
  split
  · rename_i h
    unfold askW at h
    simp only [Bool.and_eq_true] at h
    have h1 := goodTown_true (askC_true h.1).2.2.1
    have h2 := lostL_len n.toNat l q i.toNat a
    dsimp only
    omega
  · simp
theorem askW_true {n : Int} {l : List St} {q : List Int} {i a : Int} (h : askW n l q i a = true) : goodSta n l q = true ∧ inB a 0 36000 = true ∧ inB i 0 ((q.length : Int) - 1) = true ∧ askC n l q a = true ∧ goodTown n l = true ∧ (∀ x ∈ q, 0 ≤ x ∧ x ≤ n - 1) ∧ q.length ≤ 6 := by
  simp only [askW, Bool.and_eq_true] at h
  have h1 := askC_true h.1
  exact ⟨h1.1, h1.2.1, h.2, h.1, h1.2.2⟩

set_option maxRecDepth 100000 in
set_option maxHeartbeats 1000000 in
theorem lostWithoutI_c (n : Int) (s : Value) (l : List St) (v : Value) (q : List Int) (i a : Int) (w : World) (hr : Rd w s l.length (l.flatMap St.cells)) (hq : RdI w v q) :
    Calls Try.prog 31 #[.agg #[.int .i64 n, s], v, .int .i64 i, .int .i64 a] w (OwnIB (lostWithoutV n l q i a) w) := by
  have HR := Lib.hid hr
  have HQ := Lib.hid hq
  obtain ⟨Aq, cq, rfl, hcq, hmq, _⟩ := hq
  rw [maxLen_eq] at hmq
  have hbx : ∀ o, Below w.heap.size w (w.alloc o) := fun o => bel_al (Below.refl _ _) o
  have s1 : IntKind.i64.wrap ((q.length : Int) - 1) = (q.length : Int) - 1 := IntWalk.i64_in _ (by omega)
  by_cases hs : goodSta n l q = true
  · obtain ⟨hg, hqm, hq6⟩ := goodSta_true hs
    have HS := Lib.hid hs
    by_cases hi : inB i 0 ((q.length : Int) - 1) = true
    · have HI := Lib.hid hi
      obtain ⟨i0, i1⟩ := inB_true hi
      by_cases hl : inB a 0 36000 = true
      · have HL := Lib.hid hl
        obtain ⟨ik, rfl⟩ := Int.eq_ofNat_of_zero_le i0
        obtain ⟨m, rfl⟩ := nat_of (goodTown_true hg).1
        have HF : Hid (lostWithoutV m l q ik a = (lostL m l q ik a, true)) := Lib.hid (by unfold lostWithoutV; rw [if_pos (by unfold askW askC; rw [hs, hi, hl]; rfl), Int.toNat_natCast, Int.toNat_natCast])
        have HG := Lib.hid hg
        have HM := Lib.hid hqm
        clear hg hqm hs hi hl hr s1
        go_enter Try.func31, Try.ntmps31
        go_wp2_with fail
        generalize hw1 : World.alloc w _ = w1
        have k0 : w1.cell? ⟨w.heap.size, 0, none⟩ = some (.int .i64 m) := by subst hw1; simp [go_sem]
        have k1 : w1.cell? ⟨w.heap.size, 1, none⟩ = some s := by subst hw1; simp [go_sem]
        have hb1 : Below w.heap.size w w1 := by subst hw1; exact hbx _
        have hz : w.heap.size < w1.heap.size := by subst hw1; simp
        clear hw1 hbx
        refine (areStations_c m s _ l q _ _ k0 k1 (rd_below HR.out hb1) (rdi_below HQ.out hb1)).mono ?_; rw [HS.out]; rintro e w2 ⟨rfl, hb2⟩
        have HB := Lib.hid (bel_then hb1 hb2)
        have z0 := (hb2.cell (p := ⟨w.heap.size, 0, none⟩) hz).trans k0
        have z1 := (hb2.cell (p := ⟨w.heap.size, 1, none⟩) hz).trans k1
        clear k0 k1 hb1 hb2 hz
        go_wp2_with fail
        refine (inside_c _ _ _ _).mono ?_; rw [HI.out]; rintro e w2 ⟨rfl, rfl⟩
        go_wp2_with fail
        refine (isLimit_c _ _).mono ?_; rw [HL.out]; rintro e w2 ⟨rfl, rfl⟩
        go_wp2_with fail
        refine (lostWithout_c m s _ l q ik (ik + 1) a _ _ HG.out HM.out (by omega) rfl hq6 z0 z1 (rd_below HR.out HB.out) (rdi_below HQ.out HB.out)).mono ?_; rintro e w3 ⟨x, rfl, ho, hb3⟩
        go_wp2
        go_ret2
        rw [HF.out]
        exact ⟨_, rfl, own_base ho HB.out.size, bel_then HB.out hb3⟩
      · have hl' : inB a 0 36000 = false := by simpa using hl
        have HF : Hid (lostWithoutV n l q i a = ([], false)) := Lib.hid (by unfold lostWithoutV; rw [if_neg (by unfold askW askC; rw [hl']; simp)])
        have HL := Lib.hid hl'
        clear hs hi hl hl' hr s1
        go_enter Try.func31, Try.ntmps31
        go_wp2_with fail
        refine (areStations_c n s _ l q _ _ (by simp [go_sem]) (by simp [go_sem]) (rd_below HR.out (hbx _)) (rdi_below HQ.out (hbx _))).mono ?_; rw [HS.out]; rintro e w2 ⟨rfl, hb2⟩
        go_wp2_with fail
        refine (inside_c _ _ _ _).mono ?_; rw [HI.out]; rintro e w2 ⟨rfl, rfl⟩
        go_wp2_with fail
        refine (isLimit_c _ _).mono ?_; rw [HL.out]; rintro e w2 ⟨rfl, rfl⟩
        go_wp2
        go_ret2
        rw [HF.out]
        exact ⟨_, rfl, World.ownsRow_nil _ _ _ _, bel_then (hbx _) hb2⟩
    · have hi' : inB i 0 ((q.length : Int) - 1) = false := by simpa using hi
      have HF : Hid (lostWithoutV n l q i a = ([], false)) := Lib.hid (by unfold lostWithoutV; rw [if_neg (by unfold askW; rw [hi']; simp)])
      have HI := Lib.hid hi'
      clear hs hi hi' hr s1
      go_enter Try.func31, Try.ntmps31
      go_wp2_with fail
      refine (areStations_c n s _ l q _ _ (by simp [go_sem]) (by simp [go_sem]) (rd_below HR.out (hbx _)) (rdi_below HQ.out (hbx _))).mono ?_; rw [HS.out]; rintro e w2 ⟨rfl, hb2⟩
      go_wp2_with fail
      refine (inside_c _ _ _ _).mono ?_; rw [HI.out]; rintro e w2 ⟨rfl, rfl⟩
      go_wp2
      go_ret2
      rw [HF.out]
      exact ⟨_, rfl, World.ownsRow_nil _ _ _ _, bel_then (hbx _) hb2⟩
  · have hs' : goodSta n l q = false := by simpa using hs
    have HF : Hid (lostWithoutV n l q i a = ([], false)) := Lib.hid (by unfold lostWithoutV; rw [if_neg (by unfold askW askC; rw [hs']; simp)])
    have HS := Lib.hid hs'
    clear hs hs' hr s1
    go_enter Try.func31, Try.ntmps31
    go_wp2_with fail
    refine (areStations_c n s _ l q _ _ (by simp [go_sem]) (by simp [go_sem]) (rd_below HR.out (hbx _)) (rdi_below HQ.out (hbx _))).mono ?_; rw [HS.out]; rintro e w2 ⟨rfl, hb2⟩
    go_wp2
    go_ret2
    rw [HF.out]
    exact ⟨_, rfl, World.ownsRow_nil _ _ _ _, bel_then (hbx _) hb2⟩

set_option maxRecDepth 100000 in
set_option maxHeartbeats 1000000 in
theorem lostWithoutS_c (n : Int) (s : Value) (l : List St) (v : Value) (q : List Int) (i a : Int) (w : World) (hr : Rd w s l.length (l.flatMap St.cells)) (hq : RdI w v q) :
    Calls Try.prog 32 #[.agg #[.int .i64 n, s], v, .int .i64 i, .int .i64 a] w (OwnIB (lostWithoutV n l q i a) w) := by
  have HR := Lib.hid hr
  have HQ := Lib.hid hq
  obtain ⟨Aq, cq, rfl, hcq, hmq, _⟩ := hq
  rw [maxLen_eq] at hmq
  have hbx : ∀ o, Below w.heap.size w (w.alloc o) := fun o => bel_al (Below.refl _ _) o
  by_cases hs : askC n l q a = true
  · have hk := askC_true hs
    obtain ⟨_, _, hg, hqm, hq6⟩ := hk
    have HS := Lib.hid hs
    by_cases hi : inB i 0 ((q.length : Int) - 1) = true
    · have HI := Lib.hid hi
      obtain ⟨i0, i1⟩ := inB_true hi
      obtain ⟨ik, rfl⟩ := Int.eq_ofNat_of_zero_le i0
      obtain ⟨m, rfl⟩ := nat_of (goodTown_true hg).1
      have HF : Hid (lostWithoutV m l q ik a = (lostL m l q ik a, true)) := Lib.hid (by unfold lostWithoutV; rw [if_pos (by unfold askW; rw [hs, hi]; rfl), Int.toNat_natCast, Int.toNat_natCast])
      have HG := Lib.hid hg
      have HM := Lib.hid hqm
      clear hg hqm hs hi hr
      go_enter Try.func32, Try.ntmps32
      go_wp2_with fail
      generalize hw1 : World.alloc w _ = w1
      have k0 : w1.cell? ⟨w.heap.size, 0, none⟩ = some (.int .i64 m) := by subst hw1; simp [go_sem]
      have k1 : w1.cell? ⟨w.heap.size, 1, none⟩ = some s := by subst hw1; simp [go_sem]
      have hb1 : Below w.heap.size w w1 := by subst hw1; exact hbx _
      have hz : w.heap.size < w1.heap.size := by subst hw1; simp
      clear hw1 hbx
      refine (cvAsked_c m s l _ q a _ (rd_below HR.out hb1) (rdi_below HQ.out hb1)).mono ?_; rw [HS.out]; rintro e w2 ⟨rfl, hb2⟩
      have HB := Lib.hid (bel_then hb1 hb2)
      have z0 := (hb2.cell (p := ⟨w.heap.size, 0, none⟩) hz).trans k0
      have z1 := (hb2.cell (p := ⟨w.heap.size, 1, none⟩) hz).trans k1
      clear k0 k1 hb1 hb2 hz
      go_wp2_with fail
      refine (l1In_c _ _ _ _).mono ?_; rw [HI.out]; rintro e w2 ⟨rfl, rfl⟩
      go_wp2_with fail
      refine (cvLost_c m s _ l q ik (ik + 1) a _ HG.out HM.out (by omega) rfl hq6 (rd_below HR.out HB.out) (rdi_below HQ.out HB.out)).mono ?_; rintro e w3 ⟨x, rfl, ho, hb3⟩
      go_wp2
      go_ret2
      rw [HF.out]
      exact ⟨_, rfl, own_base ho HB.out.size, bel_then HB.out hb3⟩
    · have hi' : inB i 0 ((q.length : Int) - 1) = false := by simpa using hi
      have HF : Hid (lostWithoutV n l q i a = ([], false)) := Lib.hid (by unfold lostWithoutV; rw [if_neg (by unfold askW; rw [hi']; simp)])
      have HI := Lib.hid hi'
      clear hs hi hi' hr
      go_enter Try.func32, Try.ntmps32
      go_wp2_with fail
      refine (cvAsked_c n s l _ q a _ (rd_below HR.out (hbx _)) (rdi_below HQ.out (hbx _))).mono ?_; rw [HS.out]; rintro e w2 ⟨rfl, hb2⟩
      go_wp2_with fail
      refine (l1In_c _ _ _ _).mono ?_; rw [HI.out]; rintro e w2 ⟨rfl, rfl⟩
      go_wp2
      go_ret2
      rw [HF.out]
      exact ⟨_, rfl, World.ownsRow_nil _ _ _ _, bel_then (hbx _) hb2⟩
  · have hs' : askC n l q a = false := by simpa using hs
    have HF : Hid (lostWithoutV n l q i a = ([], false)) := Lib.hid (by unfold lostWithoutV; rw [if_neg (by unfold askW; rw [hs']; simp)])
    have HS := Lib.hid hs'
    clear hs hs' hr
    go_enter Try.func32, Try.ntmps32
    go_wp2_with fail
    refine (cvAsked_c n s l _ q a _ (rd_below HR.out (hbx _)) (rdi_below HQ.out (hbx _))).mono ?_; rw [HS.out]; rintro e w2 ⟨rfl, hb2⟩
    go_wp2
    go_ret2
    rw [HF.out]
    exact ⟨_, rfl, World.ownsRow_nil _ _ _ _, bel_then (hbx _) hb2⟩

/-! ### NeededStations -/
def needP (m : Nat) (l : List St) (q : List Int) (a : Int) (i : Nat) : Bool := decide (0 < (lostL m l q i a).length)
def neededStationsW (m : Nat) (l : List St) (q : List Int) (a : Int) : List Int × Bool := (selI (needP m l q a) q.length, true)
def neededStationsV (n : Int) (l : List St) (q : List Int) (a : Int) : List Int × Bool := if askC n l q a = true then neededStationsW n.toNat l q a else ([], false)
theorem neededStationsV_len (n : Int) (l : List St) (q : List Int) (a : Int) : (neededStationsV n l q a).1.length ≤ 1000000 := by
  unfold neededStationsV
  split
  · rename_i h
    have h1 := askC_true h
    have h2 := selI_len (needP n.toNat l q a) q.length
    unfold neededStationsW
    dsimp only
    omega
  · simp
set_option maxRecDepth 100000 in
set_option maxHeartbeats 1000000 in
theorem neededStationsI_c (n : Int) (s : Value) (l : List St) (v : Value) (q : List Int) (a : Int) (w : World) (hr : Rd w s l.length (l.flatMap St.cells)) (hq : RdI w v q) :
    Calls Try.prog 22 #[.agg #[.int .i64 n, s], v, .int .i64 a] w (OwnIB (neededStationsV n l q a) w) := by
  have HR := Lib.hid hr
  have HQ := Lib.hid hq
  clear hr hq
  have hbx : ∀ o, Below w.heap.size w (w.alloc o) := fun o => bel_al (Below.refl _ _) o
  by_cases hok : askC n l q a = true
  · have hk := askC_true hok
    obtain ⟨hok1, hlim, hg, hqm, hq6⟩ := hk
    obtain ⟨hlim0, hlim1⟩ := inB_true hlim
    obtain ⟨m, rfl⟩ := nat_of (goodTown_true hg).1
    have HF : Hid (neededStationsV m l q a = neededStationsW m l q a) := Lib.hid (by unfold neededStationsV; rw [if_pos hok, Int.toNat_natCast])
    obtain ⟨hm1, hm2, _, _⟩ := goodTown_true hg
    have HG := Lib.hid hg
    have HM := Lib.hid hqm
    have HOK := Lib.hid hok
    have HOK1 := Lib.hid hok1
    have HLIM := Lib.hid hlim
    clear hok1 hlim
    clear hg hqm hok
    obtain ⟨Aq, cq, hvq, _⟩ := HQ.out
    subst hvq
    go_enter Try.func22, Try.ntmps22
    go_wp2_with fail
    generalize hw1 : World.alloc w _ = w1
    have k0 : w1.cell? ⟨w.heap.size, 0, none⟩ = some (.int .i64 m) := by subst hw1; simp [go_sem]
    have k1 : w1.cell? ⟨w.heap.size, 1, none⟩ = some s := by subst hw1; simp [go_sem]
    have hb1 : Below w.heap.size w w1 := by subst hw1; exact hbx _
    have hz : w.heap.size < w1.heap.size := by subst hw1; simp
    clear hw1 hbx
    refine (areStations_c m s _ l q _ _ k0 k1 (rd_below HR.out hb1) (rdi_below HQ.out hb1)).mono ?_; rw [HOK1.out]; rintro e w2 ⟨rfl, hb2⟩
    have hb12 := bel_then hb1 hb2
    have hz2 : w.heap.size < w2.heap.size := Nat.lt_of_lt_of_le hz hb2.size
    have z0 := (hb2.cell (p := ⟨w.heap.size, 0, none⟩) hz).trans k0
    have z1 := (hb2.cell (p := ⟨w.heap.size, 1, none⟩) hz).trans k1
    have HR2 := Lib.hid (rd_below HR.out hb12)
    have HQ2 := Lib.hid (rdi_below HQ.out hb12)
    have HB := Lib.hid hb12
    clear k0 k1 hb1 hb2 hz hb12
    go_wp2_with fail
    refine (isLimit_c a _).mono ?_; rw [HLIM.out]; rintro e w2 ⟨rfl, rfl⟩
    go_wp2_with fail
    obtain ⟨i0, hi, hz0, hz1, hz2'⟩ := info_parts Try.infoInt
    go_loopw [8, 20] (fun v8 vi wr => ∃ (k : Nat) (M : List Int), k ≤ q.length ∧ vi = .int .i64 k ∧ M.length ≤ k ∧ Hid (selI (needP m l q a) k = M) ∧ Hid (wr.ownsRow w2.heap.size 3 1 v8 M.length (ints M)) ∧ Hid (Below w2.heap.size w2 wr)) (fun _ vi _ => q.length - (intOf vi).toNat)
    case atStart => exact ⟨0, [], Nat.zero_le _, rfl, by simp, Lib.hid rfl, Lib.hid (World.ownsRow_nil _ _ _ _), Lib.hid (Below.refl _ _)⟩
    case round =>
      obtain ⟨k, M, hk, rfl, hMk, HMS, HOW, HBL⟩ := hrel
      obtain ⟨wA, rfl⟩ : ∃ wA : World, wA = wr := ⟨_, rfl⟩
      by_cases hlt : k < q.length
      · have b0 := (HBL.out.cell (p := ⟨w.heap.size, 0, none⟩) hz2).trans z0
        have b1 := (HBL.out.cell (p := ⟨w.heap.size, 1, none⟩) hz2).trans z1
        go_wp2_with fail
        refine (lostWithout_c m s _ l q k (k + 1) a _ _ HG.out HM.out hlt rfl hq6 b0 b1 (rd_below HR2.out HBL.out) (rdi_below HQ2.out HBL.out)).mono ?_; rintro e w4 ⟨x, rfl, ho, hb4⟩
        obtain ⟨Ax, cx, hxx, _⟩ := own_rd ho
        subst hxx
        have HB4 := Lib.hid (bel_then HBL.out hb4)
        have HOW4 := Lib.hid (own_below HOW.out hb4)
        clear ho hb4 b0 b1
        by_cases hp : 0 < (lostL m l q k a).length
        · have HMS' : Hid (selI (needP m l q a) (k + 1) = M ++ [(k : Int)]) := Lib.hid (by rw [selI_yes (by unfold needP; exact decide_eq_true hp), HMS.out])
          have hp2 : (0 : Int) < ((lostL m l q k a).length : Int) := by omega
          clear hp
          go_wp2_with (at_builtin; refine wpList_app_rd _ rfl _ _ 27 rfl w2.heap.size 3 i0 (.int .i64 0) 1 8 Try.underlying27 hi hz0 hz1 hz2' rfl (by decide) _ _ _ rfl (HOW4.out.alloc _) _ 1 [.int .i64 k] rfl (rd_new _ rfl (Nat.le_refl _) (by rw [maxLen_eq]; omega)) rfl (ints_one [(k : Int)]) (by rw [maxLen_eq]; omega) (by omega) (by have := HB4.out.size; simp; omega) ?_; intro v' w7 hown' hgrow _)
          refine ⟨⟨k + 1, M ++ [(k : Int)], by omega, by go_num, by rw [List.length_append]; simp; omega, HMS', Lib.hid ?_, Lib.hid (bel_grown (bel_al HB4.out _) hgrow (fun q e => (HOW4.out.lt q e).1))⟩, by simp [intOf]; omega⟩
          rw [ints_append, List.length_append]; exact hown'
        · have HMS' : Hid (selI (needP m l q a) (k + 1) = M) := Lib.hid (by rw [selI_no (by unfold needP; exact decide_eq_false hp), HMS.out])
          have hp2 : ((lostL m l q k a).length : Int) ≤ 0 := by omega
          clear hp
          go_wp2
          exact ⟨⟨k + 1, M, by omega, by go_num, by omega, HMS', HOW4, HB4⟩, by simp [intOf]; omega⟩
      · obtain rfl : k = q.length := by omega
        have HV : Hid (neededStationsW m l q a = (M, true)) := Lib.hid (by unfold neededStationsW; rw [HMS.out])
        go_wp2
        go_ret2
        rw [HF.out, HV.out]
        refine ⟨_, rfl, ?_, bel_then HB.out HBL.out⟩
        exact own_base HOW.out HB.out.size
  · have hok : askC n l q a = false := by simpa using hok
    have HF : Hid (neededStationsV n l q a = ([], false)) := Lib.hid (by unfold neededStationsV; rw [hok]; rfl)
    by_cases hg : goodSta n l q = true
    · have hl : inB a 0 36000 = false := by unfold askC at hok; rw [hg] at hok; simpa using hok
      go_enter Try.func22, Try.ntmps22
      go_wp2_with (first | (go_at_call 57; refine (areStations_c n s _ l q _ _ (by simp [go_sem]) (by simp [go_sem]) (rd_below HR.out (hbx _)) (rdi_below HQ.out (hbx _))).mono ?_; rw [hg]; rintro e w' ⟨rfl, hb1⟩) | (go_at_call 58; refine (isLimit_c a _).mono ?_; rw [hl]; rintro e w' ⟨rfl, rfl⟩))
      go_ret2
      rw [HF.out]
      exact ⟨_, rfl, World.ownsRow_nil _ _ _ _, bel_then (hbx _) hb1⟩
    · have hg : goodSta n l q = false := by simpa using hg
      go_enter Try.func22, Try.ntmps22
      go_wp2_with (go_at_call 57; refine (areStations_c n s _ l q _ _ (by simp [go_sem]) (by simp [go_sem]) (rd_below HR.out (hbx _)) (rdi_below HQ.out (hbx _))).mono ?_; rw [hg]; rintro e w' ⟨rfl, hb1⟩)
      go_ret2
      rw [HF.out]
      exact ⟨_, rfl, World.ownsRow_nil _ _ _ _, bel_then (hbx _) hb1⟩
set_option maxRecDepth 100000 in
set_option maxHeartbeats 1000000 in
theorem neededStationsS_c (n : Int) (s : Value) (l : List St) (v : Value) (q : List Int) (a : Int) (w : World) (hr : Rd w s l.length (l.flatMap St.cells)) (hq : RdI w v q) :
    Calls Try.prog 33 #[.agg #[.int .i64 n, s], v, .int .i64 a] w (OwnIB (neededStationsV n l q a) w) := by
  have HR := Lib.hid hr
  have HQ := Lib.hid hq
  clear hr hq
  have hbx : ∀ o, Below w.heap.size w (w.alloc o) := fun o => bel_al (Below.refl _ _) o
  by_cases hok : askC n l q a = true
  · have hk := askC_true hok
    obtain ⟨hok1, hlim, hg, hqm, hq6⟩ := hk
    obtain ⟨hlim0, hlim1⟩ := inB_true hlim
    obtain ⟨m, rfl⟩ := nat_of (goodTown_true hg).1
    have HF : Hid (neededStationsV m l q a = neededStationsW m l q a) := Lib.hid (by unfold neededStationsV; rw [if_pos hok, Int.toNat_natCast])
    obtain ⟨hm1, hm2, _, _⟩ := goodTown_true hg
    have HG := Lib.hid hg
    have HM := Lib.hid hqm
    have HOK := Lib.hid hok
    have HOK1 := Lib.hid hok1
    have HLIM := Lib.hid hlim
    clear hok1 hlim
    clear hg hqm hok
    obtain ⟨Aq, cq, hvq, _⟩ := HQ.out
    subst hvq
    go_enter Try.func33, Try.ntmps33
    go_wp2_with fail
    generalize hw1 : World.alloc w _ = w1
    have k0 : w1.cell? ⟨w.heap.size, 0, none⟩ = some (.int .i64 m) := by subst hw1; simp [go_sem]
    have k1 : w1.cell? ⟨w.heap.size, 1, none⟩ = some s := by subst hw1; simp [go_sem]
    have hb1 : Below w.heap.size w w1 := by subst hw1; exact hbx _
    have hz : w.heap.size < w1.heap.size := by subst hw1; simp
    clear hw1 hbx
    refine (cvAsked_c m s l _ q a _ (rd_below HR.out hb1) (rdi_below HQ.out hb1)).mono ?_; rw [HOK.out]; rintro e w2 ⟨rfl, hb2⟩
    have hb12 := bel_then hb1 hb2
    have hz2 : w.heap.size < w2.heap.size := Nat.lt_of_lt_of_le hz hb2.size
    have z0 := (hb2.cell (p := ⟨w.heap.size, 0, none⟩) hz).trans k0
    have z1 := (hb2.cell (p := ⟨w.heap.size, 1, none⟩) hz).trans k1
    have HR2 := Lib.hid (rd_below HR.out hb12)
    have HQ2 := Lib.hid (rdi_below HQ.out hb12)
    have HB := Lib.hid hb12
    clear k0 k1 hb1 hb2 hz hb12
    go_wp2_with fail
    obtain ⟨i0, hi, hz0, hz1, hz2'⟩ := info_parts Try.infoInt
    go_loopw [8, 17] (fun v8 vi wr => ∃ (k : Nat) (M : List Int), k ≤ q.length ∧ vi = .int .i64 k ∧ M.length ≤ k ∧ Hid (selI (needP m l q a) k = M) ∧ Hid (wr.ownsRow w2.heap.size 3 1 v8 M.length (ints M)) ∧ Hid (Below w2.heap.size w2 wr)) (fun _ vi _ => q.length - (intOf vi).toNat)
    case atStart => exact ⟨0, [], Nat.zero_le _, rfl, by simp, Lib.hid rfl, Lib.hid (World.ownsRow_nil _ _ _ _), Lib.hid (Below.refl _ _)⟩
    case round =>
      obtain ⟨k, M, hk, rfl, hMk, HMS, HOW, HBL⟩ := hrel
      obtain ⟨wA, rfl⟩ : ∃ wA : World, wA = wr := ⟨_, rfl⟩
      by_cases hlt : k < q.length
      · have b0 := (HBL.out.cell (p := ⟨w.heap.size, 0, none⟩) hz2).trans z0
        have b1 := (HBL.out.cell (p := ⟨w.heap.size, 1, none⟩) hz2).trans z1
        go_wp2_with fail
        refine (cvLost_c m s _ l q k (k + 1) a _ HG.out HM.out hlt rfl hq6 (rd_below HR2.out HBL.out) (rdi_below HQ2.out HBL.out)).mono ?_; rintro e w4 ⟨x, rfl, ho, hb4⟩
        obtain ⟨Ax, cx, hxx, _⟩ := own_rd ho
        subst hxx
        have HB4 := Lib.hid (bel_then HBL.out hb4)
        have HOW4 := Lib.hid (own_below HOW.out hb4)
        clear ho hb4 b0 b1
        by_cases hp : 0 < (lostL m l q k a).length
        · have HMS' : Hid (selI (needP m l q a) (k + 1) = M ++ [(k : Int)]) := Lib.hid (by rw [selI_yes (by unfold needP; exact decide_eq_true hp), HMS.out])
          have hp2 : (0 : Int) < ((lostL m l q k a).length : Int) := by omega
          clear hp
          go_wp2_with (at_builtin; refine wpList_app_rd _ rfl _ _ 27 rfl w2.heap.size 3 i0 (.int .i64 0) 1 8 Try.underlying27 hi hz0 hz1 hz2' rfl (by decide) _ _ _ rfl (HOW4.out.alloc _) _ 1 [.int .i64 k] rfl (rd_new _ rfl (Nat.le_refl _) (by rw [maxLen_eq]; omega)) rfl (ints_one [(k : Int)]) (by rw [maxLen_eq]; omega) (by omega) (by have := HB4.out.size; simp; omega) ?_; intro v' w7 hown' hgrow _)
          refine ⟨⟨k + 1, M ++ [(k : Int)], by omega, by go_num, by rw [List.length_append]; simp; omega, HMS', Lib.hid ?_, Lib.hid (bel_grown (bel_al HB4.out _) hgrow (fun q e => (HOW4.out.lt q e).1))⟩, by simp [intOf]; omega⟩
          rw [ints_append, List.length_append]; exact hown'
        · have HMS' : Hid (selI (needP m l q a) (k + 1) = M) := Lib.hid (by rw [selI_no (by unfold needP; exact decide_eq_false hp), HMS.out])
          have hp2 : ((lostL m l q k a).length : Int) ≤ 0 := by omega
          clear hp
          go_wp2
          exact ⟨⟨k + 1, M, by omega, by go_num, by omega, HMS', HOW4, HB4⟩, by simp [intOf]; omega⟩
      · obtain rfl : k = q.length := by omega
        have HV : Hid (neededStationsW m l q a = (M, true)) := Lib.hid (by unfold neededStationsW; rw [HMS.out])
        go_wp2
        go_ret2
        rw [HF.out, HV.out]
        refine ⟨_, rfl, ?_, bel_then HB.out HBL.out⟩
        exact own_base HOW.out HB.out.size
  · have hok : askC n l q a = false := by simpa using hok
    have HF : Hid (neededStationsV n l q a = ([], false)) := Lib.hid (by unfold neededStationsV; rw [hok]; rfl)
    go_enter Try.func33, Try.ntmps33
    go_wp2_with (go_at_call 60; refine (cvAsked_c n s l _ q a _ (rd_below HR.out (hbx _)) (rdi_below HQ.out (hbx _))).mono ?_; rw [hok]; rintro e w' ⟨rfl, hb1⟩)
    go_ret2
    rw [HF.out]
    exact ⟨_, rfl, World.ownsRow_nil _ _ _ _, bel_then (hbx _) hb1⟩
end Go.Proofs.Ytahehdgkbhjpoaa
