/-
  The reference's stations without one of them, and the nodes that are lost then.
-/
import Derived.Test.YtemcdgchleijbaaCovF
import Derived.Deep.RegionHeld3
import Derived.Deep.RegionLaw
namespace Go.Proofs.Ytemcdgchleijbaa
open Go.RowKit

theorem rdi_cut {w : World} {b off n c j : Nat} {l : List Int} (h : Rd w (.slice (some ⟨b, off, none⟩) n c) n (ints l)) (hj : j ≤ n) (hl : l.length = n) : RdI w (.slice (some ⟨b, off, none⟩) j c) (l.take j) := by
  obtain ⟨A, c', hv, h1, h2, h3⟩ := h
  injection hv with hA _ hcc
  subst hA; subst hcc
  refine ⟨_, _, by rw [List.length_take, Nat.min_eq_left (by omega)], by rw [List.length_take]; omega, h2, fun hn => ?_⟩
  rw [List.length_take] at hn
  obtain ⟨b', off', e, hb, hcell⟩ := h3 (by omega)
  refine ⟨b', off', e, hb, fun q u hu => hcell q u ?_⟩
  rw [ints, List.map_take, List.getElem?_take] at hu
  split at hu
  · exact hu
  · cases hu
theorem rdi_from {w : World} {b off n c j : Nat} {l : List Int} (h : Rd w (.slice (some ⟨b, off, none⟩) n c) n (ints l)) (hj : j ≤ n) : Rd w (.slice (some ⟨b, off + j, none⟩) (n - j) (c - j)) (n - j) (ints (l.drop j)) := by
  obtain ⟨A, c', hv, h1, h2, h3⟩ := h
  injection hv with hA _ hcc
  subst hA; subst hcc
  refine ⟨_, _, rfl, by omega, by omega, fun hn => ?_⟩
  obtain ⟨b', off', e, hb, hcell⟩ := h3 (by omega)
  injection e with e
  injection e with e1 e2
  subst e1; subst e2
  refine ⟨b, off + j, rfl, hb, fun q u hu => ?_⟩
  have := hcell (j + q) u (by rw [ints, List.map_drop, List.getElem?_drop] at hu; exact hu)
  rw [Nat.add_assoc]; exact this

set_option maxRecDepth 100000 in
set_option maxHeartbeats 1000000 in
theorem cvDrop_c (v : Value) (q : List Int) (i j : Nat) (w : World) (hv : RdI w v q) (hj : j = i + 1) (hjn : j ≤ q.length) (hl : q.length ≤ 1000) :
    Calls Try.prog 90 #[v, .int .i64 i] w (OwnI (dropI q i) w) := by
  have hv0 := hv
  obtain ⟨A, c, rfl, hc, hm, hr⟩ := hv
  obtain ⟨b, off, rfl, hbl, _⟩ := hr (by omega)
  rw [maxLen_eq] at hm
  obtain ⟨i0, hi, hz0, hz1, hz2⟩ := info_parts Try.infoInt
  have HT := Lib.hid (rdi_cut (j := i) hv0 (by omega) rfl)
  have hti : (q.take i).length = i := by rw [List.length_take]; omega
  have HTI := Lib.hid hti
  have hdl : (ints (q.drop j)).length = q.length - j := by rw [ints_len, List.length_drop]
  have HDL : Hid ((ints (q.drop j)).length = (q.length - j) * 1) := Lib.hid (by rw [hdl, Nat.mul_one])
  have HJ := Lib.hid hj
  have s1 : IntKind.i64.wrap ((i : Int) + 1) = (j : Int) := by rw [IntKind.wrap_i64]; omega
  have HV0 := Lib.hid hv0
  have q0 : (0 : Int) ≤ (i : Int) := by omega
  have q1 : (i : Int) ≤ (c : Int) := by omega
  have q2 : (0 : Int) ≤ (j : Int) := by omega
  have q5 : (i : Int) < (j : Int) := by omega
  have q3 : (j : Int) ≤ (q.length : Int) := by omega
  have q4 : (j : Int) ≤ (c : Int) := by omega
  clear hr hti hdl hj hv0
  by_cases hcj : c = j
  · have hnj : q.length = j := by omega
    have hcz : c = q.length := by omega
    subst hcz
    have hjq : j = q.length := by omega
    subst hjq
    have HD : Hid (Rd w (.slice (some ⟨b, off, none⟩) 0 0) 0 (ints (q.drop q.length))) := Lib.hid ⟨_, _, rfl, by omega, by rw [maxLen_eq]; omega, fun h => absurd h (by omega)⟩
    have HDL0 : Hid ((ints (q.drop q.length)).length = 0 * 1) := Lib.hid (by rw [HDL.out]; omega)
    clear hcj hnj
    go_enter Try.func90, Try.ntmps90
    go_wp2_with fail
    go_region_held3 (fun W' => Below w.heap.size w W') (first | exact bel_grown ‹_› hgrowA (fun q e => (ho2.lt q e).1) | exact bel_then ‹_› hb1 | exact bel_dr (Below.refl _ _)) (first | (go_at_call 98; refine (l1Own_c _ (q.take i) _ (rd_below HT.out ‹_›) (by rw [HTI.out]; omega)).mono ?_; rintro e w' ⟨vo, rfl, hoo, hb1⟩; have ho2 : w'.ownsRow w.heap.size 3 1 vo i (ints (q.take i)) := (by have h := own_base (base' := w.heap.size) hoo (by first | exact Nat.le_refl _ | (simp; done)); rwa [HTI.out] at h)) | (refine step_app_rd _ rfl (.tmp 8) (.tmp 12) 25 rfl w.heap.size 3 i0 (.int .i64 0) 1 8 Try.underlying25 hi hz0 hz1 hz2 rfl (by decide) _ i (ints (q.take i)) rfl ho2 _ 0 (ints (q.drop q.length)) rfl (rd_below HD.out ‹Below w.heap.size w _›) HDL0.out (ints_one _) (by rw [maxLen_eq]; omega) (by omega) (Below.size ‹Below w.heap.size w _›) ?_; intro vA wA hownA hgrowA _))
    all_goals
      go_wp2
      go_ret
      refine ⟨_, rfl, ?_, ‹Below w.heap.size w _›⟩
      have e : dropI q i = q.take i ++ q.drop q.length := by unfold dropI; rw [HJ.out]
      have el : (q.take i ++ q.drop q.length).length = i + (q.length - q.length) := by rw [List.length_append, HTI.out, List.length_drop]
      rw [e, el, ints_append, show i + (q.length - q.length) = i + 0 by omega]
      exact hownA
  · have HD := Lib.hid (rdi_from (j := j) HV0.out hjn)
    go_enter Try.func90, Try.ntmps90
    go_wp2_with fail
    go_region_held3 (fun W' => Below w.heap.size w W') (first | exact bel_grown ‹_› hgrowA (fun q e => (ho2.lt q e).1) | exact bel_then ‹_› hb1 | exact bel_dr (Below.refl _ _)) (first | (go_at_call 98; refine (l1Own_c _ (q.take i) _ (rd_below HT.out ‹_›) (by rw [HTI.out]; omega)).mono ?_; rintro e w' ⟨vo, rfl, hoo, hb1⟩; have ho2 : w'.ownsRow w.heap.size 3 1 vo i (ints (q.take i)) := (by have h := own_base (base' := w.heap.size) hoo (by first | exact Nat.le_refl _ | (simp; done)); rwa [HTI.out] at h)) | (refine step_app_rd _ rfl (.tmp 8) (.tmp 12) 25 rfl w.heap.size 3 i0 (.int .i64 0) 1 8 Try.underlying25 hi hz0 hz1 hz2 rfl (by decide) _ i (ints (q.take i)) rfl ho2 _ (q.length - j) (ints (q.drop j)) rfl (rd_below HD.out ‹Below w.heap.size w _›) HDL.out (ints_one _) (by rw [maxLen_eq]; omega) (by omega) (Below.size ‹Below w.heap.size w _›) ?_; intro vA wA hownA hgrowA _))
    all_goals
      go_wp2
      go_ret
      refine ⟨_, rfl, ?_, ‹Below w.heap.size w _›⟩
      have e : dropI q i = q.take i ++ q.drop j := by unfold dropI; rw [HJ.out]
      have el : (q.take i ++ q.drop j).length = i + (q.length - j) := by rw [List.length_append, HTI.out, List.length_drop]
      rw [e, el, ints_append]
      exact hownA

set_option maxRecDepth 100000 in
set_option maxHeartbeats 1000000 in
theorem cvLost_c (m : Nat) (s v : Value) (l : List St) (q : List Int) (i j : Nat) (a : Int) (w : World) (hg : goodTown m l = true) (hq : ∀ x ∈ q, 0 ≤ x ∧ x ≤ (m : Int) - 1) (hi : i < q.length) (hj : j = i + 1) (hl6 : q.length ≤ 6) (hr : Rd w s l.length (l.flatMap St.cells)) (hv : RdI w v q) :
    Calls Try.prog 76 #[.agg #[.int .i64 m, s], v, .int .i64 i, .int .i64 a] w (OwnI (lostL m l q i a) w) := by
  have HR := Lib.hid hr
  have HV := Lib.hid hv
  obtain ⟨As, cs, rfl, _⟩ := hr
  have HG := Lib.hid hg
  have HQ := Lib.hid hq
  have HJ := Lib.hid hj
  have hjn : j ≤ q.length := by omega
  obtain ⟨i0, hi0, hz0, hz1, hz2⟩ := info_parts Try.infoInt
  obtain ⟨hm1, hm2, _, _⟩ := goodTown_true hg
  clear hv hg hq hj
  go_enter Try.func76, Try.ntmps76
  go_wp2_with fail
  generalize hw1 : World.alloc w _ = w1
  have k0 : w1.cell? ⟨w.heap.size, 0, none⟩ = some (.int .i64 m) := by subst hw1; simp [go_sem]
  have k1 : w1.cell? ⟨w.heap.size, 1, none⟩ = some (.slice As l.length cs) := by subst hw1; simp [go_sem]
  have hb1 : Below w.heap.size w w1 := by subst hw1; exact bel_al (Below.refl _ _) _
  have hz : w.heap.size < w1.heap.size := by subst hw1; simp
  clear hw1
  refine (cvSplit_c m _ _ l q a _ HG.out HQ.out (rd_below HR.out hb1) (rdi_below HV.out hb1)).mono ?_
  rintro e w2 ⟨v2, u2, rfl, ho2, _, hb2⟩
  have HO2 : Hid (w2.ownsRow w1.heap.size 3 1 v2 (covL m l q a).length (ints (covL m l q a))) := Lib.hid ho2
  have z0 := (hb2.cell (p := ⟨w.heap.size, 0, none⟩) hz).trans k0
  have z1 := (hb2.cell (p := ⟨w.heap.size, 1, none⟩) hz).trans k1
  have HB2 := Lib.hid (bel_then hb1 hb2)
  have hs12 := hb2.size
  have hz2' : w.heap.size < w2.heap.size := Nat.lt_of_lt_of_le hz hb2.size
  clear ho2 k0 k1 hb1 hb2 hz
  go_wp2_with fail
  go_region_held3 (fun w' => w'.cell? ⟨w.heap.size, 0, none⟩ = some (.int .i64 m) ∧ w'.cell? ⟨w.heap.size, 1, none⟩ = some (.slice As l.length cs)) (first | go_keep | (go_split_ands; refine ⟨?_, ?_⟩ <;> (rw [hb1.cell (by simp; omega)]; assumption)))
    (first | (go_at_call 90; refine (cvDrop_c _ q i j _ (rdi_below HV.out (bel_dr HB2.out)) HJ.out hjn (by omega)).mono ?_; rintro e w' ⟨x9, rfl, ho9, hb1⟩; have hbT := hb1; have sT : w2.heap.size ≤ w'.heap.size := hb1.size) | (go_at_call 71; refine (cvSplit_c m _ _ l (dropI q i) a _ HG.out (fun x hx => HQ.out x (dropI_mem hx)) (rd_below (rd_below HR.out (bel_dr HB2.out)) hbT) (rdi_own ho9)).mono ?_; rintro e w'' ⟨v3, u3, rfl, ho3, _, hb1⟩; have sE := hb1.size))
  have HO3 : Hid (w''.ownsRow w'.heap.size 3 1 v3 (covL m l (dropI q i) a).length (ints (covL m l (dropI q i) a))) := Lib.hid ho3
  have hb3 : Below w2.heap.size w2 w'' := bel_then (bel_then (bel_dr (Below.refl _ _)) hbT) hb1
  have HB3 := Lib.hid (bel_then HB2.out hb3)
  have HI3 := Lib.hid (own_below HO2.out hb3)
  have hsz3 : w1.heap.size ≤ w''.heap.size := by have := hb3.size; omega
  clear ho3 hb1 hbT ho9 hb3 z0 z1
  have hcl := covL_len m l q a
  obtain ⟨L, hL⟩ : ∃ L, covL m l q a = L := ⟨_, rfl⟩
  obtain ⟨O, hO⟩ : ∃ O, covL m l (dropI q i) a = O := ⟨_, rfl⟩
  rw [hL] at HI3 HO2 hcl
  rw [hO] at HO3
  have HLO : Hid (lostL m l q i a = L.filter (notIn O)) := Lib.hid (by unfold lostL; rw [hL, hO])
  have HR3 := Lib.hid (own_rd HI3.out)
  obtain ⟨A2, c2, hx2, hc2, hm2', hr2⟩ := own_rd HI3.out
  subst hx2
  rw [maxLen_eq] at hm2'
  have HRC := Lib.hid hr2
  clear hL hO hr2 HO2 HI3
  go_wp2_with fail
  go_loopw [13, 34] (fun v13 v34 wr => ∃ (k : Nat) (M : List Int), k ≤ L.length ∧ v34 = .int .i64 k ∧ M.length ≤ k ∧ Hid ((L.take k).filter (notIn O) = M) ∧ Hid (wr.ownsRow w''.heap.size 3 1 v13 M.length (ints M)) ∧ Hid (Below w''.heap.size w'' wr)) (fun _ v34 _ => L.length - (intOf v34).toNat)
  case atStart => exact ⟨0, [], Nat.zero_le _, rfl, by simp, Lib.hid rfl, Lib.hid (World.ownsRow_nil _ _ _ _), Lib.hid (Below.refl _ _)⟩
  case round =>
    obtain ⟨k, M, hk, rfl, hMk, HM, HOW, HBL⟩ := hrel
    obtain ⟨wA, rfl⟩ : ∃ wA : World, wA = wr := ⟨_, rfl⟩
    by_cases hlt : k < L.length
    · obtain ⟨b, off, rfl, hbl, hcell⟩ := HRC.out (by omega)
      obtain ⟨x, hx⟩ : ∃ x, L[k]? = some x := ⟨_, List.getElem?_eq_getElem hlt⟩
      have c0 := cell_at hcell HBL.out hbl (ints_get hx)
      have HX := Lib.hid hx
      clear hx hcell
      go_wp2_with fail
      refine (l1Has_c _ x O _ (rdi_below (rdi_own HO3.out) HBL.out)).mono ?_; rintro e w' ⟨rfl, rfl⟩
      by_cases hmem : x ∈ O
      · rw [decide_eq_true hmem]
        have HM' : Hid ((L.take (k + 1)).filter (notIn O) = M) := Lib.hid (by rw [take_succ_of HX.out, List.filter_append, HM.out]; simp [notIn, hmem])
        clear hmem
        go_wp2
        exact ⟨⟨k + 1, M, by omega, by go_num, by omega, HM', HOW, HBL⟩, by simp [intOf]; omega⟩
      · rw [decide_eq_false hmem]
        have HM' : Hid ((L.take (k + 1)).filter (notIn O) = M ++ [x]) := Lib.hid (by rw [take_succ_of HX.out, List.filter_append, HM.out]; simp [notIn, hmem])
        clear hmem
        go_wp2_with (at_builtin; refine wpList_app_rd _ rfl _ _ 25 rfl w''.heap.size 3 i0 (.int .i64 0) 1 8 Try.underlying25 hi0 hz0 hz1 hz2 rfl (by decide) _ _ _ rfl (HOW.out.alloc _) _ 1 [.int .i64 x] rfl (rd_new _ rfl (Nat.le_refl _) (by rw [maxLen_eq]; omega)) rfl (ints_one [x]) (by rw [maxLen_eq]; omega) (by omega) (by have := HBL.out.size; simp; omega) ?_; intro v' w7 hown' hgrow _)
        refine ⟨⟨k + 1, M ++ [x], by omega, by go_num, by rw [List.length_append]; simp; omega, HM', Lib.hid ?_, Lib.hid (bel_grown (bel_al HBL.out _) hgrow (fun q e => (HOW.out.lt q e).1))⟩, by simp [intOf]; omega⟩
        rw [ints_append, List.length_append]; exact hown'
    · obtain rfl : k = L.length := by omega
      have hM := HM.out
      rw [List.take_length] at hM
      have HM2 := Lib.hid hM
      clear hM
      go_wp2
      go_ret
      rw [HLO.out, HM2.out]
      refine ⟨_, rfl, ?_, bel_then HB3.out HBL.out⟩
      exact own_base HOW.out HB3.out.size
end Go.Proofs.Ytemcdgchleijbaa
