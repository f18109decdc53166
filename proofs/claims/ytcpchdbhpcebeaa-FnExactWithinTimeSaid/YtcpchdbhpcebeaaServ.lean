/-
  ServedNodes: the plain law and the reference's side.
-/
import Derived.Test.YtcpchdbhpcebeaaChoices
import Derived.Test.YtcpchdbhpcebeaaTimesI
namespace Go.Proofs.Ytcpchdbhpcebeaa
open Go.RowKit

def servP (l : List St) (f : List Ap) (need : List Int) (limit : Int) (N node : Nat) : Bool :=
  (pickL f (readyL (distT N (arcs l) node) f) need).2.all (fun x => inB x 0 0) && (pickL f (readyL (distT N (arcs l) node) f) need).1.all (fun i => decide (rdyKey (distT N (arcs l) node) f i ≤ limit))
def servedNodesV (n : Int) (l : List St) (f : List Ap) (need : List Int) (limit : Int) : List Int × Bool :=
  if goodDs n l f = true ∧ needB need = true ∧ inB limit 0 36000 = true then (selD (servP l f need limit n.toNat) n.toNat, true) else ([], false)
theorem serv_no1 {n : Int} {l : List St} {f : List Ap} {need : List Int} {limit : Int} (h : goodDs n l f = false) : servedNodesV n l f need limit = ([], false) := by unfold servedNodesV; rw [if_neg (by rw [h]; simp)]
theorem serv_no2 {n : Int} {l : List St} {f : List Ap} {need : List Int} {limit : Int} (h : needB need = false) : servedNodesV n l f need limit = ([], false) := by unfold servedNodesV; rw [if_neg (by rw [h]; simp)]
theorem serv_no3 {n : Int} {l : List St} {f : List Ap} {need : List Int} {limit : Int} (h : inB limit 0 36000 = false) : servedNodesV n l f need limit = ([], false) := by unfold servedNodesV; rw [if_neg (by rw [h]; simp)]
theorem serv_yes {n : Nat} {l : List St} {f : List Ap} {need : List Int} {limit : Int} (h : goodDs n l f = true) (h2 : needB need = true) (h3 : inB limit 0 36000 = true) : servedNodesV n l f need limit = (selD (servP l f need limit n) n, true) := by
  unfold servedNodesV; rw [if_pos ⟨h, h2, h3⟩, Int.toNat_natCast]
theorem servedNodesV_len (n : Int) (l : List St) (f : List Ap) (need : List Int) (limit : Int) : (servedNodesV n l f need limit).1.length ≤ 1000000 := by
  unfold servedNodesV
  split
  · dsimp only
    rename_i h
    have h1 := (goodTown_true (goodDs_true h.1).1).2.1
    exact Nat.le_trans (selD_len _ _) (by omega)
  · simp
set_option maxHeartbeats 400000 in
theorem dsLimit_c (x : Int) (w : World) : Calls Try.prog 64 #[.int .i64 x] w fun e w' => e = .returned (.bool (inB x 0 36000)) ∧ w = w' := by
  go_enter Try.func64, Try.ntmps64
  go_wp2_with (go_at_call 99; refine (l1In_c _ _ _ _).mono ?_; rintro e w' ⟨rfl, rfl⟩)
  go_ret
  exact ⟨rfl, rfl⟩
theorem all_take_sv {p : Int → Bool} {a0 b : Bool} {l : List Int} {j : Nat} {y : Int} (hy : l[j]? = some y) (h : (a0 && (l.take j).all p) = b) : (a0 && (l.take (j + 1)).all p) = (b && p y) := by
  rw [take_succ_of hy, List.all_append, ← h]; simp [Bool.and_assoc]

set_option maxRecDepth 100000 in
set_option maxHeartbeats 4000000 in
theorem servedNodesS_c (n : Int) (s : Value) (l : List St) (v : Value) (f : List Ap) (vn : Value) (need : List Int) (limit : Int) (w : World) (hr : Rd w s l.length (l.flatMap St.cells)) (hz : ∀ x ∈ f, x.nm.size ≤ 9223372036854775807) (hf : Rd w v f.length (f.flatMap Ap.cells)) (hvn : RdI w vn need) :
    Calls Try.prog 41 #[.agg #[.int .i64 n, s], v, vn, .int .i64 limit] w (OwnIB (servedNodesV n l f need limit) w) := by
  have HR := Lib.hid hr
  have HF := Lib.hid hf
  have HZ := Lib.hid hz
  have HN := Lib.hid hvn
  obtain ⟨i0', hi, hz0, hz1, hz2⟩ := info_parts Try.infoInt
  clear hr hz hf hvn
  go_enter Try.func41, Try.ntmps41
  go_wp2_with fail
  (generalize hw1 : World.alloc w _ = w1; have k0 : w1.cell? ⟨w.heap.size, 0, none⟩ = some (.int .i64 n) := (by subst hw1; simp [go_sem]); have k1 : w1.cell? ⟨w.heap.size, 1, none⟩ = some s := (by subst hw1; simp [go_sem]); have hb0 : Below w.heap.size w w1 := (by subst hw1; exact bel_al (Below.refl _ _) _); have hsz1 : w.heap.size < w1.heap.size := (by subst hw1; simp); clear hw1)
  have HB := Lib.hid hb0
  refine (dsGood_c n s l _ f _ (rd_below HR.out HB.out) HZ.out (rd_below HF.out HB.out)).mono ?_; rintro e w2 ⟨rfl, hb1⟩
  have e0 := (hb1.cell (p := ⟨w.heap.size, 0, none⟩) (by show w.heap.size < _; omega)).trans k0
  have e1 := (hb1.cell (p := ⟨w.heap.size, 1, none⟩) (by show w.heap.size < _; omega)).trans k1
  have hs1 := hb1.size
  have HB1 := Lib.hid (bel_then HB.out hb1)
  clear k0 k1 hb0 hb1
  by_cases hg : goodDs n l f = true
  · have HDS := Lib.hid hg
    rw [hg]
    obtain ⟨hgt, hgf, hnd⟩ := goodDs_true hg
    obtain ⟨hn1, hn2, _⟩ := goodTown_true hgt
    obtain ⟨N, rfl⟩ := Int.eq_ofNat_of_zero_le (show 0 ≤ n by omega)
    have HGT := Lib.hid hgt
    have HGF := Lib.hid hgf
    have HND := Lib.hid hnd
    clear hg hgt hgf hnd
    go_wp2_with fail
    refine (tbNeed_c _ need _ (rd_below HN.out HB1.out)).mono ?_; rintro e w3 ⟨rfl, rfl⟩
    by_cases hne : needB need = true
    · have HNE := Lib.hid hne
      rw [hne]
      clear hne
      go_wp2_with fail
      refine (dsLimit_c limit _).mono ?_; rintro e w3 ⟨rfl, rfl⟩
      by_cases hli : inB limit 0 36000 = true
      · have HV := Lib.hid (serv_yes HDS.out HNE.out hli)
        have E0 := Lib.hid e0
        have E1 := Lib.hid e1
        rw [hli]
        clear hli e0 e1
        go_wp2_with fail
        go_loopw [10, 11] (fun vo vi wr => ∃ (k : Nat) (S : List Int), k ≤ N ∧ S.length ≤ k ∧ vi = .int .i64 k ∧ Hid (selD (servP l f need limit N) k = S) ∧ Hid (wr.ownsRow w2.heap.size 3 1 vo S.length (ints S)) ∧ Hid (Below w2.heap.size w2 wr)) (fun _ vi _ => N - (intOf vi).toNat)
        case atStart => exact ⟨0, [], Nat.zero_le _, Nat.le_refl _, rfl, Lib.hid rfl, Lib.hid (World.ownsRow_nil _ _ _ _), Lib.hid (Below.refl _ _)⟩
        case round =>
          obtain ⟨k, S, hk, hSk, rfl, HS, HOW, HBL⟩ := hrel
          obtain ⟨wA, rfl⟩ : ∃ wA : World, wA = wr := ⟨_, rfl⟩
          have hsA := HBL.out.size
          have t0 := (HBL.out.cell (p := ⟨w.heap.size, 0, none⟩) (by show w.heap.size < _; omega)).trans E0.out
          have t1 := (HBL.out.cell (p := ⟨w.heap.size, 1, none⟩) (by show w.heap.size < _; omega)).trans E1.out
          by_cases hlt : k < N
          · go_wp2_with fail
            refine (dsPick_c N s l _ f k _ need _ HGT.out HGF.out HND.out hlt HNE.out (rd_below HR.out (bel_then HB1.out HBL.out)) (rd_below HF.out (bel_then HB1.out HBL.out)) (rd_below HN.out (bel_then HB1.out HBL.out))).mono ?_
            rintro e w5 ⟨xx, yy, zz, rfl, hx, hy, hzz, hb5⟩
            have HB5 := Lib.hid (bel_then HBL.out hb5)
            have HOW5 := Lib.hid (own_below HOW.out hb5)
            obtain ⟨ev, hev⟩ : ∃ ev, distT N (arcs l) k = ev := ⟨_, rfl⟩
            have hsp : servP l f need limit N k = ((pickL f (readyL ev f) need).2.all (fun x => inB x 0 0) && (pickL f (readyL ev f) need).1.all (fun i => decide (rdyKey ev f i ≤ limit))) := by unfold servP; rw [hev]
            have hpm := pick_mem f (fun y => ∃ (i : Nat) (a : Ap), y = (i : Int) ∧ f[i]? = some a) (readyL ev f) need (fun y hy => by
              obtain ⟨i, a, h1, h2, _⟩ := readyL_mem hy
              exact ⟨i, a, h1, h2⟩)
            rw [hev] at hx hy hzz
            obtain ⟨M, hM⟩ : ∃ M, (pickL f (readyL ev f) need).1 = M := ⟨_, rfl⟩
            obtain ⟨dd, hdd⟩ : ∃ dd, (pickL f (readyL ev f) need).2 = dd := ⟨_, rfl⟩
            rw [hM] at hx hsp hpm
            rw [hdd] at hy hsp
            obtain ⟨a0, ha0⟩ : ∃ a0, dd.all (fun x => inB x 0 0) = a0 := ⟨_, rfl⟩
            rw [ha0] at hsp
            have HSP := Lib.hid hsp
            have HA0 := Lib.hid ha0
            have HPM := Lib.hid hpm.1
            have HY := Lib.hid hy
            obtain ⟨AM, cM, rfl, hcM, hmM, hcellM⟩ := hx
            rw [maxLen_eq] at hmM
            have HCM := Lib.hid hcellM
            obtain ⟨AZ, cZ, rfl, hcZ, hmZ, hcellZ⟩ := hzz
            rw [maxLen_eq] at hmZ
            rw [allT_len] at hcZ hcellZ ⊢
            have HCZ := Lib.hid hcellZ
            have hs5 := HB5.out.size
            clear hb5 hev hsp hpm hM hdd ha0 hy hcellM hcellZ t0 t1
            go_wp2_with fail
            refine (all2_c _ dd _ _ _ (rdi_own HY.out)).mono ?_; rw [HA0.out]; rintro e w6 ⟨rfl, rfl⟩
            go_wp2_with fail
            go_loopw [15, 51] (fun v15 v51 wr2 => ∃ (j : Nat) (bb : Bool), j ≤ M.length ∧ v51 = .int .i64 j ∧ v15 = .bool bb ∧ Hid ((a0 && (M.take j).all (fun i => decide (rdyKey ev f i ≤ limit))) = bb) ∧ wr2 = w5) (fun _ v51 _ => M.length - (intOf v51).toNat)
            case atStart => exact ⟨0, a0, Nat.zero_le _, rfl, rfl, Lib.hid (by simp), rfl⟩
            case round =>
              obtain ⟨j, bb, hj, rfl, rfl, HBB, rfl⟩ := hrel
              by_cases hjl : j < M.length
              · obtain ⟨b5, off5, rfl, hb5, hcl5⟩ := HCM.out (by omega)
                obtain ⟨y, hy⟩ : ∃ y, M[j]? = some y := ⟨_, List.getElem?_eq_getElem hjl⟩
                obtain ⟨i, a, rfl, ha⟩ := HPM.out y (List.mem_of_getElem? hy)
                have hif : i < f.length := (List.getElem?_eq_some_iff.1 ha).1
                obtain ⟨b6, off6, rfl, hb6, hcl6⟩ := HCZ.out (by omega)
                have co := hcl5 j _ (ints_get hy)
                have ct := hcl6 i _ (ints_get (allT_get (ev := ev) ha))
                rw [← rdyKey_at (ev := ev) ha] at ct
                obtain ⟨t, ht⟩ : ∃ t, rdyKey ev f (i : Int) = t := ⟨_, rfl⟩
                rw [ht] at ct
                have HNX := Lib.hid (all_take_sv hy HBB.out)
                have HTT := Lib.hid ht
                have i0 : (0 : Int) ≤ (i : Int) := by omega
                have i1 : (i : Int) < (f.length : Int) := by omega
                clear hcl5 hcl6 hy ha ht
                cases bb with
                | true =>
                  by_cases htl : t ≤ limit
                  · go_wp2
                    exact ⟨⟨j + 1, true, by omega, by go_num, (by first | rfl | (simp; omega)), Lib.hid (by rw [HNX.out, HTT.out, decide_eq_true htl]; rfl), (by first | rfl | trivial)⟩, by simp [intOf]; omega⟩
                  · have htn : limit < t := by omega
                    have HF2 : Hid (decide (t ≤ limit) = false) := Lib.hid (decide_eq_false htl)
                    clear htl
                    go_wp2
                    exact ⟨⟨j + 1, false, by omega, by go_num, (by first | rfl | (simp; omega)), Lib.hid (by rw [HNX.out, HTT.out, HF2.out]; rfl), (by first | rfl | trivial)⟩, by simp [intOf]; omega⟩
                | false =>
                  go_wp2
                  exact ⟨⟨j + 1, false, by omega, by go_num, (by first | rfl | simp), Lib.hid (by rw [HNX.out]; rfl), (by first | rfl | trivial)⟩, by simp [intOf]; omega⟩
              · obtain rfl : j = M.length := by omega
                have hbb := HBB.out
                rw [List.take_length] at hbb
                have hfin : servP l f need limit N k = bb := by rw [HSP.out]; exact hbb
                cases bb with
                | true =>
                  have HYES := Lib.hid (selD_yes (k := k) hfin)
                  clear hbb hfin
                  go_wp2_with (at_builtin; refine wpList_app_rd _ rfl _ _ 56 rfl w2.heap.size 3 i0' (.int .i64 0) 1 8 Try.underlying56 hi hz0 hz1 hz2 rfl (by decide) _ _ _ rfl (HOW5.out.alloc _) _ 1 [.int .i64 k] rfl (rd_new _ rfl (Nat.le_refl _) (by rw [maxLen_eq]; omega)) rfl (ints_one [(k : Int)]) (by rw [maxLen_eq]; omega) (by omega) (by have := HB5.out.size; simp; omega) ?_; intro v7 w7 hown7 hgrow7 _)
                  refine ⟨⟨k + 1, S ++ [(k : Int)], by omega, by simp; omega, by go_num, Lib.hid (by rw [HYES.out, HS.out]), Lib.hid ?_, Lib.hid (bel_grown (bel_al HB5.out _) hgrow7 (fun q e => (HOW.out.lt q e).1))⟩, by simp [intOf]; omega⟩
                  rw [ints_append, List.length_append]; exact hown7
                | false =>
                  have HNO := Lib.hid (selD_no (k := k) hfin)
                  clear hbb hfin
                  go_wp2
                  exact ⟨⟨k + 1, S, by omega, by omega, by go_num, Lib.hid (by rw [HNO.out, HS.out]), HOW5, HB5⟩, by simp [intOf]; omega⟩
          · obtain rfl : k = N := by omega
            go_wp2
            go_ret2
            rw [HV.out, HS.out]
            exact ⟨_, rfl, own_base HOW.out HB1.out.size, bel_then HB1.out HBL.out⟩
      · have hli : inB limit 0 36000 = false := by simpa using hli
        have HV := Lib.hid (serv_no3 (n := N) (l := l) (f := f) (need := need) hli)
        rw [hli]
        go_wp2
        go_ret2
        rw [HV.out]
        exact ⟨_, rfl, World.ownsRow_nil _ _ _ _, HB1.out⟩
    · have hne : needB need = false := by simpa using hne
      have HV := Lib.hid (serv_no2 (n := N) (l := l) (f := f) (limit := limit) hne)
      rw [hne]
      go_wp2
      go_ret2
      rw [HV.out]
      exact ⟨_, rfl, World.ownsRow_nil _ _ _ _, HB1.out⟩
  · have hg : goodDs n l f = false := by simpa using hg
    have HV := Lib.hid (serv_no1 (need := need) (limit := limit) hg)
    rw [hg]
    go_wp2
    go_ret2
    rw [HV.out]
    exact ⟨_, rfl, World.ownsRow_nil _ _ _ _, HB1.out⟩
end Go.Proofs.Ytcpchdbhpcebeaa
