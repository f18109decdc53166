/-
  WithinTime: both sides (printed by gen_within.py).
-/
import Derived.Test.YtcpchdbhpcebeaaReady
import Derived.Test.YtcpchdbhpcebeaaServ
import Derived.Test.YtcpchdbhpcebeaaStrs
namespace Go.Proofs.Ytcpchdbhpcebeaa
open Go.RowKit

def OwnStB (r : List ByteArray × Bool) (w : World) (e : Ending) (w' : World) : Prop := ∃ x, e = .returned (.tuple #[x, .bool r.2]) ∧ w'.ownsRow w.heap.size 9 1 x r.1.length (strs r.1) ∧ Below w.heap.size w w'
def nmAt (f : List Ap) (i : Int) : ByteArray := match f[i.toNat]? with
  | some a => a.nm
  | none => ⟨#[]⟩
theorem nmAt_at {f : List Ap} {i : Nat} {a : Ap} (h : f[i]? = some a) : nmAt f (i : Int) = a.nm := by unfold nmAt; rw [Int.toNat_natCast, h]
def namesW (f : List Ap) (ev : List Int) (limit : Int) (L : List Int) : List ByteArray := (L.filter fun i => decide (rdyKey ev f i ≤ limit)).map (nmAt f)
theorem namesW_yes {f : List Ap} {ev : List Int} {limit : Int} {L : List Int} {k : Nat} {y : Int} (h : L[k]? = some y) (hy : rdyKey ev f y ≤ limit) : namesW f ev limit (L.take (k + 1)) = namesW f ev limit (L.take k) ++ [nmAt f y] := by
  unfold namesW; rw [take_succ_of h, List.filter_append, List.map_append]; simp [hy]
theorem namesW_no {f : List Ap} {ev : List Int} {limit : Int} {L : List Int} {k : Nat} {y : Int} (h : L[k]? = some y) (hy : limit < rdyKey ev f y) : namesW f ev limit (L.take (k + 1)) = namesW f ev limit (L.take k) := by
  unfold namesW; rw [take_succ_of h, List.filter_append, List.map_append]; simp [show ¬ rdyKey ev f y ≤ limit by omega]
theorem namesW_len (f : List Ap) (ev : List Int) (limit : Int) (L : List Int) : (namesW f ev limit L).length ≤ L.length := by
  unfold namesW; rw [List.length_map]; exact List.length_filter_le _ _
theorem strs_append (a b : List ByteArray) : strs (a ++ b) = strs a ++ strs b := by simp [strs]
def withinTimeV (n : Int) (l : List St) (f : List Ap) (x limit : Int) : List ByteArray × Bool :=
  if askD n l f x = true ∧ inB limit 0 36000 = true then (namesW f (distT n.toNat (arcs l) x.toNat) limit (readyL (distT n.toNat (arcs l) x.toNat) f), true) else ([], false)
theorem within_no1 {n : Int} {l : List St} {f : List Ap} {x limit : Int} (h : askD n l f x = false) : withinTimeV n l f x limit = ([], false) := by unfold withinTimeV; rw [if_neg (by rw [h]; simp)]
theorem within_no2 {n : Int} {l : List St} {f : List Ap} {x limit : Int} (h : inB limit 0 36000 = false) : withinTimeV n l f x limit = ([], false) := by unfold withinTimeV; rw [if_neg (by rw [h]; simp)]
theorem within_yes {n src : Nat} {l : List St} {f : List Ap} {limit : Int} (h : askD n l f src = true) (h2 : inB limit 0 36000 = true) : withinTimeV n l f src limit = (namesW f (distT n (arcs l) src) limit (readyL (distT n (arcs l) src) f), true) := by
  unfold withinTimeV; rw [if_pos ⟨h, h2⟩, Int.toNat_natCast, Int.toNat_natCast]
theorem withinTimeV_len (n : Int) (l : List St) (f : List Ap) (x limit : Int) : (withinTimeV n l f x limit).1.length ≤ 1000000 := by
  unfold withinTimeV
  split
  · dsimp only
    have h1 := namesW_len f (distT n.toNat (arcs l) x.toNat) limit (readyL (distT n.toNat (arcs l) x.toNat) f)
    have h2 := (readyTimes_mem (ev := distT n.toNat (arcs l) x.toNat) (goodDs_true (askD_true (by rename_i h; exact h.1)).1).2.1).2
    omega
  · simp

set_option maxRecDepth 100000 in
set_option maxHeartbeats 4000000 in
theorem withinTimeS_c (n : Int) (s : Value) (l : List St) (v : Value) (f : List Ap) (x limit : Int) (w : World) (hr : Rd w s l.length (l.flatMap St.cells)) (hz : ∀ x ∈ f, x.nm.size ≤ 9223372036854775807) (hf : Rd w v f.length (f.flatMap Ap.cells)) :
    Calls Try.prog 24 #[.agg #[.int .i64 n, s], v, .int .i64 x, .int .i64 limit] w (OwnStB (withinTimeV n l f x limit) w) := by
  have HR := Lib.hid hr
  have HF := Lib.hid hf
  have HZ := Lib.hid hz
  obtain ⟨i0', hi, hz0, hz1, hz2⟩ := info_parts Try.infoStr
  obtain ⟨A, c, rfl, hc, hm, hcell0⟩ := hf
  rw [maxLen_eq] at hm
  have HCELL := Lib.hid hcell0
  clear hr hz hcell0
  go_enter Try.func24, Try.ntmps24
  go_wp2_with fail
  (generalize hw1 : World.alloc w _ = w1; have k0 : w1.cell? ⟨w.heap.size, 0, none⟩ = some (.int .i64 n) := (by subst hw1; simp [go_sem]); have k1 : w1.cell? ⟨w.heap.size, 1, none⟩ = some s := (by subst hw1; simp [go_sem]); have hb0 : Below w.heap.size w w1 := (by subst hw1; exact bel_al (Below.refl _ _) _); have hsz1 : w.heap.size < w1.heap.size := (by subst hw1; simp); clear hw1)
  have HB := Lib.hid hb0
  refine (dsAsked_c n s l _ f x _ (rd_below HR.out HB.out) HZ.out (rd_below HF.out HB.out)).mono ?_; rintro e w2 ⟨rfl, hb1⟩
  have e0 := (hb1.cell (p := ⟨w.heap.size, 0, none⟩) (by show w.heap.size < _; omega)).trans k0
  have e1 := (hb1.cell (p := ⟨w.heap.size, 1, none⟩) (by show w.heap.size < _; omega)).trans k1
  have HB1 := Lib.hid (bel_then HB.out hb1)
  clear k0 k1 hb0 hb1
  by_cases hg : askD n l f x = true
  · have HASK := Lib.hid hg
    rw [hg]
    obtain ⟨hds, hx0, hx1⟩ := askD_true hg
    obtain ⟨hgt, hgf, hnd⟩ := goodDs_true hds
    have hn1 := (goodTown_true hgt).1
    have hf12 := (goodFl_true hgf).1
    obtain ⟨N, rfl⟩ := Int.eq_ofNat_of_zero_le (show 0 ≤ n by omega)
    obtain ⟨src, rfl⟩ := Int.eq_ofNat_of_zero_le hx0
    have hs : src < N := by omega
    have HGT := Lib.hid hgt
    have HGF := Lib.hid hgf
    have HND := Lib.hid hnd
    have HND2 : Hid (∀ a ∈ f, 0 ≤ a.nd ∧ a.nd ≤ ((distT N (arcs l) src).length : Int) - 1) := Lib.hid (by rw [dist_len]; exact hnd)
    clear hg hds hgt hgf hnd hx0 hx1
    go_wp2_with fail
    refine (dsLimit_c limit _).mono ?_; rintro e w9 ⟨rfl, rfl⟩
    by_cases hli : inB limit 0 36000 = true
    · have HV := Lib.hid (within_yes HASK.out hli)
      rw [hli]
      clear hli
      go_wp2_with fail
      clear e0 e1
      refine (dsReady_c N s l _ f src _ HGT.out HGF.out HND.out hs (rd_below HR.out HB1.out) (rd_below HF.out HB1.out)).mono ?_
      rintro e w3 ⟨v5, u5, rfl, hv5, hu5, hb2⟩
      have HB2 := Lib.hid (bel_then HB1.out hb2)
      obtain ⟨hm5, hl5⟩ := readyTimes_mem (ev := distT N (arcs l) src) HGF.out
      obtain ⟨ev, hev⟩ : ∃ ev, distT N (arcs l) src = ev := ⟨_, rfl⟩
      rw [hev] at hv5 hu5 hm5 hl5 HND2
      have HEV := Lib.hid hev
      obtain ⟨L, hL⟩ : ∃ L, readyL ev f = L := ⟨_, rfl⟩
      rw [hL] at hv5 hm5 hl5
      have HLL := Lib.hid hL
      have HLM := Lib.hid hm5
      obtain ⟨A5, c5, rfl, hc5, hm5', hcell5⟩ := hv5
      rw [maxLen_eq] at hm5'
      have HC5 := Lib.hid hcell5
      obtain ⟨A6, c6, rfl, hc6, hm6, hcell6⟩ := hu5
      rw [maxLen_eq] at hm6
      rw [allT_len] at hc6 hcell6 ⊢
      have HC6 := Lib.hid hcell6
      clear hm5 hb2 hcell5 hcell6 hev hL
      go_wp2_with fail
      go_loopw [12, 34] (fun vo vi wr => ∃ (k : Nat) (S : List ByteArray), k ≤ L.length ∧ S.length ≤ k ∧ vi = .int .i64 k ∧ Hid (namesW f ev limit (L.take k) = S) ∧ Hid (wr.ownsRow w3.heap.size 9 1 vo S.length (strs S)) ∧ Hid (Below w3.heap.size w3 wr)) (fun _ vi _ => L.length - (intOf vi).toNat)
      case atStart => exact ⟨0, [], Nat.zero_le _, Nat.le_refl _, rfl, Lib.hid rfl, Lib.hid (World.ownsRow_nil _ _ _ _), Lib.hid (Below.refl _ _)⟩
      case round =>
        obtain ⟨k, S, hk, hSk, rfl, HS, HOW, HBL⟩ := hrel
        obtain ⟨wA, rfl⟩ : ∃ wA : World, wA = wr := ⟨_, rfl⟩
        have hsA := HBL.out.size
        by_cases hlt : k < L.length
        · obtain ⟨b5, off5, rfl, hb5, hcl5⟩ := HC5.out (by omega)
          obtain ⟨y, hy⟩ : ∃ y, L[k]? = some y := ⟨_, List.getElem?_eq_getElem hlt⟩
          obtain ⟨i, a, rfl, ha⟩ := HLM.out y (List.mem_of_getElem? hy)
          have hnn := HND2.out _ (List.mem_of_getElem? ha)
          have hkey := rdyKey_at (ev := ev) ha
          have hnm := nmAt_at ha
          obtain ⟨nm, kd, nd, cr, sv⟩ := a
          dsimp only at hnn hkey hnm
          obtain ⟨nd0, nd1⟩ := hnn
          obtain ⟨p, rfl⟩ := Int.eq_ofNat_of_zero_le nd0
          have hif : i < f.length := (List.getElem?_eq_some_iff.1 ha).1
          obtain ⟨b, off, rfl, hbl, hcell⟩ := HCELL.out (by omega)
          obtain ⟨d0, _, d2, _, _⟩ := ap_at hcell (bel_then HB2.out HBL.out) hbl ha
          dsimp only at d0 d2
          obtain ⟨b6, off6, rfl, hb6, hcl6⟩ := HC6.out (by omega)
          obtain ⟨t, ht⟩ : ∃ t, ev.getD p 0 = t := ⟨_, rfl⟩
          rw [Int.toNat_natCast, ht] at hkey
          have htt := allT_get (ev := ev) ha
          dsimp only at htt
          rw [Int.toNat_natCast, ht] at htt
          have co := cell_at hcl5 HBL.out hb5 (ints_get hy)
          have ct := cell_at hcl6 HBL.out hb6 (ints_get htt)
          have i0 : (0 : Int) ≤ (i : Int) := by omega
          have i1 : (i : Int) < (f.length : Int) := by omega
          have p0 : (0 : Int) ≤ (p : Int) := by omega
          have p1 : (p : Int) < (ev.length : Int) := by omega
          by_cases htl : t ≤ limit
          · have HSN : Hid (namesW f ev limit (L.take (k + 1)) = S ++ [nm]) := Lib.hid (by rw [namesW_yes hy (by rw [hkey]; exact htl), HS.out, hnm])
            clear hcl5 hy ha hcell hcl6 ht htt nd1 hkey hnm
            go_wp2_with (at_builtin; refine wpList_app_rd _ rfl _ _ 26 rfl w3.heap.size 9 i0' (.string ⟨#[]⟩) 1 16 Try.underlying26 hi hz0 hz1 hz2 rfl (by decide) _ _ _ rfl (HOW.out.alloc _) _ 1 [.string nm] rfl (rd_new _ rfl (Nat.le_refl _) (by rw [maxLen_eq]; omega)) rfl (by intro u hu; simp at hu; rcases hu with rfl; rfl) (by rw [maxLen_eq]; omega) (by omega) (by simp; omega) ?_; intro v7 w7 hown7 hgrow7 _)
            refine ⟨⟨k + 1, S ++ [nm], by omega, by simp; omega, by go_num, HSN, Lib.hid ?_, Lib.hid (bel_grown (bel_al HBL.out _) hgrow7 (fun q e => (HOW.out.lt q e).1))⟩, by simp [intOf]; omega⟩
            rw [strs_append, List.length_append]; exact hown7
          · have htn : limit < t := by omega
            have HSN : Hid (namesW f ev limit (L.take (k + 1)) = S) := Lib.hid (by rw [namesW_no hy (by rw [hkey]; exact htn), HS.out])
            clear hcl5 hy ha hcell hcl6 ht htt nd1 hkey hnm htl
            go_wp2
            exact ⟨⟨k + 1, S, by omega, by omega, by go_num, HSN, HOW, HBL⟩, by simp [intOf]; omega⟩
        · obtain rfl : k = L.length := by omega
          have hs := HS.out
          rw [List.take_length] at hs
          have HSS := Lib.hid hs
          clear hs
          go_wp2
          go_ret2
          rw [HV.out, HEV.out, HLL.out, HSS.out]
          exact ⟨_, rfl, own_base HOW.out HB2.out.size, bel_then HB2.out HBL.out⟩
    · have hli : inB limit 0 36000 = false := by simpa using hli
      have HV := Lib.hid (within_no2 (n := N) (l := l) (f := f) (x := src) hli)
      rw [hli]
      go_wp2
      go_ret2
      rw [HV.out]
      exact ⟨_, rfl, World.ownsRow_nil _ _ _ _, HB1.out⟩
  · have hg : askD n l f x = false := by simpa using hg
    have HV := Lib.hid (within_no1 (limit := limit) hg)
    rw [hg]
    go_wp2
    go_ret2
    rw [HV.out]
    exact ⟨_, rfl, World.ownsRow_nil _ _ _ _, HB1.out⟩

set_option maxRecDepth 100000 in
set_option maxHeartbeats 4000000 in
theorem withinTimeI_c (n : Int) (s : Value) (l : List St) (v : Value) (f : List Ap) (x limit : Int) (w : World) (hr : Rd w s l.length (l.flatMap St.cells)) (hz : ∀ x ∈ f, x.nm.size ≤ 9223372036854775807) (hf : Rd w v f.length (f.flatMap Ap.cells)) :
    Calls Try.prog 25 #[.agg #[.int .i64 n, s], v, .int .i64 x, .int .i64 limit] w (OwnStB (withinTimeV n l f x limit) w) := by
  have HR := Lib.hid hr
  have HF := Lib.hid hf
  have HZ := Lib.hid hz
  obtain ⟨i0', hi, hz0, hz1, hz2⟩ := info_parts Try.infoStr
  obtain ⟨A, c, rfl, hc, hm, hcell0⟩ := hf
  rw [maxLen_eq] at hm
  have HCELL := Lib.hid hcell0
  clear hr hz hcell0
  go_enter Try.func25, Try.ntmps25
  go_wp2_with fail
  (generalize hw1 : World.alloc w _ = w1; have k0 : w1.cell? ⟨w.heap.size, 0, none⟩ = some (.int .i64 n) := (by subst hw1; simp [go_sem]); have k1 : w1.cell? ⟨w.heap.size, 1, none⟩ = some s := (by subst hw1; simp [go_sem]); have hb0 : Below w.heap.size w w1 := (by subst hw1; exact bel_al (Below.refl _ _) _); have hsz1 : w.heap.size < w1.heap.size := (by subst hw1; simp); clear hw1)
  have HB := Lib.hid hb0
  refine (dispatchFits_c n s l _ f w.heap.size _ k0 k1 (rd_below HR.out HB.out) HZ.out (rd_below HF.out HB.out)).mono ?_; rintro e w2 ⟨rfl, hb1⟩
  have e0 := (hb1.cell (p := ⟨w.heap.size, 0, none⟩) (by show w.heap.size < _; omega)).trans k0
  have e1 := (hb1.cell (p := ⟨w.heap.size, 1, none⟩) (by show w.heap.size < _; omega)).trans k1
  have hs1 := hb1.size
  have HB1 := Lib.hid (bel_then HB.out hb1)
  clear k0 k1 hb0 hb1
  by_cases hg : goodDs n l f = true
  · have HDS := Lib.hid hg
    rw [hg]
    obtain ⟨hgt, hgf, hnd⟩ := goodDs_true hg
    obtain ⟨hn1, hn2, _⟩ := goodTown_true hgt
    have hf12 := (goodFl_true hgf).1
    have HGT := Lib.hid hgt
    have HGF := Lib.hid hgf
    have HND := Lib.hid hnd
    clear hg hgt hgf hnd
    go_wp2_with fail
    refine (has_c n x _ _ hn1 hn2 e0).mono ?_; rintro e w3 ⟨rfl, rfl⟩
    by_cases hx : inB x 0 (n - 1) = true
    · have HASK : Hid (askD n l f x = true) := Lib.hid (by unfold askD; rw [HDS.out, hx]; rfl)
      rw [hx]
      obtain ⟨hx0, hx1⟩ := inB_true hx
      obtain ⟨N, rfl⟩ := Int.eq_ofNat_of_zero_le (show 0 ≤ n by omega)
      obtain ⟨src, rfl⟩ := Int.eq_ofNat_of_zero_le hx0
      have hs : src < N := by omega
      have E0 := Lib.hid e0
      have E1 := Lib.hid e1
      have HND2 : Hid (∀ a ∈ f, 0 ≤ a.nd ∧ a.nd ≤ ((distT N (arcs l) src).length : Int) - 1) := Lib.hid (by rw [dist_len]; exact HND.out)
      clear hx hx0 hx1
      go_wp2_with fail
      refine (inside_c limit 0 36000 _).mono ?_; rintro e w9 ⟨rfl, rfl⟩
      by_cases hli : inB limit 0 36000 = true
      · have HV := Lib.hid (within_yes HASK.out hli)
        rw [hli]
        clear hli
        go_wp2_with fail
        refine (timesI_c N s l w.heap.size src _ HGT.out hs E0.out E1.out (rd_below HR.out HB1.out)).mono ?_
        rintro e w3 ⟨v6, rfl, ho6, hb2⟩
        have f0 := (hb2.cell (p := ⟨w.heap.size, 0, none⟩) (by show w.heap.size < _; omega)).trans E0.out
        have f1 := (hb2.cell (p := ⟨w.heap.size, 1, none⟩) (by show w.heap.size < _; omega)).trans E1.out
        have HB2 := Lib.hid (bel_then HB1.out hb2)
        have HO6 := Lib.hid ho6
        have F0 := Lib.hid f0
        have F1 := Lib.hid f1
        clear hb2 ho6 f0 f1 e0 e1
        go_wp2_with fail
        refine (readyOrder_c N s l _ f src w.heap.size _ HGT.out HGF.out HND.out hs F0.out F1.out (rd_below HR.out HB2.out) (rd_below HF.out HB2.out)).mono ?_
        rintro e w4 ⟨v5, rfl, ho5, hb3⟩
        have HB3 := Lib.hid (bel_then HB2.out hb3)
        have hu5 := rdi_own (own_below HO6.out hb3)
        have hv5 := rdi_own ho5
        obtain ⟨hm5, hl5⟩ := readyTimes_mem (ev := distT N (arcs l) src) HGF.out
        obtain ⟨ev, hev⟩ : ∃ ev, distT N (arcs l) src = ev := ⟨_, rfl⟩
        rw [hev] at hv5 hu5 hm5 hl5 HND2
        have HEV := Lib.hid hev
        obtain ⟨L, hL⟩ : ∃ L, readyL ev f = L := ⟨_, rfl⟩
        rw [hL] at hv5 hm5 hl5
        have HLL := Lib.hid hL
        have HLM := Lib.hid hm5
        obtain ⟨A5, c5, rfl, hc5, hm5', hcell5⟩ := hv5
        rw [maxLen_eq] at hm5'
        have HC5 := Lib.hid hcell5
        obtain ⟨A6, c6, rfl, hc6, hm6, hcell6⟩ := hu5
        rw [maxLen_eq] at hm6
        have HC6 := Lib.hid hcell6
        clear hm5 hb3 hcell5 hcell6 hev hL ho5
        go_wp2_with fail
        go_loopw [11, 33] (fun vo vi wr => ∃ (k : Nat) (S : List ByteArray), k ≤ L.length ∧ S.length ≤ k ∧ vi = .int .i64 k ∧ Hid (namesW f ev limit (L.take k) = S) ∧ Hid (wr.ownsRow w4.heap.size 9 1 vo S.length (strs S)) ∧ Hid (Below w4.heap.size w4 wr)) (fun _ vi _ => L.length - (intOf vi).toNat)
        case atStart => exact ⟨0, [], Nat.zero_le _, Nat.le_refl _, rfl, Lib.hid rfl, Lib.hid (World.ownsRow_nil _ _ _ _), Lib.hid (Below.refl _ _)⟩
        case round =>
          obtain ⟨k, S, hk, hSk, rfl, HS, HOW, HBL⟩ := hrel
          obtain ⟨wA, rfl⟩ : ∃ wA : World, wA = wr := ⟨_, rfl⟩
          have hsA := HBL.out.size
          by_cases hlt : k < L.length
          · obtain ⟨b5, off5, rfl, hb5, hcl5⟩ := HC5.out (by omega)
            obtain ⟨y, hy⟩ : ∃ y, L[k]? = some y := ⟨_, List.getElem?_eq_getElem hlt⟩
            obtain ⟨i, a, rfl, ha⟩ := HLM.out y (List.mem_of_getElem? hy)
            have hnn := HND2.out _ (List.mem_of_getElem? ha)
            have hkey := rdyKey_at (ev := ev) ha
            have hnm := nmAt_at ha
            obtain ⟨nm, kd, nd, cr, sv⟩ := a
            dsimp only at hnn hkey hnm
            obtain ⟨nd0, nd1⟩ := hnn
            obtain ⟨p, rfl⟩ := Int.eq_ofNat_of_zero_le nd0
            have hif : i < f.length := (List.getElem?_eq_some_iff.1 ha).1
            obtain ⟨b, off, rfl, hbl, hcell⟩ := HCELL.out (by omega)
            obtain ⟨d0, _, d2, _, _⟩ := ap_at hcell (bel_then HB3.out HBL.out) hbl ha
            dsimp only at d0 d2
            obtain ⟨b6, off6, rfl, hb6, hcl6⟩ := HC6.out (by omega)
            obtain ⟨t, ht⟩ : ∃ t, ev.getD p 0 = t := ⟨_, rfl⟩
            rw [Int.toNat_natCast, ht] at hkey
            have htt : ev[p]? = some t := by rw [← ht, List.getD_eq_getElem?_getD, List.getElem?_eq_getElem (show p < ev.length by omega)]; rfl
            have co := cell_at hcl5 HBL.out hb5 (ints_get hy)
            have ct := cell_at hcl6 HBL.out hb6 (ints_get htt)
            have i0 : (0 : Int) ≤ (i : Int) := by omega
            have i1 : (i : Int) < (f.length : Int) := by omega
            have p0 : (0 : Int) ≤ (p : Int) := by omega
            have p1 : (p : Int) < (ev.length : Int) := by omega
            by_cases htl : t ≤ limit
            · have HSN : Hid (namesW f ev limit (L.take (k + 1)) = S ++ [nm]) := Lib.hid (by rw [namesW_yes hy (by rw [hkey]; exact htl), HS.out, hnm])
              clear hcl5 hy ha hcell hcl6 ht htt nd1 hkey hnm
              go_wp2_with (at_builtin; refine wpList_app_rd _ rfl _ _ 26 rfl w4.heap.size 9 i0' (.string ⟨#[]⟩) 1 16 Try.underlying26 hi hz0 hz1 hz2 rfl (by decide) _ _ _ rfl (HOW.out.alloc _) _ 1 [.string nm] rfl (rd_new _ rfl (Nat.le_refl _) (by rw [maxLen_eq]; omega)) rfl (by intro u hu; simp at hu; rcases hu with rfl; rfl) (by rw [maxLen_eq]; omega) (by omega) (by simp; omega) ?_; intro v7 w7 hown7 hgrow7 _)
              refine ⟨⟨k + 1, S ++ [nm], by omega, by simp; omega, by go_num, HSN, Lib.hid ?_, Lib.hid (bel_grown (bel_al HBL.out _) hgrow7 (fun q e => (HOW.out.lt q e).1))⟩, by simp [intOf]; omega⟩
              rw [strs_append, List.length_append]; exact hown7
            · have htn : limit < t := by omega
              have HSN : Hid (namesW f ev limit (L.take (k + 1)) = S) := Lib.hid (by rw [namesW_no hy (by rw [hkey]; exact htn), HS.out])
              clear hcl5 hy ha hcell hcl6 ht htt nd1 hkey hnm htl
              go_wp2
              exact ⟨⟨k + 1, S, by omega, by omega, by go_num, HSN, HOW, HBL⟩, by simp [intOf]; omega⟩
          · obtain rfl : k = L.length := by omega
            have hs := HS.out
            rw [List.take_length] at hs
            have HSS := Lib.hid hs
            clear hs
            go_wp2
            go_ret2
            rw [HV.out, HEV.out, HLL.out, HSS.out]
            exact ⟨_, rfl, own_base HOW.out HB3.out.size, bel_then HB3.out HBL.out⟩
      · have hli : inB limit 0 36000 = false := by simpa using hli
        have HV := Lib.hid (within_no2 (n := N) (l := l) (f := f) (x := src) hli)
        rw [hli]
        go_wp2
        go_ret2
        rw [HV.out]
        exact ⟨_, rfl, World.ownsRow_nil _ _ _ _, HB1.out⟩
    · have hx : inB x 0 (n - 1) = false := by simpa using hx
      have HV := Lib.hid (within_no1 (l := l) (f := f) (x := x) (n := n) (limit := limit) (by unfold askD; rw [hx]; simp))
      rw [hx]
      go_wp2
      go_ret2
      rw [HV.out]
      exact ⟨_, rfl, World.ownsRow_nil _ _ _ _, HB1.out⟩
  · have hg : goodDs n l f = false := by simpa using hg
    have HV := Lib.hid (within_no1 (x := x) (n := n) (l := l) (f := f) (limit := limit) (by unfold askD; rw [hg]; rfl))
    rw [hg]
    go_wp2
    go_ret2
    rw [HV.out]
    exact ⟨_, rfl, World.ownsRow_nil _ _ _ _, HB1.out⟩
end Go.Proofs.Ytcpchdbhpcebeaa
