/-
  FirstAttendance: both sides.
-/
import Derived.Test.YtcpchdbhpcebeaaDsr
import Derived.Test.YtcpchdbhpcebeaaTimesI
import Derived.Deep.RegionLaw
namespace Go.Proofs.Ytcpchdbhpcebeaa
open Go.RowKit

def firstAttendanceV (n : Int) (l : List St) (f : List Ap) (x : Int) : ByteArray × Int × Bool :=
  if askD n l f x = true then
    match readyL (distT n.toNat (arcs l) x.toNat) f with
    | [] => (⟨#[]⟩, 0, false)
    | i :: _ => match f[i.toNat]? with
      | some a => (a.nm, (distT n.toNat (arcs l) x.toNat).getD a.nd.toNat 0, true)
      | none => (⟨#[]⟩, 0, false)
  else (⟨#[]⟩, 0, false)
theorem firstV_no {n : Int} {l : List St} {f : List Ap} {x : Int} (h : askD n l f x = false) : firstAttendanceV n l f x = (⟨#[]⟩, 0, false) := by
  unfold firstAttendanceV; rw [if_neg (by rw [h]; simp)]
theorem firstV_nil {n src : Nat} {l : List St} {f : List Ap} (h : askD n l f src = true) (hr : readyL (distT n (arcs l) src) f = []) : firstAttendanceV n l f src = (⟨#[]⟩, 0, false) := by
  unfold firstAttendanceV; rw [if_pos h, Int.toNat_natCast, Int.toNat_natCast, hr]
theorem firstV_yes {n src k : Nat} {l : List St} {f : List Ap} {r : List Int} {a : Ap} (h : askD n l f src = true) (hr : readyL (distT n (arcs l) src) f = (k : Int) :: r) (ha : f[k]? = some a) :
    firstAttendanceV n l f src = (a.nm, (distT n (arcs l) src).getD a.nd.toNat 0, true) := by
  unfold firstAttendanceV; rw [if_pos h, Int.toNat_natCast, Int.toNat_natCast, hr]; dsimp only; rw [Int.toNat_natCast, ha]
theorem allT_get {ev : List Int} {f : List Ap} {k : Nat} {a : Ap} (h : f[k]? = some a) : (allT ev f)[k]? = some (ev.getD a.nd.toNat 0) := by unfold allT; rw [List.getElem?_map, h]; rfl
theorem allT_len (ev : List Int) (f : List Ap) : (allT ev f).length = f.length := by simp [allT]

def FirstIs (n : Int) (l : List St) (f : List Ap) (x : Int) (w : World) (e : Ending) (w' : World) : Prop :=
  e = .returned (.tuple #[.string (firstAttendanceV n l f x).1, .int .i64 (firstAttendanceV n l f x).2.1, .bool (firstAttendanceV n l f x).2.2]) ∧ Below w.heap.size w w'

set_option maxRecDepth 100000 in
set_option maxHeartbeats 4000000 in
theorem firstAttendanceS_c (n : Int) (s : Value) (l : List St) (v : Value) (f : List Ap) (x : Int) (w : World) (hr : Rd w s l.length (l.flatMap St.cells)) (hz : ∀ x ∈ f, x.nm.size ≤ 9223372036854775807) (hf : Rd w v f.length (f.flatMap Ap.cells)) :
    Calls Try.prog 22 #[.agg #[.int .i64 n, s], v, .int .i64 x] w (FirstIs n l f x w) := by
  have HR := Lib.hid hr
  have HF := Lib.hid hf
  have HZ := Lib.hid hz
  obtain ⟨A, c, rfl, hc, hm, hcell0⟩ := hf
  rw [maxLen_eq] at hm
  have HCELL := Lib.hid hcell0
  clear hr hz hcell0
  go_enter Try.func22, Try.ntmps22
  go_wp2_with fail
  (generalize hw1 : World.alloc w _ = w1; have k0 : w1.cell? ⟨w.heap.size, 0, none⟩ = some (.int .i64 n) := (by subst hw1; simp [go_sem]); have k1 : w1.cell? ⟨w.heap.size, 1, none⟩ = some s := (by subst hw1; simp [go_sem]); have hb0 : Below w.heap.size w w1 := (by subst hw1; exact bel_al (Below.refl _ _) _); have hsz1 : w.heap.size < w1.heap.size := (by subst hw1; simp); clear hw1)
  have HB := Lib.hid hb0
  refine (dsAsked_c n s l _ f x _ (rd_below HR.out HB.out) HZ.out (rd_below HF.out HB.out)).mono ?_; rintro e w2 ⟨rfl, hb1⟩
  have e0 := (hb1.cell (p := ⟨w.heap.size, 0, none⟩) (by show w.heap.size < _; omega)).trans k0
  have e1 := (hb1.cell (p := ⟨w.heap.size, 1, none⟩) (by show w.heap.size < _; omega)).trans k1
  have HB1 := Lib.hid (bel_then HB.out hb1)
  clear k0 k1 hb0 hb1
  by_cases hg : askD n l f x = true
  · have HASK := Lib.hid hg
    rw [hg]
    obtain ⟨hds, hx0, hx1⟩ := askD_true hg
    obtain ⟨hgt, hgf, hnd⟩ := goodDs_true hds
    have hn1 := (goodTown_true hgt).1
    obtain ⟨N, rfl⟩ := Int.eq_ofNat_of_zero_le (show 0 ≤ n by omega)
    obtain ⟨src, rfl⟩ := Int.eq_ofNat_of_zero_le hx0
    have hs : src < N := by omega
    have HGT := Lib.hid hgt
    have HGF := Lib.hid hgf
    have HND := Lib.hid hnd
    clear hg hds hgt hgf hnd hx0 hx1
    go_wp2_with fail
    refine (dsReady_c N s l _ f src _ HGT.out HGF.out HND.out hs (rd_below HR.out HB1.out) (rd_below HF.out HB1.out)).mono ?_
    rintro e w3 ⟨v5, u5, rfl, hv5, hu5, hb2⟩
    have HB2 := Lib.hid (bel_then HB1.out hb2)
    clear e0 e1 hb2
    obtain ⟨A5, c5, rfl, hc5, hm5, hcell5⟩ := hv5
    rw [maxLen_eq] at hm5
    obtain ⟨L, hL⟩ : ∃ L, readyL (distT N (arcs l) src) f = L := ⟨_, rfl⟩
    rw [hL] at hc5 hcell5 ⊢
    rcases L with _ | ⟨i, r⟩
    · have HV := Lib.hid (firstV_nil HASK.out hL)
      clear hL hcell5 hu5
      go_wp2
      go_ret3
      unfold FirstIs
      rw [HV.out]
      exact ⟨rfl, HB2.out⟩
    · obtain ⟨k, a, rfl, ha, _, _⟩ := readyL_mem (show i ∈ readyL (distT N (arcs l) src) f by rw [hL]; simp)
      obtain ⟨nm, kd, nd, cr, sv⟩ := a
      have HV := Lib.hid (firstV_yes HASK.out hL ha)
      have hal := allT_get (ev := distT N (arcs l) src) ha
      dsimp only at hal
      have hk : k < f.length := (List.getElem?_eq_some_iff.1 ha).1
      obtain ⟨b5, off5, rfl, hb5, hcl5⟩ := hcell5 (by simp)
      have co := hcl5 0 (.int .i64 k) rfl
      rw [Nat.add_zero] at co
      obtain ⟨M, hM⟩ : ∃ M, ((k : Int) :: r).length = M := ⟨_, rfl⟩
      have hM0 : 0 < M := by rw [← hM]; simp
      rw [hM] at hc5 ⊢
      obtain ⟨b, off, rfl, hbl, hcell⟩ := HCELL.out (by omega)
      obtain ⟨d0, _, _, _, _⟩ := ap_at hcell HB2.out hbl ha
      dsimp only at d0
      obtain ⟨A6, c6, rfl, hc6, hm6, hcell6⟩ := hu5
      rw [maxLen_eq] at hm6
      rw [allT_len] at hc6 hcell6 ⊢
      obtain ⟨b6, off6, rfl, hb6, hcl6⟩ := hcell6 (by omega)
      have ct := hcl6 k _ (ints_get hal)
      obtain ⟨t, ht⟩ : ∃ t, (distT N (arcs l) src).getD nd.toNat 0 = t := ⟨_, rfl⟩
      rw [ht] at ct
      have HT := Lib.hid ht
      have hMi : (0 : Int) < (M : Int) := by omega
      have hki : (k : Int) < (f.length : Int) := by omega
      have hk0 : (0 : Int) ≤ (k : Int) := by omega
      have hMz : ¬ ((M : Int) = 0) := by omega
      clear hL ha hal hcl5 hM hcell hcl6 ht hcell5 hcell6
      go_wp2_with fail
      go_quiet (fail)
      go_wp2
      go_ret3
      unfold FirstIs
      rw [HV.out]
      dsimp only
      rw [HT.out]
      exact ⟨rfl, below_drewN HB2.out _⟩
  · have hg : askD n l f x = false := by simpa using hg
    have HV := Lib.hid (firstV_no hg)
    rw [hg]
    go_wp2
    go_ret3
    unfold FirstIs
    rw [HV.out]
    exact ⟨rfl, HB1.out⟩
set_option maxRecDepth 100000 in
set_option maxHeartbeats 4000000 in
theorem firstAttendanceI_c (n : Int) (s : Value) (l : List St) (v : Value) (f : List Ap) (x : Int) (w : World) (hr : Rd w s l.length (l.flatMap St.cells)) (hz : ∀ x ∈ f, x.nm.size ≤ 9223372036854775807) (hf : Rd w v f.length (f.flatMap Ap.cells)) :
    Calls Try.prog 23 #[.agg #[.int .i64 n, s], v, .int .i64 x] w (FirstIs n l f x w) := by
  have HR := Lib.hid hr
  have HF := Lib.hid hf
  have HZ := Lib.hid hz
  obtain ⟨A, c, rfl, hc, hm, hcell0⟩ := hf
  rw [maxLen_eq] at hm
  have HCELL := Lib.hid hcell0
  clear hr hz hcell0
  go_enter Try.func23, Try.ntmps23
  go_wp2_with fail
  (generalize hw1 : World.alloc w _ = w1; have k0 : w1.cell? ⟨w.heap.size, 0, none⟩ = some (.int .i64 n) := (by subst hw1; simp [go_sem]); have k1 : w1.cell? ⟨w.heap.size, 1, none⟩ = some s := (by subst hw1; simp [go_sem]); have hb0 : Below w.heap.size w w1 := (by subst hw1; exact bel_al (Below.refl _ _) _); have hsz1 : w.heap.size < w1.heap.size := (by subst hw1; simp); clear hw1)
  have HB := Lib.hid hb0
  refine (dispatchFits_c n s l _ f w.heap.size _ k0 k1 (rd_below HR.out HB.out) HZ.out (rd_below HF.out HB.out)).mono ?_; rintro e w2 ⟨rfl, hb1⟩
  have e0 := (hb1.cell (p := ⟨w.heap.size, 0, none⟩) (by show w.heap.size < _; omega)).trans k0
  have e1 := (hb1.cell (p := ⟨w.heap.size, 1, none⟩) (by show w.heap.size < _; omega)).trans k1
  have hs1 := hb1.size
  have HB1 := Lib.hid (bel_then HB.out hb1)
  clear k0 k1 hb0 hb1
  by_cases hg : goodDs n l f = true
  · have HDS := Lib.hid hg
    rw [hg]
    obtain ⟨hgt, hgf, hnd⟩ := goodDs_true hg
    obtain ⟨hn1, hn2, _⟩ := goodTown_true hgt
    have HGT := Lib.hid hgt
    have HGF := Lib.hid hgf
    have HND := Lib.hid hnd
    clear hg hgt hgf hnd
    go_wp2_with fail
    refine (has_c n x _ _ hn1 hn2 e0).mono ?_; rintro e w3 ⟨rfl, rfl⟩
    by_cases hx : inB x 0 (n - 1) = true
    · have HASK : Hid (askD n l f x = true) := Lib.hid (by unfold askD; rw [HDS.out, hx]; rfl)
      rw [hx]
      obtain ⟨hx0, hx1⟩ := inB_true hx
      obtain ⟨N, rfl⟩ := Int.eq_ofNat_of_zero_le (show 0 ≤ n by omega)
      obtain ⟨src, rfl⟩ := Int.eq_ofNat_of_zero_le hx0
      have hs : src < N := by omega
      have E0 := Lib.hid e0
      have E1 := Lib.hid e1
      clear hx hx0 hx1
      go_wp2_with fail
      refine (readyOrder_c N s l _ f src w.heap.size _ HGT.out HGF.out HND.out hs E0.out E1.out (rd_below HR.out HB1.out) (rd_below HF.out HB1.out)).mono ?_
      rintro e w3 ⟨v5, rfl, ho5, hb2⟩
      have e0 := (hb2.cell (p := ⟨w.heap.size, 0, none⟩) (by show w.heap.size < _; omega)).trans E0.out
      have e1 := (hb2.cell (p := ⟨w.heap.size, 1, none⟩) (by show w.heap.size < _; omega)).trans E1.out
      have hs2 := hb2.size
      have HB2 := Lib.hid (bel_then HB1.out hb2)
      clear hb2
      obtain ⟨A5, c5, rfl, hc5, hm5, hcell5⟩ := rdi_own ho5
      rw [maxLen_eq] at hm5
      clear ho5
      obtain ⟨L, hL⟩ : ∃ L, readyL (distT N (arcs l) src) f = L := ⟨_, rfl⟩
      rw [hL] at hc5 hcell5 ⊢
      rcases L with _ | ⟨i, r⟩
      · have HV := Lib.hid (firstV_nil HASK.out hL)
        clear hL hcell5 e0 e1
        go_wp2
        go_ret3
        unfold FirstIs
        rw [HV.out]
        exact ⟨rfl, HB2.out⟩
      · obtain ⟨k, a, rfl, ha, _, _⟩ := readyL_mem (show i ∈ readyL (distT N (arcs l) src) f by rw [hL]; simp)
        obtain ⟨nm, kd, nd, cr, sv⟩ := a
        have HV := Lib.hid (firstV_yes HASK.out hL ha)
        have hk : k < f.length := (List.getElem?_eq_some_iff.1 ha).1
        have hnn := HND.out _ (List.mem_of_getElem? ha)
        dsimp only at hnn
        obtain ⟨nd0, nd1⟩ := hnn
        obtain ⟨p, rfl⟩ := Int.eq_ofNat_of_zero_le nd0
        obtain ⟨b5, off5, rfl, hb5, hcl5⟩ := hcell5 (by simp)
        have co := hcl5 0 (.int .i64 k) rfl
        rw [Nat.add_zero] at co
        obtain ⟨M, hM⟩ : ∃ M, ((k : Int) :: r).length = M := ⟨_, rfl⟩
        have hM0 : 0 < M := by rw [← hM]; simp
        rw [hM] at hc5 ⊢
        obtain ⟨b, off, rfl, hbl, hcell⟩ := HCELL.out (by omega)
        obtain ⟨d0, d1, d2, d3, d4⟩ := ap_at hcell HB2.out hbl ha
        dsimp only at d0 d1 d2 d3 d4
        obtain ⟨t, ht⟩ : ∃ t, (distT N (arcs l) src).getD p 0 = t := ⟨_, rfl⟩
        have HT := Lib.hid ht
        have hv := HV.out
        dsimp only at hv
        rw [Int.toNat_natCast, ht] at hv
        have HV := Lib.hid hv
        clear hv ht
        have hMi : (0 : Int) < (M : Int) := by omega
        have hki : (k : Int) < (f.length : Int) := by omega
        have hk0 : (0 : Int) ≤ (k : Int) := by omega
        have hMz : ¬ ((M : Int) = 0) := by omega
        have HE0 := Lib.hid e0
        have HE1 := Lib.hid e1
        clear hL ha hcl5 hM hcell hcell5 e0 e1
        go_wp2_with fail
        (generalize hw1 : World.alloc w3 _ = w1; have k0 : w1.cell? ⟨w3.heap.size, 0, none⟩ = some (.string nm) := (by subst hw1; simp [go_sem]); have k1 : w1.cell? ⟨w3.heap.size, 1, none⟩ = some (.int .i64 kd) := (by subst hw1; simp [go_sem]); have k2 : w1.cell? ⟨w3.heap.size, 2, none⟩ = some (.int .i64 p) := (by subst hw1; simp [go_sem]); have k3 : w1.cell? ⟨w3.heap.size, 3, none⟩ = some (.int .i64 cr) := (by subst hw1; simp [go_sem]); have k4 : w1.cell? ⟨w3.heap.size, 4, none⟩ = some (.int .i64 sv) := (by subst hw1; simp [go_sem]); have hb0 : Below w3.heap.size w3 w1 := (by subst hw1; exact bel_al (Below.refl _ _) _); have hsz1 : w3.heap.size < w1.heap.size := (by subst hw1; simp); clear hw1)
        have y0 := (hb0.cell (p := ⟨w.heap.size, 0, none⟩) (by show w.heap.size < _; omega)).trans HE0.out
        have y1 := (hb0.cell (p := ⟨w.heap.size, 1, none⟩) (by show w.heap.size < _; omega)).trans HE1.out
        obtain ⟨W, rfl⟩ : ∃ W : World, W = w1 := ⟨_, rfl⟩
        have hwW : w.heap.size < W.heap.size := by omega
        have HBW := Lib.hid (bel_then HB2.out hb0)
        have x0 := ((bel_dr (Below.refl W.heap.size W)).cell (p := ⟨w.heap.size, 0, none⟩) hwW).trans y0
        have x1 := ((bel_dr (Below.refl W.heap.size W)).cell (p := ⟨w.heap.size, 1, none⟩) hwW).trans y1
        have X0 := Lib.hid x0
        have X1 := Lib.hid x1
        have hp0 : (0 : Int) ≤ (p : Int) := by omega
        have hpn : (p : Int) < (N : Int) := by omega
        clear x0 x1 y0 y1 HE0 HE1 co d0 d1 d2 d3 d4 k1 k3 k4
        go_region_with
          (first | (go_at_call 58; refine (timesI_c N s l w.heap.size src _ HGT.out hs X0.out X1.out (rd_below HR.out (bel_dr HBW.out))).mono ?_; rintro e w' ⟨v6, rfl, ho6, hb4⟩; rw [show (distT N (arcs l) src).length = N by unfold distT; rw [iterT_len, startT_len]] at ho6; obtain ⟨h, cap6, rfl, hbh, hhl, hcap6, hcm6⟩ := own_shape ho6 (by omega); have xt := own_cell ho6 (show p < N by omega); rw [HT.out] at xt; have HB6 := Lib.hid (bel_then (bel_dr HBW.out) hb4); have m0 := (hb4.cell (p := ⟨w3.heap.size, 0, none⟩) hsz1).trans k0; have m2 := (hb4.cell (p := ⟨w3.heap.size, 2, none⟩) hsz1).trans k2; clear ho6))
        all_goals
          go_wp2
          go_ret3
          unfold FirstIs
          rw [HV.out]
          exact ⟨rfl, HB6.out⟩
    · have hx : inB x 0 (n - 1) = false := by simpa using hx
      have HV := Lib.hid (firstV_no (l := l) (f := f) (x := x) (n := n) (by unfold askD; rw [hx]; simp))
      rw [hx]
      go_wp2
      go_ret3
      unfold FirstIs
      rw [HV.out]
      exact ⟨rfl, HB1.out⟩
  · have hg : goodDs n l f = false := by simpa using hg
    have HV := Lib.hid (firstV_no (x := x) (n := n) (l := l) (f := f) (by unfold askD; rw [hg]; rfl))
    rw [hg]
    go_wp2
    go_ret3
    unfold FirstIs
    rw [HV.out]
    exact ⟨rfl, HB1.out⟩
end Go.Proofs.Ytcpchdbhpcebeaa
