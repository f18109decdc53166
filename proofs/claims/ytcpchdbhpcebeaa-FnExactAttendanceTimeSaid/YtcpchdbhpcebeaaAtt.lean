/-
  AttendanceTime: the plain law and the reference's side.
-/
import Derived.Test.YtcpchdbhpcebeaaNames
import Derived.Test.YtcpchdbhpcebeaaFind
import Derived.Test.YtcpchdbhpcebeaaFirst
import Derived.Test.YtcpchdbhpcebeaaMost
namespace Go.Proofs.Ytcpchdbhpcebeaa
open Go.RowKit

theorem maxI_max (a b : Int) : maxI a b = max a b := by unfold maxI; split <;> omega
def attOk (f : List Ap) (ev : List Int) (nm : ByteArray) : Bool := decide (0 ≤ findA nm f) && decide (0 ≤ rdyKey ev f (findA nm f))
def attMax (f : List Ap) (ev : List Int) (q : List ByteArray) : Int := q.foldl (fun m nm => max m (rdyKey ev f (findA nm f))) 0
theorem attMax_snoc {f : List Ap} {ev : List Int} {q : List ByteArray} {k : Nat} {nm : ByteArray} (h : q[k]? = some nm) : attMax f ev (q.take (k + 1)) = max (attMax f ev (q.take k)) (rdyKey ev f (findA nm f)) := by
  unfold attMax; rw [take_succ_of h, List.foldl_append]; rfl
theorem attAll_snoc {f : List Ap} {ev : List Int} {q : List ByteArray} {k : Nat} {nm : ByteArray} (h : q[k]? = some nm) (ha : (q.take k).all (attOk f ev) = true) (hn : attOk f ev nm = true) : (q.take (k + 1)).all (attOk f ev) = true := by
  rw [take_succ_of h, List.all_append, ha]; simp [hn]
def attendanceTimeV (n : Int) (l : List St) (f : List Ap) (x : Int) (q : List ByteArray) : Int × Bool :=
  if askD n l f x = true ∧ 0 < q.length ∧ namesB q = true ∧ q.all (attOk f (distT n.toNat (arcs l) x.toNat)) = true then (attMax f (distT n.toNat (arcs l) x.toNat) q, true) else (0, false)
theorem att_no1 {n : Int} {l : List St} {f : List Ap} {x : Int} {q : List ByteArray} (h : askD n l f x = false) : attendanceTimeV n l f x q = (0, false) := by unfold attendanceTimeV; rw [if_neg (by rw [h]; simp)]
theorem att_no2 {n : Int} {l : List St} {f : List Ap} {x : Int} {q : List ByteArray} (h : q.length = 0) : attendanceTimeV n l f x q = (0, false) := by unfold attendanceTimeV; rw [if_neg (by rw [h]; simp)]
theorem att_no3 {n : Int} {l : List St} {f : List Ap} {x : Int} {q : List ByteArray} (h : namesB q = false) : attendanceTimeV n l f x q = (0, false) := by unfold attendanceTimeV; rw [if_neg (by rw [h]; simp)]
theorem att_no4 {n src : Nat} {l : List St} {f : List Ap} {q : List ByteArray} {k : Nat} {nm : ByteArray} (hk : q[k]? = some nm) (h : attOk f (distT n (arcs l) src) nm = false) : attendanceTimeV n l f src q = (0, false) := by
  unfold attendanceTimeV
  rw [if_neg (fun hh => by
    have h1 := hh.2.2.2
    rw [Int.toNat_natCast, Int.toNat_natCast, List.all_eq_true] at h1
    have h2 := h1 nm (List.mem_of_getElem? hk)
    rw [h] at h2
    cases h2)]
theorem att_yes {n src : Nat} {l : List St} {f : List Ap} {q : List ByteArray} (h : askD n l f src = true) (h1 : 0 < q.length) (h2 : namesB q = true) (h3 : q.all (attOk f (distT n (arcs l) src)) = true) : attendanceTimeV n l f src q = (attMax f (distT n (arcs l) src) q, true) := by
  unfold attendanceTimeV; rw [if_pos (by rw [Int.toNat_natCast, Int.toNat_natCast]; exact ⟨h, h1, h2, h3⟩), Int.toNat_natCast, Int.toNat_natCast]
def AttIs (n : Int) (l : List St) (f : List Ap) (x : Int) (q : List ByteArray) (w : World) (e : Ending) (w' : World) : Prop :=
  e = .returned (.tuple #[.int .i64 (attendanceTimeV n l f x q).1, .bool (attendanceTimeV n l f x q).2]) ∧ Below w.heap.size w w'

set_option maxRecDepth 100000 in
set_option maxHeartbeats 4000000 in
theorem attendanceTimeS_c (n : Int) (s : Value) (l : List St) (v : Value) (f : List Ap) (x : Int) (vq : Value) (q : List ByteArray) (w : World) (hr : Rd w s l.length (l.flatMap St.cells)) (hz : ∀ x ∈ f, x.nm.size ≤ 9223372036854775807) (hf : Rd w v f.length (f.flatMap Ap.cells)) (hq : RdS w vq q) :
    Calls Try.prog 14 #[.agg #[.int .i64 n, s], v, .int .i64 x, vq] w (AttIs n l f x q w) := by
  have HR := Lib.hid hr
  have HF := Lib.hid hf
  have HZ := Lib.hid hz
  have HQ := Lib.hid hq
  obtain ⟨A, c, rfl, hc, hm, hcell0⟩ := hf
  rw [maxLen_eq] at hm
  have HCELL := Lib.hid hcell0
  obtain ⟨AQ, cq, rfl, hcq, hmq, hcellq⟩ := hq
  rw [maxLen_eq] at hmq
  have HCQ := Lib.hid hcellq
  clear hr hz hcell0 hcellq
  go_enter Try.func14, Try.ntmps14
  go_wp2_with fail
  (generalize hw1 : World.alloc w _ = w1; have k0 : w1.cell? ⟨w.heap.size, 0, none⟩ = some (.int .i64 n) := (by subst hw1; simp [go_sem]); have k1 : w1.cell? ⟨w.heap.size, 1, none⟩ = some s := (by subst hw1; simp [go_sem]); have hb0 : Below w.heap.size w w1 := (by subst hw1; exact bel_al (Below.refl _ _) _); have hsz1 : w.heap.size < w1.heap.size := (by subst hw1; simp); clear hw1)
  have HB := Lib.hid hb0
  refine (dsAsked_c n s l _ f x _ (rd_below HR.out HB.out) HZ.out (rd_below HF.out HB.out)).mono ?_; rintro e w2 ⟨rfl, hb1⟩
  have e0 := (hb1.cell (p := ⟨w.heap.size, 0, none⟩) (by show w.heap.size < _; omega)).trans k0
  have e1 := (hb1.cell (p := ⟨w.heap.size, 1, none⟩) (by show w.heap.size < _; omega)).trans k1
  have HB1 := Lib.hid (bel_then HB.out hb1)
  clear k0 k1 hb0 hb1
  by_cases hg : askD n l f x = true
  · have HASK := Lib.hid hg
    rw [hg]
    obtain ⟨hds, hx0, hx1⟩ := askD_true hg
    obtain ⟨hgt, hgf, hnd⟩ := goodDs_true hds
    have hn1 := (goodTown_true hgt).1
    obtain ⟨N, rfl⟩ := Int.eq_ofNat_of_zero_le (show 0 ≤ n by omega)
    obtain ⟨src, rfl⟩ := Int.eq_ofNat_of_zero_le hx0
    have hs : src < N := by omega
    have HGT := Lib.hid hgt
    have HND := Lib.hid hnd
    clear hg hds hgt hgf hnd hx0 hx1
    by_cases hq0 : 0 < q.length
    · have hqz : ((q.length : Int) == 0) = false := beq_false_of_ne (by omega)
      go_wp2_with fail
      refine (dsNames_c _ q _ (rd_below HQ.out HB1.out)).mono ?_; rintro e w3 ⟨rfl, rfl⟩
      by_cases hnm : namesB q = true
      · have HNM := Lib.hid hnm
        rw [hnm]
        clear hnm
        go_wp2_with fail
        refine (toTimes_c N s l src _ HGT.out hs (rd_below HR.out HB1.out)).mono ?_
        rintro e w3 ⟨v6, rfl, ho6, hb3⟩
        rw [show (distT N (arcs l) src).length = N by unfold distT; rw [iterT_len, startT_len]] at ho6
        obtain ⟨h, cap6, rfl, hbh, hhl, hcap6, hcm6⟩ := own_shape ho6 (by omega)
        obtain ⟨ev, hev⟩ : ∃ ev, distT N (arcs l) src = ev := ⟨_, rfl⟩
        rw [hev] at ho6
        have HEV := Lib.hid hev
        have HO6 := Lib.hid ho6
        have HB3 := Lib.hid (bel_then HB1.out hb3)
        clear ho6 hb3 hev e0 e1 hqz
        go_wp2_with fail
        go_loopw [11, 35] (fun vm vi wr => ∃ (k : Nat) (m : Int), k ≤ q.length ∧ vi = .int .i64 k ∧ vm = .int .i64 m ∧ Hid ((q.take k).all (attOk f ev) = true) ∧ Hid (attMax f ev (q.take k) = m) ∧ Hid (Below w3.heap.size w3 wr)) (fun _ vi _ => q.length - (intOf vi).toNat)
        case atStart => exact ⟨0, 0, Nat.zero_le _, rfl, rfl, Lib.hid (by simp), Lib.hid rfl, Lib.hid (Below.refl _ _)⟩
        case round =>
          obtain ⟨k, m, hk, rfl, rfl, HALL, HMX, HBL⟩ := hrel
          by_cases hlt : k < q.length
          · obtain ⟨b5, off5, rfl, hb5, hcl5⟩ := HCQ.out (by omega)
            obtain ⟨nm, hy⟩ : ∃ nm, q[k]? = some nm := ⟨_, List.getElem?_eq_getElem hlt⟩
            have c0 := cell_at hcl5 (bel_then HB3.out HBL.out) hb5 (strs_get hy)
            have HY := Lib.hid hy
            clear hcl5 hy
            go_wp2_with fail
            refine (apFind_c _ f nm _ (rd_below HF.out (bel_then HB3.out HBL.out))).mono ?_; rintro e w5 ⟨rfl, hb5'⟩
            have HB5 := Lib.hid (bel_then HBL.out hb5')
            clear hb5'
            obtain ⟨fi, hfi⟩ : ∃ fi, findA nm f = fi := ⟨_, rfl⟩
            rw [hfi]
            by_cases hneg : fi < 0
            · have HV : Hid (attendanceTimeV N l f src q = (0, false)) := Lib.hid (att_no4 HY.out (by unfold attOk; rw [hfi, decide_eq_false (show ¬ 0 ≤ fi by omega)]; rfl))
              go_wp2
              go_ret2
              unfold AttIs
              rw [HV.out]
              exact ⟨rfl, bel_then HB3.out HB5.out⟩
            · obtain ⟨i, rfl⟩ := Int.eq_ofNat_of_zero_le (show 0 ≤ fi by omega)
              obtain ⟨a, ha, _⟩ := idxG_get hfi
              have hif : i < f.length := (List.getElem?_eq_some_iff.1 ha).1
              have hkey := rdyKey_at (ev := ev) ha
              have hnn := HND.out _ (List.mem_of_getElem? ha)
              obtain ⟨b, off, rfl, hbl, hcell⟩ := HCELL.out (by omega)
              obtain ⟨_, _, d2, _, _⟩ := ap_at hcell (bel_then HB3.out HB5.out) hbl ha
              obtain ⟨anm, akd, and', acr, asv⟩ := a
              dsimp only at hkey hnn d2
              obtain ⟨nd0, nd1⟩ := hnn
              obtain ⟨p, rfl⟩ := Int.eq_ofNat_of_zero_le nd0
              rw [Int.toNat_natCast] at hkey
              have ct := (HB5.out.cell (p := ⟨h, p, none⟩) hhl).trans (own_cell HO6.out (show p < N by omega))
              obtain ⟨t, ht⟩ : ∃ t, ev.getD p 0 = t := ⟨_, rfl⟩
              rw [ht] at ct hkey
              have HK := Lib.hid hkey
              have HFI := Lib.hid hfi
              have i0 : (0 : Int) ≤ (i : Int) := by omega
              have i1 : (i : Int) < (f.length : Int) := by omega
              have p0 : (0 : Int) ≤ (p : Int) := by omega
              have p1 : (p : Int) < (N : Int) := by omega
              clear ha hcell hkey ht hfi hneg nd1
              by_cases ht0 : t < 0
              · have HV : Hid (attendanceTimeV N l f src q = (0, false)) := Lib.hid (att_no4 HY.out (by rw [HEV.out]; unfold attOk; rw [HFI.out, HK.out, decide_eq_false (show ¬ 0 ≤ t by omega)]; simp))
                go_wp2
                go_ret2
                unfold AttIs
                rw [HV.out]
                exact ⟨rfl, bel_then HB3.out HB5.out⟩
              · have ht1 : 0 ≤ t := by omega
                have HA2 := Lib.hid (attAll_snoc HY.out HALL.out (by unfold attOk; rw [HFI.out, HK.out, decide_eq_true ht1, decide_eq_true i0]; rfl))
                have HM2 : Hid (attMax f ev (q.take (k + 1)) = max m t) := Lib.hid (by rw [attMax_snoc HY.out, HMX.out, HFI.out, HK.out])
                clear ht0
                go_wp2_with (go_at_call 53; refine (l1Most_c _ _ _).mono ?_; rintro e w' ⟨rfl, rfl⟩)
                exact ⟨⟨k + 1, max m t, by omega, by go_num, (by rw [maxI_max]), HA2, HM2, HB5⟩, by simp [intOf]; omega⟩
          · obtain rfl : k = q.length := by omega
            have hall := HALL.out
            have hmx := HMX.out
            rw [List.take_length] at hall hmx
            have HV := Lib.hid (att_yes HASK.out hq0 HNM.out (by rw [HEV.out]; exact hall))
            have HMM := Lib.hid hmx
            clear hall hmx
            go_wp2
            go_ret2
            unfold AttIs
            rw [HV.out, HEV.out, HMM.out]
            exact ⟨rfl, bel_then HB3.out HBL.out⟩
      · have hnm : namesB q = false := by simpa using hnm
        have HV := Lib.hid (att_no3 (n := N) (l := l) (f := f) (x := src) hnm)
        rw [hnm]
        go_wp2
        go_ret2
        unfold AttIs
        rw [HV.out]
        exact ⟨rfl, HB1.out⟩
    · have hqz : ((q.length : Int) == 0) = true := beq_iff_eq.2 (by omega)
      have HV := Lib.hid (att_no2 (n := N) (l := l) (f := f) (x := src) (show q.length = 0 by omega))
      go_wp2
      go_ret2
      unfold AttIs
      rw [HV.out]
      exact ⟨rfl, HB1.out⟩
  · have hg : askD n l f x = false := by simpa using hg
    have HV := Lib.hid (att_no1 (q := q) hg)
    rw [hg]
    go_wp2
    go_ret2
    unfold AttIs
    rw [HV.out]
    exact ⟨rfl, HB1.out⟩
end Go.Proofs.Ytcpchdbhpcebeaa
