/-
  AttendanceTime: the program's side (NOT BUILT YET: the order of the names, tested inside the loop, is still to be parted there).
-/
import Derived.Test.YtcpchdbhpcebeaaAtt
import Derived.Test.YtcpchdbhpcebeaaTimesI
namespace Go.Proofs.Ytcpchdbhpcebeaa
open Go.RowKit

set_option maxRecDepth 100000 in
set_option maxHeartbeats 4000000 in
theorem attendanceTimeI_c (n : Int) (s : Value) (l : List St) (v : Value) (f : List Ap) (x : Int) (vq : Value) (q : List ByteArray) (w : World) (hr : Rd w s l.length (l.flatMap St.cells)) (hz : ∀ x ∈ f, x.nm.size ≤ 9223372036854775807) (hf : Rd w v f.length (f.flatMap Ap.cells)) (hq : RdS w vq q) :
    Calls Try.prog 18 #[.agg #[.int .i64 n, s], v, .int .i64 x, vq] w (AttIs n l f x q w) := by
  have HR := Lib.hid hr
  have HF := Lib.hid hf
  have HZ := Lib.hid hz
  have HQ := Lib.hid hq
  obtain ⟨A, c, rfl, hc, hm, hcell0⟩ := hf
  rw [maxLen_eq] at hm
  have HCELL := Lib.hid hcell0
  obtain ⟨AQ, cq, rfl, hcq, hmq, hcellq⟩ := hq
  rw [maxLen_eq] at hmq
  have HCQ := Lib.hid hcellq
  clear hr hz hcell0 hcellq
  go_enter Try.func18, Try.ntmps18
  go_wp2_with fail
  (generalize hw1 : World.alloc w _ = w1; have k0 : w1.cell? ⟨w.heap.size, 0, none⟩ = some (.int .i64 n) := (by subst hw1; simp [go_sem]); have k1 : w1.cell? ⟨w.heap.size, 1, none⟩ = some s := (by subst hw1; simp [go_sem]); have hb0 : Below w.heap.size w w1 := (by subst hw1; exact bel_al (Below.refl _ _) _); have hsz1 : w.heap.size < w1.heap.size := (by subst hw1; simp); clear hw1)
  have HB := Lib.hid hb0
  refine (dispatchFits_c n s l _ f w.heap.size _ k0 k1 (rd_below HR.out HB.out) HZ.out (rd_below HF.out HB.out)).mono ?_; rintro e w2 ⟨rfl, hb1⟩
  have e0 := (hb1.cell (p := ⟨w.heap.size, 0, none⟩) (by show w.heap.size < _; omega)).trans k0
  have e1 := (hb1.cell (p := ⟨w.heap.size, 1, none⟩) (by show w.heap.size < _; omega)).trans k1
  have HB1 := Lib.hid (bel_then HB.out hb1)
  clear k0 k1 hb0 hb1
  by_cases hg : goodDs n l f = true
  · have HDS := Lib.hid hg
    rw [hg]
    obtain ⟨hgt, hgf, hnd⟩ := goodDs_true hg
    obtain ⟨hn1, hn2, _⟩ := goodTown_true hgt
    have HGT := Lib.hid hgt
    have HND0 := Lib.hid hnd
    clear hg hgt hgf hnd
    go_wp2_with fail
    refine (has_c n x _ _ hn1 hn2 e0).mono ?_; rintro e w3 ⟨rfl, rfl⟩
    by_cases hx : inB x 0 (n - 1) = true
    · have HASK : Hid (askD n l f x = true) := Lib.hid (by unfold askD; rw [HDS.out, hx]; rfl)
      rw [hx]
      obtain ⟨hx0, hx1⟩ := inB_true hx
      obtain ⟨N, rfl⟩ := Int.eq_ofNat_of_zero_le (show 0 ≤ n by omega)
      obtain ⟨src, rfl⟩ := Int.eq_ofNat_of_zero_le hx0
      have hs : src < N := by omega
      have HND := HND0
      have E0 := Lib.hid e0
      have E1 := Lib.hid e1
      clear hx hx0 hx1 e0 e1
      by_cases hq0 : 0 < q.length
      · have hqz : ((q.length : Int) == 0) = false := beq_false_of_ne (by omega)
        go_wp2_with fail
        refine (timesI_c N s l w.heap.size src _ HGT.out hs E0.out E1.out (rd_below HR.out HB1.out)).mono ?_
        rintro e w3 ⟨v6, rfl, ho6, hb3⟩
        rw [show (distT N (arcs l) src).length = N by unfold distT; rw [iterT_len, startT_len]] at ho6
        obtain ⟨h, cap6, rfl, hbh, hhl, hcap6, hcm6⟩ := own_shape ho6 (by omega)
        obtain ⟨ev, hev⟩ : ∃ ev, distT N (arcs l) src = ev := ⟨_, rfl⟩
        rw [hev] at ho6
        have HEV := Lib.hid hev
        have HO6 := Lib.hid ho6
        have HB3 := Lib.hid (bel_then HB1.out hb3)
        clear ho6 hb3 hev hqz
        go_wp2_with fail
        go_loopw [11, 32] (fun vm vi wr => ∃ (k : Nat) (m : Int), k ≤ q.length ∧ vi = .int .i64 k ∧ vm = .int .i64 m ∧ Hid ((q.take k).all (attOk f ev) = true) ∧ Hid (attMax f ev (q.take k) = m) ∧ Hid ((List.range k).all (okNm q) = true) ∧ Hid (Below w3.heap.size w3 wr)) (fun _ vi _ => q.length - (intOf vi).toNat)
        case atStart => exact ⟨0, 0, Nat.zero_le _, rfl, rfl, Lib.hid (by simp), Lib.hid rfl, Lib.hid rfl, Lib.hid (Below.refl _ _)⟩
        case round =>
          obtain ⟨k, m, hk, rfl, rfl, HALL, HMX, HNA, HBL⟩ := hrel
          by_cases hlt : k < q.length
          · obtain ⟨b5, off5, rfl, hb5, hcl5⟩ := HCQ.out (by omega)
            obtain ⟨nm, hy⟩ : ∃ nm, q[k]? = some nm := ⟨_, List.getElem?_eq_getElem hlt⟩
            have c0 := cell_at hcl5 (bel_then HB3.out HBL.out) hb5 (strs_get hy)
            have HY := Lib.hid hy
            clear hy
            go_wp2_with fail
            refine (findI_c _ f nm _ (rd_below HF.out (bel_then HB3.out HBL.out))).mono ?_; rintro e w5 ⟨rfl, hb5'⟩
            have HB5 := Lib.hid (bel_then HBL.out hb5')
            clear hb5'
            rcases k with _ | kp
            · have HOK := Lib.hid (okNm_first HY.out)
              have hd0 : decide ((0 : Int) < 0) = false := by decide
              obtain ⟨fi, hfi⟩ : ∃ fi, findA nm f = fi := ⟨_, rfl⟩
              rw [hfi]
              by_cases hneg : fi < 0
              · have HV : Hid (attendanceTimeV N l f src q = (0, false)) := Lib.hid (att_no4 HY.out (by unfold attOk; rw [hfi, decide_eq_false (show ¬ 0 ≤ fi by omega)]; rfl))
                go_wp2
                go_ret2
                unfold AttIs
                rw [HV.out]
                exact ⟨rfl, bel_then HB3.out HB5.out⟩
              · obtain ⟨i, rfl⟩ := Int.eq_ofNat_of_zero_le (show 0 ≤ fi by omega)
                obtain ⟨a, ha, _⟩ := idxG_get hfi
                have hif : i < f.length := (List.getElem?_eq_some_iff.1 ha).1
                have hkey := rdyKey_at (ev := ev) ha
                have hnn := HND.out _ (List.mem_of_getElem? ha)
                obtain ⟨b, off, rfl, hbl, hcell⟩ := HCELL.out (by omega)
                obtain ⟨_, _, d2, _, _⟩ := ap_at hcell (bel_then HB3.out HB5.out) hbl ha
                obtain ⟨anm, akd, and', acr, asv⟩ := a
                dsimp only at hkey hnn d2
                obtain ⟨nd0, nd1⟩ := hnn
                obtain ⟨p, rfl⟩ := Int.eq_ofNat_of_zero_le nd0
                rw [Int.toNat_natCast] at hkey
                have ct := (HB5.out.cell (p := ⟨h, p, none⟩) hhl).trans (own_cell HO6.out (show p < N by omega))
                obtain ⟨t, ht⟩ : ∃ t, ev.getD p 0 = t := ⟨_, rfl⟩
                rw [ht] at ct hkey
                have HK := Lib.hid hkey
                have HFI := Lib.hid hfi
                have i0 : (0 : Int) ≤ (i : Int) := by omega
                have i1 : (i : Int) < (f.length : Int) := by omega
                have p0 : (0 : Int) ≤ (p : Int) := by omega
                have p1 : (p : Int) < (N : Int) := by omega
                clear ha hcell hkey ht hfi hneg nd1
                by_cases ht0 : t < 0
                · have HV : Hid (attendanceTimeV N l f src q = (0, false)) := Lib.hid (att_no4 HY.out (by rw [HEV.out]; unfold attOk; rw [HFI.out, HK.out, decide_eq_false (show ¬ 0 ≤ t by omega)]; simp))
                  go_wp2
                  go_ret2
                  unfold AttIs
                  rw [HV.out]
                  exact ⟨rfl, bel_then HB3.out HB5.out⟩
                · have ht1 : 0 ≤ t := by omega
                  have HA2 := Lib.hid (attAll_snoc HY.out HALL.out (by unfold attOk; rw [HFI.out, HK.out, decide_eq_true ht1, decide_eq_true i0]; rfl))
                  have HM2 : Hid (attMax f ev (q.take (0 + 1)) = max m t) := Lib.hid (by rw [attMax_snoc HY.out, HMX.out, HFI.out, HK.out])
                  clear ht0
                  go_wp2
                  exact ⟨⟨0 + 1, max m t, by omega, by go_num, (by first | rfl | simp), HA2, HM2, Lib.hid (all_rng_succ HNA.out HOK.out), HB5⟩, by simp [intOf]; omega⟩
            · have hlt' : kp < q.length := by omega
              obtain ⟨p9, hp9⟩ : ∃ p, q[kp]? = some p := ⟨_, List.getElem?_eq_getElem hlt'⟩
              have HOK0 := Lib.hid (okNm_next HY.out hp9)
              have d9 := cell_at hcl5 (bel_then HB3.out HB5.out) hb5 (strs_get hp9)
              have y0 : (0 : Int) ≤ (kp : Int) := Int.natCast_nonneg _
              have y1 : (kp : Int) < (q.length : Int) := by omega
              have y2 : (0 : Int) < (kp : Int) + 1 := by omega
              have s9 : IntKind.i64.wrap (kp : Int) = (kp : Int) := by rw [IntKind.wrap_i64]; omega
              clear hcl5 hp9
              obtain ⟨fi, hfi⟩ : ∃ fi, findA nm f = fi := ⟨_, rfl⟩
              rw [hfi]
              by_cases hneg : fi < 0
              · have HV : Hid (attendanceTimeV N l f src q = (0, false)) := Lib.hid (att_no4 HY.out (by unfold attOk; rw [hfi, decide_eq_false (show ¬ 0 ≤ fi by omega)]; rfl))
                go_wp2
                go_ret2
                unfold AttIs
                rw [HV.out]
                exact ⟨rfl, bel_then HB3.out HB5.out⟩
              · by_cases hbs : Op.bytesLess p9.toList nm.toList = true
                · have HOK : Hid (okNm q (kp + 1) = true) := Lib.hid (by rw [HOK0.out]; unfold geS; rw [hbs]; rfl)
                  obtain ⟨i, rfl⟩ := Int.eq_ofNat_of_zero_le (show 0 ≤ fi by omega)
                  obtain ⟨a, ha, _⟩ := idxG_get hfi
                  have hif : i < f.length := (List.getElem?_eq_some_iff.1 ha).1
                  have hkey := rdyKey_at (ev := ev) ha
                  have hnn := HND.out _ (List.mem_of_getElem? ha)
                  obtain ⟨b, off, rfl, hbl, hcell⟩ := HCELL.out (by omega)
                  obtain ⟨_, _, d2, _, _⟩ := ap_at hcell (bel_then HB3.out HB5.out) hbl ha
                  obtain ⟨anm, akd, and', acr, asv⟩ := a
                  dsimp only at hkey hnn d2
                  obtain ⟨nd0, nd1⟩ := hnn
                  obtain ⟨p, rfl⟩ := Int.eq_ofNat_of_zero_le nd0
                  rw [Int.toNat_natCast] at hkey
                  have ct := (HB5.out.cell (p := ⟨h, p, none⟩) hhl).trans (own_cell HO6.out (show p < N by omega))
                  obtain ⟨t, ht⟩ : ∃ t, ev.getD p 0 = t := ⟨_, rfl⟩
                  rw [ht] at ct hkey
                  have HK := Lib.hid hkey
                  have HFI := Lib.hid hfi
                  have i0 : (0 : Int) ≤ (i : Int) := by omega
                  have i1 : (i : Int) < (f.length : Int) := by omega
                  have p0 : (0 : Int) ≤ (p : Int) := by omega
                  have p1 : (p : Int) < (N : Int) := by omega
                  clear ha hcell hkey ht hfi hneg nd1
                  by_cases ht0 : t < 0
                  · have HV : Hid (attendanceTimeV N l f src q = (0, false)) := Lib.hid (att_no4 HY.out (by rw [HEV.out]; unfold attOk; rw [HFI.out, HK.out, decide_eq_false (show ¬ 0 ≤ t by omega)]; simp))
                    go_wp2
                    go_ret2
                    unfold AttIs
                    rw [HV.out]
                    exact ⟨rfl, bel_then HB3.out HB5.out⟩
                  · have ht1 : 0 ≤ t := by omega
                    have HA2 := Lib.hid (attAll_snoc HY.out HALL.out (by unfold attOk; rw [HFI.out, HK.out, decide_eq_true ht1, decide_eq_true i0]; rfl))
                    have HM2 : Hid (attMax f ev (q.take (kp + 1 + 1)) = max m t) := Lib.hid (by rw [attMax_snoc HY.out, HMX.out, HFI.out, HK.out])
                    clear ht0
                    go_wp2
                    exact ⟨⟨kp + 1 + 1, max m t, by omega, by go_num, (by first | rfl | simp), HA2, HM2, Lib.hid (all_rng_succ HNA.out HOK.out), HB5⟩, by simp [intOf]; omega⟩
                · have hbs : Op.bytesLess p9.toList nm.toList = false := by simpa using hbs
                  have HV : Hid (attendanceTimeV N l f src q = (0, false)) := Lib.hid (att_no3 (names_no hlt (by rw [HOK0.out]; unfold geS; rw [hbs]; rfl)))
                  go_wp2
                  go_ret2
                  unfold AttIs
                  rw [HV.out]
                  exact ⟨rfl, bel_then HB3.out HB5.out⟩
          · obtain rfl : k = q.length := by omega
            have hall := HALL.out
            have hmx := HMX.out
            rw [List.take_length] at hall hmx
            have HV := Lib.hid (att_yes HASK.out hq0 HNA.out (by rw [HEV.out]; exact hall))
            have HMM := Lib.hid hmx
            clear hall hmx
            go_wp2
            go_ret2
            unfold AttIs
            rw [HV.out, HEV.out, HMM.out]
            exact ⟨rfl, bel_then HB3.out HBL.out⟩
      · have hqz : ((q.length : Int) == 0) = true := beq_iff_eq.2 (by omega)
        have HV := Lib.hid (att_no2 (n := N) (l := l) (f := f) (x := src) (show q.length = 0 by omega))
        go_wp2
        go_ret2
        unfold AttIs
        rw [HV.out]
        exact ⟨rfl, HB1.out⟩
    · have hx : inB x 0 (n - 1) = false := by simpa using hx
      have HV := Lib.hid (att_no1 (q := q) (l := l) (f := f) (x := x) (n := n) (by unfold askD; rw [hx]; simp))
      rw [hx]
      go_wp2
      go_ret2
      unfold AttIs
      rw [HV.out]
      exact ⟨rfl, HB1.out⟩
  · have hg : goodDs n l f = false := by simpa using hg
    have HV := Lib.hid (att_no1 (q := q) (x := x) (n := n) (l := l) (f := f) (by unfold askD; rw [hg]; rfl))
    rw [hg]
    go_wp2
    go_ret2
    unfold AttIs
    rw [HV.out]
    exact ⟨rfl, HB1.out⟩
end Go.Proofs.Ytcpchdbhpcebeaa
