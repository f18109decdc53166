/-
  Stations: both sides' look at them.
-/
import Derived.Test.YtjogndeodgibfaaDoorTownJ
import Derived.Test.YtjogndeodgibfaaDoorInts
namespace Go.Proofs.YtjogndeodgibfaaDoor
open Go.RowKit

def risAt (lo hi : Int) (q : List Int) (i : Nat) : Bool := match q[i]? with | none => true | some x => inB x lo hi && (decide (i = 0) || (match q[i - 1]? with | none => true | some p => decide (p < x)))
def rising (lo hi : Int) (q : List Int) : Bool := (List.range q.length).all (risAt lo hi q)
def goodSta (n : Int) (l : List St) (q : List Int) : Bool := goodTown n l && (rising 0 (n - 1) q && decide (q.length ≤ 6))
theorem rising_false {lo hi : Int} {q : List Int} {k : Nat} (hk : k < q.length) (h : risAt lo hi q k = false) : rising lo hi q = false := by
  unfold rising
  exact List.all_eq_false.2 ⟨k, List.mem_range.2 hk, by rw [h]; simp⟩
theorem rising_mem {lo hi : Int} {q : List Int} (h : rising lo hi q = true) : ∀ x ∈ q, lo ≤ x ∧ x ≤ hi := by
  intro x hx
  obtain ⟨i, hi', rfl⟩ := List.getElem_of_mem hx
  have h4 := List.all_eq_true.1 h i (List.mem_range.2 hi')
  unfold risAt at h4
  rw [List.getElem?_eq_getElem hi'] at h4
  simp only [Bool.and_eq_true] at h4
  exact inB_true h4.1

set_option maxRecDepth 100000 in
set_option maxHeartbeats 1000000 in
theorem l1Rising_c (v : Value) (q : List Int) (lo hi : Int) (w : World) (hr : RdI w v q) :
    Calls Tryd.prog 9 #[v, .int .i64 lo, .int .i64 hi] w fun en w' => en = .returned (.bool (rising lo hi q)) ∧ Below w.heap.size w w' := by
  obtain ⟨A, c, rfl, hc, hm, hr⟩ := hr
  rw [maxLen_eq] at hm
  go_enter Tryd.func9, Tryd.ntmps9
  go_wp2
  go_loopw [11] (fun i wr => ∃ k : Nat, k ≤ q.length ∧ i = .int .i64 k ∧ (List.range k).all (risAt lo hi q) = true ∧ Below w.heap.size w wr) (fun i _ => q.length - (intOf i).toNat)
  case atStart => exact ⟨0, Nat.zero_le _, rfl, rfl, Below.refl _ _⟩
  case round =>
    obtain ⟨k, hk, rfl, hall, hb⟩ := hrel
    by_cases hlt : k < q.length
    · obtain ⟨b, off, rfl, hbl, hcell⟩ := hr (by omega)
      have hx : q[k]? = some q[k] := by simp [hlt]
      generalize q[k] = x at hx
      have c0 := cell_at hcell hb hbl (ints_get hx)
      have HX := Lib.hid hx
      have HA := Lib.hid hall
      clear hx hall
      by_cases hin : inB x lo hi = true
      · rcases k with _ | kp
        · have c0 : wr.cell? ⟨b, off, none⟩ = some (.int .i64 x) := c0
          go_wp2_with (go_at_call 15; refine (l1In_c _ _ _ _).mono ?_; rintro e w' ⟨rfl, rfl⟩)
          refine ⟨⟨1, by omega, by go_num, ?_, (by repeat (first | exact Below.refl _ _ | assumption | refine bel_al ?_ _ | refine bel_dr ?_ | refine below_drewN ?_ _ | refine bel_then ?_ (by assumption)))⟩, by simp [intOf]; omega⟩
          simp [List.range_succ]
          unfold risAt; rw [HX.out]; simp [hin]
        · have hx' : q[kp]? = some q[kp] := by simp [show kp < q.length by omega]
          generalize q[kp] = y at hx'
          have d0 := cell_at hcell hb hbl (ints_get hx')
          have HX' := Lib.hid hx'
          clear hx'
          have y0 : (0 : Int) ≤ (kp : Int) := Int.natCast_nonneg _
          have y1 : (kp : Int) < (q.length : Int) := by omega
          have y2 : (0 : Int) < (kp : Int) + 1 := by omega
          have s3 : IntKind.i64.wrap (kp : Int) = (kp : Int) := by rw [IntKind.wrap_i64]; omega
          by_cases hyx : y < x
          · go_wp2_with (go_at_call 15; refine (l1In_c _ _ _ _).mono ?_; rintro e w' ⟨rfl, rfl⟩)
            refine ⟨⟨kp + 1 + 1, by omega, by go_num, ?_, (by repeat (first | exact Below.refl _ _ | assumption | refine bel_al ?_ _ | refine bel_dr ?_ | refine below_drewN ?_ _ | refine bel_then ?_ (by assumption)))⟩, by simp [intOf]; omega⟩
            rw [List.range_succ, List.all_append, HA.out]
            simp only [Bool.true_and, List.all_cons, List.all_nil, Bool.and_true]
            unfold risAt; rw [HX.out]; simp [hin, HX'.out, hyx]
          · go_wp2_with (go_at_call 15; refine (l1In_c _ _ _ _).mono ?_; rintro e w' ⟨rfl, rfl⟩)
            go_ret
            refine ⟨?_, (by repeat (first | exact Below.refl _ _ | assumption | refine bel_al ?_ _ | refine bel_dr ?_ | refine below_drewN ?_ _ | refine bel_then ?_ (by assumption)))⟩
            rw [rising_false hlt (by unfold risAt; rw [HX.out]; simp [hin, HX'.out]; omega)]; rfl
      · have hin : inB x lo hi = false := by simpa using hin
        go_wp2_with (go_at_call 15; refine (l1In_c _ _ _ _).mono ?_; rintro e w' ⟨rfl, rfl⟩)
        go_ret
        refine ⟨?_, (by repeat (first | exact Below.refl _ _ | assumption | refine bel_al ?_ _ | refine bel_dr ?_ | refine below_drewN ?_ _ | refine bel_then ?_ (by assumption)))⟩
        rw [rising_false hlt (by unfold risAt; rw [HX.out]; simp [hin])]; rfl
    · go_wp2
      go_ret
      obtain rfl : k = q.length := by omega
      exact ⟨by unfold rising; rw [hall]; rfl, hb⟩

set_option maxRecDepth 100000 in
set_option maxHeartbeats 1000000 in
theorem areStations_c (n : Int) (s v : Value) (l : List St) (q : List Int) (B : Nat) (w : World) (t0 : w.cell? ⟨B, 0, none⟩ = some (.int .i64 n)) (t1 : w.cell? ⟨B, 1, none⟩ = some s) (hr : Rd w s l.length (l.flatMap St.cells)) (hq : RdI w v q) :
    Calls Tryd.prog 17 #[.pointer (some ⟨B, 0, none⟩), v] w fun en w' => en = .returned (.bool (goodSta n l q)) ∧ Below w.heap.size w w' := by
  have HR := Lib.hid hr
  have HT := Lib.hid t1
  have hB : B < w.heap.size := World.block_lt_of_cell? w _ t0
  clear hr t1
  obtain ⟨A, c, rfl, hc, hm, hq⟩ := hq
  rw [maxLen_eq] at hm
  by_cases hg : goodTown n l = true
  · have hnb := goodTown_true hg
    obtain ⟨hn1, hn2, _, _⟩ := hnb
    by_cases h6 : q.length ≤ 6
    · have h6i : (q.length : Int) ≤ 6 := by omega
      have HG := Lib.hid hg
      go_enter Tryd.func17, Tryd.ntmps17
      go_wp2_with (go_at_call 24; refine (isTown_c n _ l _ _ t0 HT.out HR.out).mono ?_; rw [hg]; rintro e w1 ⟨rfl, hb1⟩)
      clear h6i hg
      go_loopw [17] (fun i wr => ∃ k : Nat, k ≤ q.length ∧ i = .int .i64 k ∧ (List.range k).all (risAt 0 (n - 1) q) = true ∧ Below w.heap.size w wr) (fun i _ => q.length - (intOf i).toNat)
      case atStart => exact ⟨0, Nat.zero_le _, rfl, rfl, hb1⟩
      case round =>
        obtain ⟨k, hk, rfl, hall, hb⟩ := hrel
        clear hb1
        have z0 := (hb.cell (p := ⟨B, 0, none⟩) hB).trans t0
        by_cases hlt : k < q.length
        · obtain ⟨b, off, rfl, hbl, hcell⟩ := hq (by omega)
          have hx : q[k]? = some q[k] := by simp [hlt]
          generalize q[k] = x at hx
          have c0 := cell_at hcell hb hbl (ints_get hx)
          have HX := Lib.hid hx
          have HA := Lib.hid hall
          clear hx hall
          have hout : risAt 0 (n - 1) q k = false → goodSta n l q = false := fun h => by
            unfold goodSta; rw [rising_false hlt h]; simp
          have HOUT := Lib.hid hout
          clear hout
          by_cases hin : inB x 0 (n - 1) = true
          · rcases k with _ | kp
            · have c0 : wr.cell? ⟨b, off, none⟩ = some (.int .i64 x) := c0
              go_wp2_with (go_at_call 20; refine (has_c n _ _ _ hn1 hn2 z0).mono ?_; rintro e w' ⟨rfl, rfl⟩)
              refine ⟨⟨1, by omega, by go_num, ?_, (by repeat (first | exact Below.refl _ _ | assumption | refine bel_al ?_ _ | refine bel_dr ?_ | refine below_drewN ?_ _ | refine bel_then ?_ (by assumption)))⟩, by simp [intOf]; omega⟩
              simp [List.range_succ]
              unfold risAt; rw [HX.out]; simp [hin]
            · have hx' : q[kp]? = some q[kp] := by simp [show kp < q.length by omega]
              generalize q[kp] = y at hx'
              have d0 := cell_at hcell hb hbl (ints_get hx')
              have HX' := Lib.hid hx'
              clear hx'
              have y0 : (0 : Int) ≤ (kp : Int) := Int.natCast_nonneg _
              have y1 : (kp : Int) < (q.length : Int) := by omega
              have y2 : (0 : Int) < (kp : Int) + 1 := by omega
              have s3 : IntKind.i64.wrap (kp : Int) = (kp : Int) := by rw [IntKind.wrap_i64]; omega
              by_cases hyx : y < x
              · go_wp2_with (go_at_call 20; refine (has_c n _ _ _ hn1 hn2 z0).mono ?_; rintro e w' ⟨rfl, rfl⟩)
                refine ⟨⟨kp + 1 + 1, by omega, by go_num, ?_, (by repeat (first | exact Below.refl _ _ | assumption | refine bel_al ?_ _ | refine bel_dr ?_ | refine below_drewN ?_ _ | refine bel_then ?_ (by assumption)))⟩, by simp [intOf]; omega⟩
                rw [List.range_succ, List.all_append, HA.out]
                simp only [Bool.true_and, List.all_cons, List.all_nil, Bool.and_true]
                unfold risAt; rw [HX.out]; simp [hin, HX'.out, hyx]
              · go_wp2_with (go_at_call 20; refine (has_c n _ _ _ hn1 hn2 z0).mono ?_; rintro e w' ⟨rfl, rfl⟩)
                go_ret
                refine ⟨?_, (by repeat (first | exact Below.refl _ _ | assumption | refine bel_al ?_ _ | refine bel_dr ?_ | refine below_drewN ?_ _ | refine bel_then ?_ (by assumption)))⟩
                rw [HOUT.out (by unfold risAt; rw [HX.out]; simp [hin, HX'.out]; omega)]; rfl
          · have hin : inB x 0 (n - 1) = false := by simpa using hin
            go_wp2_with (go_at_call 20; refine (has_c n _ _ _ hn1 hn2 z0).mono ?_; rintro e w' ⟨rfl, rfl⟩)
            go_ret
            refine ⟨?_, (by repeat (first | exact Below.refl _ _ | assumption | refine bel_al ?_ _ | refine bel_dr ?_ | refine below_drewN ?_ _ | refine bel_then ?_ (by assumption)))⟩
            rw [HOUT.out (by unfold risAt; rw [HX.out]; simp [hin])]; rfl
        · go_wp2
          go_ret
          obtain rfl : k = q.length := by omega
          exact ⟨by unfold goodSta rising; rw [hall, HG.out]; simp [h6], hb⟩
    · go_enter Tryd.func17, Tryd.ntmps17
      go_wp2_with (go_at_call 24; refine (isTown_c n _ l _ _ t0 HT.out HR.out).mono ?_; rw [hg]; rintro e w1 ⟨rfl, hb1⟩)
      go_ret
      exact ⟨by unfold goodSta; simp [h6], hb1⟩
  · have hg : goodTown n l = false := by simpa using hg
    go_enter Tryd.func17, Tryd.ntmps17
    go_wp2_with (go_at_call 24; refine (isTown_c n _ l _ _ t0 HT.out HR.out).mono ?_; rw [hg]; rintro e w1 ⟨rfl, hb1⟩)
    go_ret
    exact ⟨by unfold goodSta; rw [hg]; rfl, hb1⟩
end Go.Proofs.YtjogndeodgibfaaDoor
