/-
  A need: four numbers of 0..6 (printed by gen_pick.py).
-/
import Derived.Test.YtcpchdbhpcebeaaNum
import Derived.Test.YtcpchdbhpcebeaaInts
import Derived.Test.YtcpchdbhpcebeaaSort
namespace Go.Proofs.Ytcpchdbhpcebeaa
open Go.RowKit

def needB (l : List Int) : Bool := decide (l.length = 4) && l.all fun x => inB x 0 6
theorem needB_true {l : List Int} (h : needB l = true) : l.length = 4 ∧ ∀ x ∈ l, 0 ≤ x ∧ x ≤ 6 := by
  unfold needB at h
  simp only [Bool.and_eq_true, decide_eq_true_eq, List.all_eq_true] at h
  exact ⟨h.1, fun x hx => inB_true (h.2 x hx)⟩
theorem all_false_at2 {p : Int → Bool} {l : List Int} {k : Nat} {x : Int} (h : l[k]? = some x) (hp : p x = false) : l.all p = false :=
  List.all_eq_false.2 ⟨x, List.mem_of_getElem? h, by rw [hp]; simp⟩
theorem need_no {l : List Int} (h : (l.all fun x => inB x 0 6) = false) : needB l = false := by unfold needB; rw [h]; simp
theorem need_len {l : List Int} (h : (l.all fun x => inB x 0 6) = true) : needB l = decide (l.length = 4) := by unfold needB; rw [h]; simp
set_option maxHeartbeats 400000 in
theorem all2_c (v : Value) (l : List Int) (lo hi : Int) (w : World) (hr : RdI w v l) :
    Calls Try.prog 77 #[v, .int .i64 lo, .int .i64 hi] w fun en w' => en = .returned (.bool (l.all fun n => inB n lo hi)) ∧ w = w' := by
  obtain ⟨A, c, rfl, hc, hm, hr⟩ := hr
  rw [maxLen_eq] at hm
  go_enter Try.func77, Try.ntmps77
  go_wp2
  go_loop [8, 11] (fun _ i => ∃ k : Nat, k ≤ l.length ∧ i = .int .i64 k ∧ (l.take k).all (fun n => inB n lo hi) = true) (fun _ i => l.length - (intOf i).toNat)
  case atStart => exact ⟨0, Nat.zero_le _, rfl, rfl⟩
  case round =>
    obtain ⟨k, hk, rfl, hall⟩ := hrel
    by_cases hlt : k < l.length
    · obtain ⟨b, off, rfl, hbl, hcell⟩ := hr (by omega)
      have hx : l[k]? = some l[k] := by simp [hlt]
      generalize l[k] = t at hx
      have c0 := hcell k (.int .i64 t) (ints_get hx)
      have HX := Lib.hid hx
      have HA := Lib.hid hall
      clear hx hall
      go_wp2_with (go_at_call 99; refine (l1In_c _ _ _ _).mono ?_; rintro e w' ⟨rfl, rfl⟩)
      · go_ret
        refine ⟨?_, rfl⟩
        have h : inB t lo hi = false := by simp_all
        rw [all_false_at2 HX.out h]; rfl
      · refine ⟨⟨k + 1, by omega, by go_num, ?_⟩, by simp [intOf]; omega⟩
        rw [take_succ_of HX.out, List.all_append, HA.out]; simp_all
    · go_wp2
      go_ret
      rw [List.take_of_length_le (by omega)] at hall
      exact ⟨by rw [hall]; rfl, rfl⟩
set_option maxRecDepth 100000 in
set_option maxHeartbeats 400000 in
theorem tbNeed_c (v : Value) (l : List Int) (w : World) (hr : RdI w v l) :
    Calls Try.prog 71 #[v] w fun en w' => en = .returned (.bool (needB l)) ∧ w = w' := by
  have HR := Lib.hid hr
  obtain ⟨A, c, rfl, hc, hm, _⟩ := hr
  by_cases h4 : l.length = 4
  · have HN : Hid (needB l = l.all fun x => inB x 0 6) := Lib.hid (by unfold needB; rw [decide_eq_true h4]; rfl)
    have h4i : ((l.length : Int) == 4) = true := by simp; omega
    clear h4
    go_enter Try.func71, Try.ntmps71
    go_wp2_with (go_at_call 77; refine (all2_c _ l _ _ _ HR.out).mono ?_; rintro e w' ⟨rfl, rfl⟩)
    all_goals
      go_ret
      rw [HN.out]
      exact ⟨rfl, rfl⟩
  · have HN : Hid (needB l = false) := Lib.hid (by unfold needB; rw [decide_eq_false h4]; rfl)
    have h4i : ((l.length : Int) == 4) = false := by simp; omega
    clear h4
    go_enter Try.func71, Try.ntmps71
    go_wp2_with (go_at_call 77; refine (all2_c _ l _ _ _ HR.out).mono ?_; rintro e w' ⟨rfl, rfl⟩)
    all_goals
      go_ret
      rw [HN.out]
      exact ⟨rfl, rfl⟩
set_option maxRecDepth 100000 in
set_option maxHeartbeats 400000 in
theorem isNeed_c (v : Value) (l : List Int) (w : World) (hr : RdI w v l) :
    Calls Try.prog 73 #[v] w fun en w' => en = .returned (.bool (needB l)) ∧ w = w' := by
  obtain ⟨A, c, rfl, hc, hm, hr⟩ := hr
  rw [maxLen_eq] at hm
  go_enter Try.func73, Try.ntmps73
  go_wp2
  go_loop [7] (fun i => ∃ k : Nat, k ≤ l.length ∧ i = .int .i64 k ∧ (l.take k).all (fun n => inB n 0 6) = true) (fun i => l.length - (intOf i).toNat)
  case atStart => exact ⟨0, Nat.zero_le _, rfl, rfl⟩
  case round =>
    obtain ⟨k, hk, rfl, hall⟩ := hrel
    by_cases hlt : k < l.length
    · obtain ⟨b, off, rfl, hbl, hcell⟩ := hr (by omega)
      have hx : l[k]? = some l[k] := by simp [hlt]
      generalize l[k] = t at hx
      have c0 := hcell k (.int .i64 t) (ints_get hx)
      have HX := Lib.hid hx
      have HA := Lib.hid hall
      clear hx hall
      go_wp2_with (go_at_call 65; refine (inside_c _ _ _ _).mono ?_; rintro e w' ⟨rfl, rfl⟩)
      · go_ret
        refine ⟨?_, rfl⟩
        have h : inB t 0 6 = false := by simp_all
        rw [need_no (all_false_at2 HX.out h)]; rfl
      · refine ⟨⟨k + 1, by omega, by go_num, ?_⟩, by simp [intOf]; omega⟩
        rw [take_succ_of HX.out, List.all_append, HA.out]; simp_all
    · rw [List.take_of_length_le (by omega)] at hall
      have HN := Lib.hid (need_len hall)
      clear hall
      by_cases h4 : l.length = 4
      · have h4i : ((l.length : Int) == 4) = true := by simp; omega
        have H4 := Lib.hid h4
        clear h4
        go_wp2
        go_ret
        rw [HN.out, decide_eq_true H4.out]
        exact ⟨rfl, rfl⟩
      · have h4i : ((l.length : Int) == 4) = false := by simp; omega
        have H4 := Lib.hid h4
        clear h4
        go_wp2
        go_ret
        rw [HN.out, decide_eq_false H4.out]
        exact ⟨rfl, rfl⟩
end Go.Proofs.Ytcpchdbhpcebeaa
