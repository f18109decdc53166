/-
  Ladders and windows: which windows are reached from a place, on both sides.
-/
import Derived.Test.YtibkadkodblefaaDoorLadR
import Derived.Test.YtibkadkodblefaaDoorLadC
import Derived.Test.YtibkadkodblefaaDoorLadF
import Derived.Test.YtibkadkodblefaaDoorWn
namespace Go.Proofs.YtibkadkodblefaaDoor
open Go.RowKit Go.Maps

noncomputable def rootN (q : Nat) : Nat := Classical.choose (isRoot_ex q)
theorem rootN_is (q : Nat) : IsRoot (q : Int) (rootN q) := Classical.choose_spec (isRoot_ex q)
def wn1 (t : Wn) : Bool := inB t.al 0 600 && inB t.up 0 600
def wnOk (l : List Wn) : Bool := l.all wn1 && decide (l.length ≤ 12)
def sqW (wall place al : Int) : Int := wall * wall + (al - place) * (al - place)
noncomputable def winP (F : Pts) (wall place : Int) (l : List Wn) (i : Nat) : Bool :=
  match l[i]? with
  | some t => decide (rootN (sqW wall place t.al).toNat ≤ 600) && decide (0 < F (rootN (sqW wall place t.al).toNat) t.up)
  | none => false
theorem winP_at {F : Pts} {wall place : Int} {l : List Wn} {i : Nat} {al up : Int} (h : l[i]? = some ⟨al, up⟩) : winP F wall place l i = (decide (rootN (sqW wall place al).toNat ≤ 600) && decide (0 < F (rootN (sqW wall place al).toNat) up)) := by
  unfold winP; rw [h]
theorem sq_bd {a A : Int} (h : -A ≤ a) (k : a ≤ A) (hA : 0 ≤ A) : 0 ≤ a * a ∧ a * a ≤ A * A := by
  rcases (show 0 ≤ a ∨ a ≤ 0 by omega) with h0 | h0
  · exact ⟨Int.mul_nonneg h0 h0, Int.mul_le_mul k k h0 hA⟩
  · have : a * a = (-a) * (-a) := by rw [Int.neg_mul_neg]
    rw [this]
    exact ⟨Int.mul_nonneg (by omega) (by omega), Int.mul_le_mul (by omega) (by omega) (by omega) hA⟩
theorem wnOk_true {l : List Wn} (h : wnOk l = true) : (∀ t ∈ l, (0 ≤ t.al ∧ t.al ≤ 600) ∧ 0 ≤ t.up ∧ t.up ≤ 600) ∧ l.length ≤ 12 := by
  unfold wnOk at h
  rw [Bool.and_eq_true, List.all_eq_true] at h
  refine ⟨fun t ht => ?_, of_decide_eq_true h.2⟩
  have := h.1 t ht
  unfold wn1 at this
  rw [Bool.and_eq_true] at this
  exact ⟨inB_true this.1, inB_true this.2⟩
set_option maxRecDepth 100000 in
set_option maxHeartbeats 1000000 in
theorem areWindows_c (v : Value) (l : List Wn) (w : World) (hr : Rd w v l.length (l.flatMap Wn.cells)) :
    Calls Tryd.prog 68 #[v] w fun e w' => e = .returned (.bool (wnOk l)) ∧ Below w.heap.size w w' := by
  obtain ⟨A, c, rfl, hc, hm, hr⟩ := hr
  rw [maxLen_eq] at hm
  have HR := Lib.hid hr
  clear hr
  go_enter Tryd.func68, Tryd.ntmps68
  go_wp2
  go_loopw [7] (fun v7 wr => ∃ k : Nat, k ≤ l.length ∧ v7 = .int .i64 k ∧ Hid ((l.take k).all wn1 = true) ∧ Hid (Below w.heap.size w wr)) (fun v7 _ => l.length - (intOf v7).toNat)
  case atStart => exact ⟨0, Nat.zero_le _, rfl, Lib.hid rfl, Lib.hid (Below.refl _ _)⟩
  case round =>
    obtain ⟨k, hk, rfl, HA, HB⟩ := hrel
    obtain ⟨wA, rfl⟩ : ∃ wA : World, wA = wr := ⟨_, rfl⟩
    by_cases hlt : k < l.length
    · obtain ⟨b, off, rfl, hbl, hcell⟩ := HR.out (by omega)
      obtain ⟨al, up, hx, c0, c1⟩ := wn_at' hcell HB.out hbl hlt
      have HX := Lib.hid hx
      clear hx hcell
      have i0 : (0 : Int) ≤ (k : Int) := Int.natCast_nonneg _
      have i1 : (k : Int) < (l.length : Int) := by omega
      by_cases h1 : inB al 0 600 = true
      · by_cases h2 : inB up 0 600 = true
        · have HA2 : Hid ((l.take (k + 1)).all wn1 = true) := Lib.hid (by rw [all_take_succ HX.out, HA.out]; unfold wn1; rw [h1, h2]; rfl)
          go_wp2_with (go_at_call 57; refine (inside_c _ _ _ _).mono ?_; rintro e w' ⟨rfl, rfl⟩)
          exact ⟨⟨k + 1, by omega, by go_num, HA2, Lib.hid (bel_al HB.out _)⟩, by simp [intOf]; omega⟩
        · have h2' : inB up 0 600 = false := by simpa using h2
          have HF : Hid (wnOk l = false) := Lib.hid (by unfold wnOk; rw [all_false_at HX.out (by unfold wn1; rw [h2', Bool.and_false])]; rfl)
          go_wp2_with (go_at_call 57; refine (inside_c _ _ _ _).mono ?_; rintro e w' ⟨rfl, rfl⟩)
          go_ret
          rw [HF.out]
          exact ⟨rfl, bel_al HB.out _⟩
      · have h1' : inB al 0 600 = false := by simpa using h1
        have HF : Hid (wnOk l = false) := Lib.hid (by unfold wnOk; rw [all_false_at HX.out (by unfold wn1; rw [h1', Bool.false_and])]; rfl)
        go_wp2_with (go_at_call 57; refine (inside_c _ _ _ _).mono ?_; rintro e w' ⟨rfl, rfl⟩)
        go_ret
        rw [HF.out]
        exact ⟨rfl, bel_al HB.out _⟩
    · obtain rfl : k = l.length := by omega
      have HF : Hid (wnOk l = decide ((l.length : Int) ≤ 12)) := Lib.hid (by
        have h := HA.out
        rw [List.take_length] at h
        unfold wnOk; rw [h, Bool.true_and, decide_eq_decide]; omega)
      go_wp2
      go_ret
      rw [HF.out]
      exact ⟨rfl, HB.out⟩
set_option maxRecDepth 100000 in
set_option maxHeartbeats 1000000 in
theorem laWindows_c (v : Value) (l : List Wn) (w : World) (hr : Rd w v l.length (l.flatMap Wn.cells)) :
    Calls Tryd.prog 65 #[v] w fun e w' => e = .returned (.bool (wnOk l)) ∧ Below w.heap.size w w' := by
  obtain ⟨A, c, rfl, hc, hm, hr⟩ := hr
  rw [maxLen_eq] at hm
  have HR := Lib.hid hr
  clear hr
  go_enter Tryd.func65, Tryd.ntmps65
  go_wp2
  go_loopw [7] (fun v7 wr => ∃ k : Nat, k ≤ l.length ∧ v7 = .int .i64 k ∧ Hid ((l.take k).all wn1 = true) ∧ Hid (Below w.heap.size w wr)) (fun v7 _ => l.length - (intOf v7).toNat)
  case atStart => exact ⟨0, Nat.zero_le _, rfl, Lib.hid rfl, Lib.hid (Below.refl _ _)⟩
  case round =>
    obtain ⟨k, hk, rfl, HA, HB⟩ := hrel
    obtain ⟨wA, rfl⟩ : ∃ wA : World, wA = wr := ⟨_, rfl⟩
    by_cases hlt : k < l.length
    · obtain ⟨b, off, rfl, hbl, hcell⟩ := HR.out (by omega)
      obtain ⟨al, up, hx, c0, c1⟩ := wn_at' hcell HB.out hbl hlt
      have HX := Lib.hid hx
      clear hx hcell
      have i0 : (0 : Int) ≤ (k : Int) := Int.natCast_nonneg _
      have i1 : (k : Int) < (l.length : Int) := by omega
      by_cases h1 : inB al 0 600 = true
      · by_cases h2 : inB up 0 600 = true
        · have HA2 : Hid ((l.take (k + 1)).all wn1 = true) := Lib.hid (by rw [all_take_succ HX.out, HA.out]; unfold wn1; rw [h1, h2]; rfl)
          go_wp2_with (go_at_call 59; refine (laPoint_c _ _).mono ?_; rintro e w' ⟨rfl, rfl⟩)
          exact ⟨⟨k + 1, by omega, by go_num, HA2, Lib.hid (bel_al HB.out _)⟩, by simp [intOf]; omega⟩
        · have h2' : inB up 0 600 = false := by simpa using h2
          have HF : Hid (wnOk l = false) := Lib.hid (by unfold wnOk; rw [all_false_at HX.out (by unfold wn1; rw [h2', Bool.and_false])]; rfl)
          go_wp2_with (go_at_call 59; refine (laPoint_c _ _).mono ?_; rintro e w' ⟨rfl, rfl⟩)
          go_ret
          rw [HF.out]
          exact ⟨rfl, bel_al HB.out _⟩
      · have h1' : inB al 0 600 = false := by simpa using h1
        have HF : Hid (wnOk l = false) := Lib.hid (by unfold wnOk; rw [all_false_at HX.out (by unfold wn1; rw [h1', Bool.false_and])]; rfl)
        go_wp2_with (go_at_call 59; refine (laPoint_c _ _).mono ?_; rintro e w' ⟨rfl, rfl⟩)
        go_ret
        rw [HF.out]
        exact ⟨rfl, bel_al HB.out _⟩
    · obtain rfl : k = l.length := by omega
      have HF : Hid (wnOk l = decide ((l.length : Int) ≤ 12)) := Lib.hid (by
        have h := HA.out
        rw [List.take_length] at h
        unfold wnOk; rw [h, Bool.true_and, decide_eq_decide]; omega)
      go_wp2
      go_ret
      rw [HF.out]
      exact ⟨rfl, HB.out⟩
set_option maxRecDepth 100000 in
set_option maxHeartbeats 1000000 in
theorem laRoot_c (q : Int) (r : Nat) (w : World) (hr : IsRoot q r) (hq : 0 ≤ q ∧ q ≤ 3999999) :
    Calls Tryd.prog 90 #[.int .i64 q] w fun e w' => e = .returned (.int .i64 r) ∧ w = w' := by
  have hr2 : r ≤ 1999 := isRoot_le hr (by omega)
  have HR := Lib.hid hr
  clear hr
  go_enter Tryd.func90, Tryd.ntmps90
  go_wp2_with fail
  go_loopw [3, 4] (fun v3 v4 wr => ∃ a b : Nat, v3 = .int .i64 a ∧ v4 = .int .i64 b ∧ a ≤ r ∧ r < b ∧ b ≤ 2000 ∧ w = wr) (fun v3 v4 _ => (intOf v4 - intOf v3).toNat)
  case atStart => exact ⟨0, 2000, rfl, rfl, Nat.zero_le _, by omega, Nat.le_refl _, rfl⟩
  case round =>
    obtain ⟨a, b, rfl, rfl, ha, hb, hb2, rfl⟩ := hrel
    have e1 : IntKind.i64.wrap ((b : Int) - (a : Int)) = (b : Int) - (a : Int) := IntWalk.i64_in _ (by omega)
    by_cases hlt : 1 < (b : Int) - (a : Int)
    · obtain ⟨m, hm⟩ : ∃ m : Nat, (a + b) / 2 = m := ⟨_, rfl⟩
      have hm0 : a < m ∧ m < b := by omega
      have e2 : IntKind.i64.wrap ((a : Int) + (b : Int)) = (a : Int) + (b : Int) := IntWalk.i64_in _ (by omega)
      have e3 : IntKind.i64.wrap (((a : Int) + (b : Int)).tdiv 2) = (m : Int) := by rw [Int.tdiv_eq_ediv_of_nonneg (by omega), IntWalk.i64_in _ (by omega)]; omega
      have hmm := mul_bd (a := (m : Int)) (b := (m : Int)) (A := 2000) (B := 2000) (by omega) (by omega) (by omega) (by omega)
      have e4 : IntKind.i64.wrap ((m : Int) * (m : Int)) = (m : Int) * (m : Int) := IntWalk.i64_in _ (by omega)
      have hsq := root_sq HR.out (k := m)
      obtain ⟨p, hp⟩ : ∃ p, (m : Int) * (m : Int) = p := ⟨_, rfl⟩
      rw [hp] at hsq
      have e5 : IntKind.i64.wrap ((m : Int) * (m : Int)) = p := by rw [e4, hp]
      have HM := Lib.hid hm0
      clear hmm hp hm hm0 e4
      by_cases hle : p ≤ q
      · have hmr : m ≤ r := hsq.1 hle
        clear hsq
        go_wp2
        exact ⟨⟨m, b, rfl, rfl, hmr, hb, hb2, (by first | rfl | trivial)⟩, by have := HM.out; simp [intOf]; omega⟩
      · have hmr : r < m := by
          rcases Nat.lt_or_ge r m with h | h
          · exact h
          · exact absurd (hsq.2 h) hle
        have hle2 : q < p := by omega
        clear hsq
        go_wp2
        exact ⟨⟨a, m, rfl, rfl, ha, hmr, by have := HM.out; omega, (by first | rfl | trivial)⟩, by have := HM.out; simp [intOf]; omega⟩
    · have hle : (b : Int) - (a : Int) ≤ 1 := by omega
      obtain rfl : a = r := by omega
      go_wp2
      go_ret
      exact ⟨rfl, rfl⟩
end Go.Proofs.YtibkadkodblefaaDoor
