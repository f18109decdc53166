/-
  LeastStore: both sides.
-/
import Derived.Test.YtbjiipicbcamnaaTankI
import Derived.Test.YtbjiipicbcamnaaMost
namespace Go.Proofs.Ytbjiipicbcamnaa
open Go.RowKit

def leastAt (l : List Tk) (fl : Int) : Nat → Int
  | 0 => 0
  | k + 1 => maxI (leastAt l fl k) (((k : Int) + 1) * fl - brought l (60 * ((k : Int) + 1)))
def leastStore (l : List Tk) (fl s : Int) : Int × Bool :=
  if okL l && inB fl 1 6000 && inB s 0 36000 then (if leastAt l fl (s / 60).toNat ≤ 100000 then (leastAt l fl (s / 60).toNat, true) else (0, false)) else (0, false)
theorem leastAt_bd {l : List Tk} (h : okL l = true) {fl : Int} (h0 : 0 ≤ fl) (h1 : fl ≤ 6000) : ∀ k : Nat, k ≤ 600 → 0 ≤ leastAt l fl k ∧ leastAt l fl k ≤ 3600000 := by
  intro k
  induction k with
  | zero => intro _; simp [leastAt]
  | succ k ih =>
    intro hk
    have h2 := ih (by omega)
    have h3 := brought_bd h (s := 60 * ((k : Int) + 1)) (by omega)
    have h4 := mul_bd (a := (k : Int) + 1) (b := fl) (A := 600) (B := 6000) (by omega) (by omega) h0 h1
    unfold leastAt maxI
    split <;> omega
theorem shSecond_c (n : Int) (w : World) :
    Calls Try.prog 30 #[.int .i64 n] w fun e w' => e = .returned (.bool (inB n 0 36000)) ∧ w = w' := by
  go_enter Try.func30, Try.ntmps30
  go_wp2_with (go_at_call 58; refine (l1In_c _ _ _ _).mono ?_; rintro e w' ⟨rfl, rfl⟩)
  go_ret
  exact ⟨rfl, rfl⟩

set_option maxRecDepth 100000 in
set_option maxHeartbeats 1000000 in
theorem leastStoreS_c (v : Value) (l : List Tk) (fl s : Int) (w : World) (hr : Rd w v l.length (l.flatMap Tk.cells)) :
    Calls Try.prog 16 #[v, .int .i64 fl, .int .i64 s] w fun en w' => en = .returned (.tuple #[.int .i64 (leastStore l fl s).1, .bool (leastStore l fl s).2]) ∧ Below w.heap.size w w' := by
  have HR := Lib.hid hr
  clear hr
  by_cases h : okL l && inB fl 1 6000 && inB s 0 36000
  · have hE : Hid (leastStore l fl s = if leastAt l fl (s / 60).toNat ≤ 100000 then (leastAt l fl (s / 60).toNat, true) else (0, false)) := Lib.hid (by unfold leastStore; rw [if_pos h])
    simp only [Bool.and_eq_true] at h
    obtain ⟨⟨h1, h2⟩, h3⟩ := h
    obtain ⟨b2, b2'⟩ := inB_true h2
    obtain ⟨b3, b3'⟩ := inB_true h3
    have HO := Lib.hid h1
    have HB := Lib.hid (leastAt_bd HO.out (by omega) b2')
    obtain ⟨M, hM⟩ : ∃ M : Nat, (s / 60).toNat = M := ⟨_, rfl⟩
    rw [hM] at hE
    have hM1 : 60 * (M : Int) ≤ s := by omega
    have hM2 : s < 60 * (M : Int) + 60 := by omega
    have hM3 : M ≤ 600 := by omega
    clear hM
    go_enter Try.func16, Try.ntmps16
    go_wp2_with (first | (go_at_call 29; refine (shAll_c _ l _ HR.out).mono ?_; rintro e w' ⟨rfl, hb1⟩) | (go_at_call 47; refine (shFlow_c _ _).mono ?_; rintro e w' ⟨rfl, rfl⟩) | (go_at_call 30; refine (shSecond_c _ _).mono ?_; rintro e w' ⟨rfl, rfl⟩))
    go_loopw [8, 9] (fun a i wr => ∃ k : Nat, k ≤ M ∧ i = .int .i64 (k + 1) ∧ a = .int .i64 (leastAt l fl k) ∧ Below w.heap.size w wr) (fun _ i _ => 601 - (intOf i).toNat)
    case atStart => exact ⟨0, Nat.zero_le _, rfl, rfl, by assumption⟩
    case round =>
      obtain ⟨k, hk, rfl, rfl, hb⟩ := hrel
      by_cases hlt : k < M
      · have hmul := mul_bd (a := (k : Int) + 1) (b := fl) (A := 600) (B := 6000) (by omega) (by omega) (by omega) (by omega)
        obtain ⟨_, _⟩ := hmul
        obtain ⟨_, _⟩ := brought_bd HO.out (s := 60 * ((k : Int) + 1)) (by omega)
        have HC : Hid (leastAt l fl (k + 1) = maxI (leastAt l fl k) (((k : Int) + 1) * fl - brought l (60 * ((k : Int) + 1)))) := Lib.hid rfl
        go_wp2_with (first | (go_at_call 49; refine (shBrought_c _ l _ _ (rd_below HR.out hb) HO.out (by omega) (by omega)).mono ?_; rintro e w' ⟨rfl, hb1⟩) | (go_at_call 48; refine (l1Most_c _ _ _).mono ?_; rintro e w' ⟨rfl, rfl⟩))
        all_goals
          refine ⟨⟨k + 1, by omega, by go_num, ?_, bel_then hb hb1⟩, by simp [intOf]; omega⟩
          rw [HC.out]
          skip
      · obtain ⟨z0, z1⟩ := HB.out k (by omega)
        obtain rfl : k = M := by omega
        go_wp2_with (go_at_call 50; refine (shStore_c _ _).mono ?_; rintro e w' ⟨rfl, rfl⟩)
        all_goals
          go_ret2
          refine ⟨?_, hb⟩
          rw [hE.out]
          first | (have hh : inB (leastAt l fl k) 0 100000 = false := (by simp_all); rw [if_neg (by intro hc; rw [inB_of z0 hc] at hh; cases hh)]; rfl) | (have hh : inB (leastAt l fl k) 0 100000 = true := (by simp_all); rw [if_pos (inB_true hh).2]; rfl)
  · have H := Lib.hid h
    clear h
    go_enter Try.func16, Try.ntmps16
    go_wp2_with (first | (go_at_call 29; refine (shAll_c _ l _ HR.out).mono ?_; rintro e w' ⟨rfl, hb1⟩) | (go_at_call 47; refine (shFlow_c _ _).mono ?_; rintro e w' ⟨rfl, rfl⟩) | (go_at_call 30; refine (shSecond_c _ _).mono ?_; rintro e w' ⟨rfl, rfl⟩))
    all_goals first
      | (exfalso; have := H.out; simp_all; done)
      | (go_ret2; exact ⟨by unfold leastStore; rw [if_neg H.out]; rfl, by assumption⟩)

set_option maxRecDepth 100000 in
set_option maxHeartbeats 1000000 in
theorem leastStoreI_c (v : Value) (l : List Tk) (fl s : Int) (w : World) (hr : Rd w v l.length (l.flatMap Tk.cells)) :
    Calls Try.prog 15 #[v, .int .i64 fl, .int .i64 s] w fun en w' => en = .returned (.tuple #[.int .i64 (leastStore l fl s).1, .bool (leastStore l fl s).2]) ∧ Below w.heap.size w w' := by
  have HR := Lib.hid hr
  clear hr
  by_cases h : okL l && inB fl 1 6000 && inB s 0 36000
  · have hE : Hid (leastStore l fl s = if leastAt l fl (s / 60).toNat ≤ 100000 then (leastAt l fl (s / 60).toNat, true) else (0, false)) := Lib.hid (by unfold leastStore; rw [if_pos h])
    simp only [Bool.and_eq_true] at h
    obtain ⟨⟨h1, h2⟩, h3⟩ := h
    obtain ⟨b2, b2'⟩ := inB_true h2
    obtain ⟨b3, b3'⟩ := inB_true h3
    have HO := Lib.hid h1
    have HB := Lib.hid (leastAt_bd HO.out (by omega) b2')
    obtain ⟨M, hM⟩ : ∃ M : Nat, (s / 60).toNat = M := ⟨_, rfl⟩
    rw [hM] at hE
    have hM1 : 60 * (M : Int) ≤ s := by omega
    have hM2 : s < 60 * (M : Int) + 60 := by omega
    have hM3 : M ≤ 600 := by omega
    clear hM
    go_enter Try.func15, Try.ntmps15
    go_wp2_with (first | (go_at_call 34; refine (areTankers_c _ l _ HR.out).mono ?_; rintro e w' ⟨rfl, hb1⟩) | (go_at_call 35; refine (inside_c _ _ _ _).mono ?_; rintro e w' ⟨rfl, rfl⟩))
    go_loopw [8, 9] (fun a i wr => ∃ k : Nat, k ≤ M ∧ i = .int .i64 (k + 1) ∧ a = .int .i64 (leastAt l fl k) ∧ Below w.heap.size w wr) (fun _ i _ => 601 - (intOf i).toNat)
    case atStart => exact ⟨0, Nat.zero_le _, rfl, rfl, by assumption⟩
    case round =>
      obtain ⟨k, hk, rfl, rfl, hb⟩ := hrel
      by_cases hlt : k < M
      · have hmul := mul_bd (a := (k : Int) + 1) (b := fl) (A := 600) (B := 6000) (by omega) (by omega) (by omega) (by omega)
        obtain ⟨_, _⟩ := hmul
        obtain ⟨_, _⟩ := brought_bd HO.out (s := 60 * ((k : Int) + 1)) (by omega)
        have HC : Hid (leastAt l fl (k + 1) = maxI (leastAt l fl k) (((k : Int) + 1) * fl - brought l (60 * ((k : Int) + 1)))) := Lib.hid rfl
        go_wp2_with (first | (go_at_call 46; refine (deliveredBy_c _ l _ _ (rd_below HR.out hb) HO.out (by omega) (by omega)).mono ?_; rintro e w' ⟨rfl, hb1⟩))
        all_goals
          refine ⟨⟨k + 1, by omega, by go_num, ?_, bel_then hb hb1⟩, by simp [intOf]; omega⟩
          rw [HC.out]
          rw [maxI_eq]; exact congrArg (Value.int .i64) (by omega)
      · obtain ⟨z0, z1⟩ := HB.out k (by omega)
        obtain rfl : k = M := by omega
        go_wp2
        all_goals
          go_ret2
          refine ⟨?_, hb⟩
          rw [hE.out]
          first | (rw [if_neg (by omega)]; rfl) | (rw [if_pos (by omega)]; rfl)
  · have H := Lib.hid h
    clear h
    go_enter Try.func15, Try.ntmps15
    go_wp2_with (first | (go_at_call 34; refine (areTankers_c _ l _ HR.out).mono ?_; rintro e w' ⟨rfl, hb1⟩) | (go_at_call 35; refine (inside_c _ _ _ _).mono ?_; rintro e w' ⟨rfl, rfl⟩))
    all_goals first
      | (exfalso; have := H.out; simp_all; done)
      | (go_ret2; exact ⟨by unfold leastStore; rw [if_neg H.out]; rfl, by assumption⟩)
end Go.Proofs.Ytbjiipicbcamnaa
