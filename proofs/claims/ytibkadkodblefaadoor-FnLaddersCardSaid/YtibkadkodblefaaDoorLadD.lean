/-
  Ladders: CanReach and AngleFor on both sides.
-/
import Derived.Test.YtibkadkodblefaaDoorLadR
import Derived.Test.YtibkadkodblefaaDoorLadC
namespace Go.Proofs.YtibkadkodblefaaDoor
open Go.RowKit Go.Maps


def canReachV (b l o s m x y : Int) : Bool × Bool := if ladOk b l o s m = true ∧ inB x 0 600 = true ∧ inB y 0 600 = true then ((angF b o l.toNat s.toNat m.toNat x y).isSome, true) else (false, false)
theorem canReachV_no0 {b l o s m x y : Int} (h : ladOk b l o s m = false) : canReachV b l o s m x y = (false, false) := by unfold canReachV; rw [if_neg (fun k => by rw [h] at k; exact absurd k.1 (by simp))]
theorem canReachV_no1 {b l o s m x y : Int} (h : inB x 0 600 = false) : canReachV b l o s m x y = (false, false) := by unfold canReachV; rw [if_neg (fun k => by rw [h] at k; exact absurd k.2.1 (by simp))]
theorem canReachV_no2 {b l o s m x y : Int} (h : inB y 0 600 = false) : canReachV b l o s m x y = (false, false) := by unfold canReachV; rw [if_neg (fun k => by rw [h] at k; exact absurd k.2.2 (by simp))]
theorem canReachV_yes {b o x y : Int} {L S M : Nat} (h : ladOk b L o S M = true) (k0 : inB x 0 600 = true) (k1 : inB y 0 600 = true) : canReachV b L o S M x y = ((angF b o L S M x y).isSome, true) := by unfold canReachV; rw [if_pos ⟨h, k0, k1⟩]; simp only [Int.toNat_natCast]
def angR (r : Option Nat) : Int × Bool := match r with | some a => ((a : Int), true) | none => (0, false)
def angleForV (b l o s m x y : Int) : Int × Bool := if ladOk b l o s m = true ∧ inB x 0 600 = true ∧ inB y 0 600 = true then angR (angF b o l.toNat s.toNat m.toNat x y) else (0, false)
theorem angleForV_no0 {b l o s m x y : Int} (h : ladOk b l o s m = false) : angleForV b l o s m x y = (0, false) := by unfold angleForV; rw [if_neg (fun k => by rw [h] at k; exact absurd k.1 (by simp))]
theorem angleForV_no1 {b l o s m x y : Int} (h : inB x 0 600 = false) : angleForV b l o s m x y = (0, false) := by unfold angleForV; rw [if_neg (fun k => by rw [h] at k; exact absurd k.2.1 (by simp))]
theorem angleForV_no2 {b l o s m x y : Int} (h : inB y 0 600 = false) : angleForV b l o s m x y = (0, false) := by unfold angleForV; rw [if_neg (fun k => by rw [h] at k; exact absurd k.2.2 (by simp))]
theorem angleForV_yes {b o x y : Int} {L S M : Nat} (h : ladOk b L o S M = true) (k0 : inB x 0 600 = true) (k1 : inB y 0 600 = true) : angleForV b L o S M x y = angR (angF b o L S M x y) := by unfold angleForV; rw [if_pos ⟨h, k0, k1⟩]; simp only [Int.toNat_natCast]
set_option maxRecDepth 100000 in
set_option maxHeartbeats 4000000 in
theorem canReachS_c (b l o s m x y : Int) (w : World) :
    Calls Tryd.prog 26 #[ldV b l o s m, .int .i64 x, .int .i64 y] w fun e w' => e = .returned (.tuple #[.bool (canReachV b l o s m x y).1, .bool (canReachV b l o s m x y).2]) ∧ Below w.heap.size w w' := by
  have HV : ∀ r, canReachV b l o s m x y = r → Hid (canReachV b l o s m x y = r) := fun r h => Lib.hid h
  cases hok : ladOk b l o s m with
  | false =>
    have hv := HV _ (canReachV_no0 hok)
    go_enter Tryd.func26, Tryd.ntmps26
    go_wp2_with (first | (go_at_call 53; refine (laGood_c _ _ _ _ _ _).mono ?_; rintro e w' ⟨rfl, hb1⟩; have hz1 : w.heap.size < w'.heap.size := Nat.lt_of_lt_of_le (by first | assumption | (simp; done) | (simp; assumption)) hb1.size; have k0 : w'.cell? ⟨w.heap.size, 0, none⟩ = some (.int .i64 b) := (hb1.cell (by first | assumption | (simp; done) | (simp; assumption))).trans (by first | assumption | (simp [go_sem]; done)); have k1 : w'.cell? ⟨w.heap.size, 1, none⟩ = some (.int .i64 l) := (hb1.cell (by first | assumption | (simp; done) | (simp; assumption))).trans (by first | assumption | (simp [go_sem]; done)); have k2 : w'.cell? ⟨w.heap.size, 2, none⟩ = some (.int .i64 o) := (hb1.cell (by first | assumption | (simp; done) | (simp; assumption))).trans (by first | assumption | (simp [go_sem]; done)); have k3 : w'.cell? ⟨w.heap.size, 3, none⟩ = some (.int .i64 s) := (hb1.cell (by first | assumption | (simp; done) | (simp; assumption))).trans (by first | assumption | (simp [go_sem]; done)); have k4 : w'.cell? ⟨w.heap.size, 4, none⟩ = some (.int .i64 m) := (hb1.cell (by first | assumption | (simp; done) | (simp; assumption))).trans (by first | assumption | (simp [go_sem]; done))) | (go_at_call 59; refine (laPoint_c _ _).mono ?_; rintro e w' ⟨rfl, rfl⟩))
    go_ret2
    rw [hv.out]
    exact ⟨rfl, (by repeat (first | exact Below.refl _ _ | assumption | refine bel_al ?_ _ | refine bel_dr ?_ | refine below_drewN ?_ _ | refine bel_then ?_ (by assumption)))⟩
  | true =>
    obtain ⟨b0, b1, l0, l1, o0, o1, s0, s1, m1⟩ := ladOk_true hok
    cases hp0 : inB x 0 600 with
    | false =>
      have hv := HV _ (canReachV_no1 hp0)
      go_enter Tryd.func26, Tryd.ntmps26
      go_wp2_with (first | (go_at_call 53; refine (laGood_c _ _ _ _ _ _).mono ?_; rintro e w' ⟨rfl, hb1⟩; have hz1 : w.heap.size < w'.heap.size := Nat.lt_of_lt_of_le (by first | assumption | (simp; done) | (simp; assumption)) hb1.size; have k0 : w'.cell? ⟨w.heap.size, 0, none⟩ = some (.int .i64 b) := (hb1.cell (by first | assumption | (simp; done) | (simp; assumption))).trans (by first | assumption | (simp [go_sem]; done)); have k1 : w'.cell? ⟨w.heap.size, 1, none⟩ = some (.int .i64 l) := (hb1.cell (by first | assumption | (simp; done) | (simp; assumption))).trans (by first | assumption | (simp [go_sem]; done)); have k2 : w'.cell? ⟨w.heap.size, 2, none⟩ = some (.int .i64 o) := (hb1.cell (by first | assumption | (simp; done) | (simp; assumption))).trans (by first | assumption | (simp [go_sem]; done)); have k3 : w'.cell? ⟨w.heap.size, 3, none⟩ = some (.int .i64 s) := (hb1.cell (by first | assumption | (simp; done) | (simp; assumption))).trans (by first | assumption | (simp [go_sem]; done)); have k4 : w'.cell? ⟨w.heap.size, 4, none⟩ = some (.int .i64 m) := (hb1.cell (by first | assumption | (simp; done) | (simp; assumption))).trans (by first | assumption | (simp [go_sem]; done))) | (go_at_call 59; refine (laPoint_c _ _).mono ?_; rintro e w' ⟨rfl, rfl⟩))
      go_ret2
      rw [hv.out]
      exact ⟨rfl, (by repeat (first | exact Below.refl _ _ | assumption | refine bel_al ?_ _ | refine bel_dr ?_ | refine below_drewN ?_ _ | refine bel_then ?_ (by assumption)))⟩
    | true =>
      have hq0 := inB_true hp0
      cases hp1 : inB y 0 600 with
      | false =>
        have hv := HV _ (canReachV_no2 hp1)
        go_enter Tryd.func26, Tryd.ntmps26
        go_wp2_with (first | (go_at_call 53; refine (laGood_c _ _ _ _ _ _).mono ?_; rintro e w' ⟨rfl, hb1⟩; have hz1 : w.heap.size < w'.heap.size := Nat.lt_of_lt_of_le (by first | assumption | (simp; done) | (simp; assumption)) hb1.size; have k0 : w'.cell? ⟨w.heap.size, 0, none⟩ = some (.int .i64 b) := (hb1.cell (by first | assumption | (simp; done) | (simp; assumption))).trans (by first | assumption | (simp [go_sem]; done)); have k1 : w'.cell? ⟨w.heap.size, 1, none⟩ = some (.int .i64 l) := (hb1.cell (by first | assumption | (simp; done) | (simp; assumption))).trans (by first | assumption | (simp [go_sem]; done)); have k2 : w'.cell? ⟨w.heap.size, 2, none⟩ = some (.int .i64 o) := (hb1.cell (by first | assumption | (simp; done) | (simp; assumption))).trans (by first | assumption | (simp [go_sem]; done)); have k3 : w'.cell? ⟨w.heap.size, 3, none⟩ = some (.int .i64 s) := (hb1.cell (by first | assumption | (simp; done) | (simp; assumption))).trans (by first | assumption | (simp [go_sem]; done)); have k4 : w'.cell? ⟨w.heap.size, 4, none⟩ = some (.int .i64 m) := (hb1.cell (by first | assumption | (simp; done) | (simp; assumption))).trans (by first | assumption | (simp [go_sem]; done))) | (go_at_call 59; refine (laPoint_c _ _).mono ?_; rintro e w' ⟨rfl, rfl⟩))
        go_ret2
        rw [hv.out]
        exact ⟨rfl, (by repeat (first | exact Below.refl _ _ | assumption | refine bel_al ?_ _ | refine bel_dr ?_ | refine below_drewN ?_ _ | refine bel_then ?_ (by assumption)))⟩
      | true =>
        have hq1 := inB_true hp1
        obtain ⟨L, rfl⟩ : ∃ L : Nat, l = (L : Int) := ⟨l.toNat, by omega⟩
        obtain ⟨S, rfl⟩ : ∃ S : Nat, s = (S : Int) := ⟨s.toNat, by omega⟩
        obtain ⟨M, rfl⟩ : ∃ M : Nat, m = (M : Int) := ⟨m.toNat, by omega⟩
        have hv := HV _ (canReachV_yes hok hp0 hp1)
        clear HV
        go_enter Tryd.func26, Tryd.ntmps26
        go_wp2_with (first | (go_at_call 53; refine (laGood_c _ _ _ _ _ _).mono ?_; rintro e w' ⟨rfl, hb1⟩; have hz1 : w.heap.size < w'.heap.size := Nat.lt_of_lt_of_le (by first | assumption | (simp; done) | (simp; assumption)) hb1.size; have k0 : w'.cell? ⟨w.heap.size, 0, none⟩ = some (.int .i64 b) := (hb1.cell (by first | assumption | (simp; done) | (simp; assumption))).trans (by first | assumption | (simp [go_sem]; done)); have k1 : w'.cell? ⟨w.heap.size, 1, none⟩ = some (.int .i64 (L : Int)) := (hb1.cell (by first | assumption | (simp; done) | (simp; assumption))).trans (by first | assumption | (simp [go_sem]; done)); have k2 : w'.cell? ⟨w.heap.size, 2, none⟩ = some (.int .i64 o) := (hb1.cell (by first | assumption | (simp; done) | (simp; assumption))).trans (by first | assumption | (simp [go_sem]; done)); have k3 : w'.cell? ⟨w.heap.size, 3, none⟩ = some (.int .i64 (S : Int)) := (hb1.cell (by first | assumption | (simp; done) | (simp; assumption))).trans (by first | assumption | (simp [go_sem]; done)); have k4 : w'.cell? ⟨w.heap.size, 4, none⟩ = some (.int .i64 (M : Int)) := (hb1.cell (by first | assumption | (simp; done) | (simp; assumption))).trans (by first | assumption | (simp [go_sem]; done))) | (go_at_call 59; refine (laPoint_c _ _).mono ?_; rintro e w' ⟨rfl, rfl⟩))
        have HBX : Hid (Below w.heap.size w w') := Lib.hid (bel_then (bel_al (Below.refl _ _) _) hb1)
        refine (laAngle_c b o L S M x y _ ⟨b0, b1⟩ (by omega) ⟨o0, o1⟩ (by omega) (by omega) hq0 hq1).mono ?_; rintro e w2 ⟨rfl, hb2⟩
        have HB2 := Lib.hid (bel_then HBX.out hb2)
        clear hb2
        obtain ⟨r, hr⟩ : ∃ r, angF b o L S M x y = r := ⟨_, rfl⟩
        rw [hr] at hv ⊢
        clear hr
        cases r with
        | none =>
          have e0 : (angI none : Int) = -1 := rfl
          rw [e0]
          go_wp2
          go_ret2
          rw [hv.out]
          exact ⟨rfl, HB2.out⟩
        | some a =>
          have e0 : (angI (some a) : Int) = (a : Int) := rfl
          rw [e0]
          have i0 : (0 : Int) ≤ (a : Int) := Int.natCast_nonneg _
          go_wp2
          go_ret2
          rw [hv.out]
          exact ⟨rfl, HB2.out⟩
set_option maxRecDepth 100000 in
set_option maxHeartbeats 4000000 in
theorem canReachI_c (b l o s m x y : Int) (w : World) (ht : SinTab w) :
    Calls Tryd.prog 27 #[ldV b l o s m, .int .i64 x, .int .i64 y] w fun e w' => e = .returned (.tuple #[.bool (canReachV b l o s m x y).1, .bool (canReachV b l o s m x y).2]) ∧ Below w.heap.size w w' := by
  have HV : ∀ r, canReachV b l o s m x y = r → Hid (canReachV b l o s m x y = r) := fun r h => Lib.hid h
  cases hok : ladOk b l o s m with
  | false =>
    have hv := HV _ (canReachV_no0 hok)
    go_enter Tryd.func27, Tryd.ntmps27
    go_wp2_with (first | (go_at_call 56; refine (isLadder_c _ _ _ _ _ _).mono ?_; rintro e w' ⟨rfl, hb1⟩; have hz1 : w.heap.size < w'.heap.size := Nat.lt_of_lt_of_le (by first | assumption | (simp; done) | (simp; assumption)) hb1.size; have k0 : w'.cell? ⟨w.heap.size, 0, none⟩ = some (.int .i64 b) := (hb1.cell (by first | assumption | (simp; done) | (simp; assumption))).trans (by first | assumption | (simp [go_sem]; done)); have k1 : w'.cell? ⟨w.heap.size, 1, none⟩ = some (.int .i64 l) := (hb1.cell (by first | assumption | (simp; done) | (simp; assumption))).trans (by first | assumption | (simp [go_sem]; done)); have k2 : w'.cell? ⟨w.heap.size, 2, none⟩ = some (.int .i64 o) := (hb1.cell (by first | assumption | (simp; done) | (simp; assumption))).trans (by first | assumption | (simp [go_sem]; done)); have k3 : w'.cell? ⟨w.heap.size, 3, none⟩ = some (.int .i64 s) := (hb1.cell (by first | assumption | (simp; done) | (simp; assumption))).trans (by first | assumption | (simp [go_sem]; done)); have k4 : w'.cell? ⟨w.heap.size, 4, none⟩ = some (.int .i64 m) := (hb1.cell (by first | assumption | (simp; done) | (simp; assumption))).trans (by first | assumption | (simp [go_sem]; done))) | (go_at_call 57; refine (inside_c _ _ _ _).mono ?_; rintro e w' ⟨rfl, rfl⟩))
    go_ret2
    rw [hv.out]
    exact ⟨rfl, (by repeat (first | exact Below.refl _ _ | assumption | refine bel_al ?_ _ | refine bel_dr ?_ | refine below_drewN ?_ _ | refine bel_then ?_ (by assumption)))⟩
  | true =>
    obtain ⟨b0, b1, l0, l1, o0, o1, s0, s1, m1⟩ := ladOk_true hok
    cases hp0 : inB x 0 600 with
    | false =>
      have hv := HV _ (canReachV_no1 hp0)
      go_enter Tryd.func27, Tryd.ntmps27
      go_wp2_with (first | (go_at_call 56; refine (isLadder_c _ _ _ _ _ _).mono ?_; rintro e w' ⟨rfl, hb1⟩; have hz1 : w.heap.size < w'.heap.size := Nat.lt_of_lt_of_le (by first | assumption | (simp; done) | (simp; assumption)) hb1.size; have k0 : w'.cell? ⟨w.heap.size, 0, none⟩ = some (.int .i64 b) := (hb1.cell (by first | assumption | (simp; done) | (simp; assumption))).trans (by first | assumption | (simp [go_sem]; done)); have k1 : w'.cell? ⟨w.heap.size, 1, none⟩ = some (.int .i64 l) := (hb1.cell (by first | assumption | (simp; done) | (simp; assumption))).trans (by first | assumption | (simp [go_sem]; done)); have k2 : w'.cell? ⟨w.heap.size, 2, none⟩ = some (.int .i64 o) := (hb1.cell (by first | assumption | (simp; done) | (simp; assumption))).trans (by first | assumption | (simp [go_sem]; done)); have k3 : w'.cell? ⟨w.heap.size, 3, none⟩ = some (.int .i64 s) := (hb1.cell (by first | assumption | (simp; done) | (simp; assumption))).trans (by first | assumption | (simp [go_sem]; done)); have k4 : w'.cell? ⟨w.heap.size, 4, none⟩ = some (.int .i64 m) := (hb1.cell (by first | assumption | (simp; done) | (simp; assumption))).trans (by first | assumption | (simp [go_sem]; done))) | (go_at_call 57; refine (inside_c _ _ _ _).mono ?_; rintro e w' ⟨rfl, rfl⟩))
      go_ret2
      rw [hv.out]
      exact ⟨rfl, (by repeat (first | exact Below.refl _ _ | assumption | refine bel_al ?_ _ | refine bel_dr ?_ | refine below_drewN ?_ _ | refine bel_then ?_ (by assumption)))⟩
    | true =>
      have hq0 := inB_true hp0
      cases hp1 : inB y 0 600 with
      | false =>
        have hv := HV _ (canReachV_no2 hp1)
        go_enter Tryd.func27, Tryd.ntmps27
        go_wp2_with (first | (go_at_call 56; refine (isLadder_c _ _ _ _ _ _).mono ?_; rintro e w' ⟨rfl, hb1⟩; have hz1 : w.heap.size < w'.heap.size := Nat.lt_of_lt_of_le (by first | assumption | (simp; done) | (simp; assumption)) hb1.size; have k0 : w'.cell? ⟨w.heap.size, 0, none⟩ = some (.int .i64 b) := (hb1.cell (by first | assumption | (simp; done) | (simp; assumption))).trans (by first | assumption | (simp [go_sem]; done)); have k1 : w'.cell? ⟨w.heap.size, 1, none⟩ = some (.int .i64 l) := (hb1.cell (by first | assumption | (simp; done) | (simp; assumption))).trans (by first | assumption | (simp [go_sem]; done)); have k2 : w'.cell? ⟨w.heap.size, 2, none⟩ = some (.int .i64 o) := (hb1.cell (by first | assumption | (simp; done) | (simp; assumption))).trans (by first | assumption | (simp [go_sem]; done)); have k3 : w'.cell? ⟨w.heap.size, 3, none⟩ = some (.int .i64 s) := (hb1.cell (by first | assumption | (simp; done) | (simp; assumption))).trans (by first | assumption | (simp [go_sem]; done)); have k4 : w'.cell? ⟨w.heap.size, 4, none⟩ = some (.int .i64 m) := (hb1.cell (by first | assumption | (simp; done) | (simp; assumption))).trans (by first | assumption | (simp [go_sem]; done))) | (go_at_call 57; refine (inside_c _ _ _ _).mono ?_; rintro e w' ⟨rfl, rfl⟩))
        go_ret2
        rw [hv.out]
        exact ⟨rfl, (by repeat (first | exact Below.refl _ _ | assumption | refine bel_al ?_ _ | refine bel_dr ?_ | refine below_drewN ?_ _ | refine bel_then ?_ (by assumption)))⟩
      | true =>
        have hq1 := inB_true hp1
        obtain ⟨L, rfl⟩ : ∃ L : Nat, l = (L : Int) := ⟨l.toNat, by omega⟩
        obtain ⟨S, rfl⟩ : ∃ S : Nat, s = (S : Int) := ⟨s.toNat, by omega⟩
        obtain ⟨M, rfl⟩ : ∃ M : Nat, m = (M : Int) := ⟨m.toNat, by omega⟩
        have hv := HV _ (canReachV_yes hok hp0 hp1)
        clear HV
        have HT := Lib.hid ht
        clear ht
        go_enter Tryd.func27, Tryd.ntmps27
        go_wp2_with (first | (go_at_call 56; refine (isLadder_c _ _ _ _ _ _).mono ?_; rintro e w' ⟨rfl, hb1⟩; have hz1 : w.heap.size < w'.heap.size := Nat.lt_of_lt_of_le (by first | assumption | (simp; done) | (simp; assumption)) hb1.size; have k0 : w'.cell? ⟨w.heap.size, 0, none⟩ = some (.int .i64 b) := (hb1.cell (by first | assumption | (simp; done) | (simp; assumption))).trans (by first | assumption | (simp [go_sem]; done)); have k1 : w'.cell? ⟨w.heap.size, 1, none⟩ = some (.int .i64 (L : Int)) := (hb1.cell (by first | assumption | (simp; done) | (simp; assumption))).trans (by first | assumption | (simp [go_sem]; done)); have k2 : w'.cell? ⟨w.heap.size, 2, none⟩ = some (.int .i64 o) := (hb1.cell (by first | assumption | (simp; done) | (simp; assumption))).trans (by first | assumption | (simp [go_sem]; done)); have k3 : w'.cell? ⟨w.heap.size, 3, none⟩ = some (.int .i64 (S : Int)) := (hb1.cell (by first | assumption | (simp; done) | (simp; assumption))).trans (by first | assumption | (simp [go_sem]; done)); have k4 : w'.cell? ⟨w.heap.size, 4, none⟩ = some (.int .i64 (M : Int)) := (hb1.cell (by first | assumption | (simp; done) | (simp; assumption))).trans (by first | assumption | (simp [go_sem]; done))) | (go_at_call 57; refine (inside_c _ _ _ _).mono ?_; rintro e w' ⟨rfl, rfl⟩))
        have HBX : Hid (Below w.heap.size w w') := Lib.hid (bel_then (bel_al (Below.refl _ _) _) hb1)
        refine (reach_c b o L S M _ ⟨b0, b1⟩ (by omega) ⟨o0, o1⟩ (by omega) (by omega) (sinTab_below HT.out HBX.out)).mono ?_; rintro e w2 ⟨B, n, D, rfl, hB, hn, hM, hD, hb2⟩
        have HB2 := Lib.hid (bel_then HBX.out hb2)
        have HM := Lib.hid hM
        have HD := Lib.hid hD
        clear hM hD hb2
        have HKX := Lib.hid (wf_sm (x := x) (by omega))
        have HKY := Lib.hid (wf_sm (x := y) (by omega))
        have HPA := Lib.hid (ptAll_at b o L S M x y)
        obtain ⟨r, hr⟩ : ∃ r, angF b o L S M x y = r := ⟨_, rfl⟩
        rw [hr] at hv HPA
        clear hr
        have hsub : ∀ a : Nat, r = some a → (a : Int) ≤ 1000 := fun a h => by have := ptV_lt (b := b) (o := o) (L := L) (s := S) (m := M) (x := x) (y := y) (by omega); rw [← ptAll_at, HPA.out, h] at this; simp only [ptV] at this; omega
        have HSUB := Lib.hid hsub
        clear hsub
        cases r with
        | none =>
          go_wp2_with (at_lookup; refine wpList_lookup_own_int _ rfl _ _ 74 rfl 76 3 .i64 pt_keyed Tryd.underlying74 Tryd.underlying3 (zero_int _) B n D rfl HM.out (ptA x y) (ptK x y) rfl (keyOf_pt HKX.out HKY.out) ?_; intro c hat _; obtain rfl : c = 0 := (ptsD_at HD.out (by omega) (by omega) hat).trans HPA.out; clear hat)
          go_ret2
          rw [hv.out]
          exact ⟨rfl, HB2.out⟩
        | some a =>
          have ha := HSUB.out a rfl
          have i0 : (0 : Int) < (a : Int) + 1 := by omega
          have i1 : (0 : Int) ≤ (a : Int) := by omega
          have e1 : IntKind.i64.wrap ((a : Int) + 1 - 1) = (a : Int) := by rw [IntWalk.i64_in _ (by omega)]; omega
          have e2 : max (a : Int) 0 = (a : Int) := by omega
          go_wp2_with (at_lookup; refine wpList_lookup_own_int _ rfl _ _ 74 rfl 76 3 .i64 pt_keyed Tryd.underlying74 Tryd.underlying3 (zero_int _) B n D rfl HM.out (ptA x y) (ptK x y) rfl (keyOf_pt HKX.out HKY.out) ?_; intro c hat _; obtain rfl : c = (a : Int) + 1 := (ptsD_at HD.out (by omega) (by omega) hat).trans HPA.out; clear hat)
          go_ret2
          rw [hv.out]
          exact ⟨rfl, HB2.out⟩
set_option maxRecDepth 100000 in
set_option maxHeartbeats 4000000 in
theorem angleForS_c (b l o s m x y : Int) (w : World) :
    Calls Tryd.prog 28 #[ldV b l o s m, .int .i64 x, .int .i64 y] w fun e w' => e = .returned (.tuple #[.int .i64 (angleForV b l o s m x y).1, .bool (angleForV b l o s m x y).2]) ∧ Below w.heap.size w w' := by
  have HV : ∀ r, angleForV b l o s m x y = r → Hid (angleForV b l o s m x y = r) := fun r h => Lib.hid h
  cases hok : ladOk b l o s m with
  | false =>
    have hv := HV _ (angleForV_no0 hok)
    go_enter Tryd.func28, Tryd.ntmps28
    go_wp2_with (first | (go_at_call 53; refine (laGood_c _ _ _ _ _ _).mono ?_; rintro e w' ⟨rfl, hb1⟩; have hz1 : w.heap.size < w'.heap.size := Nat.lt_of_lt_of_le (by first | assumption | (simp; done) | (simp; assumption)) hb1.size; have k0 : w'.cell? ⟨w.heap.size, 0, none⟩ = some (.int .i64 b) := (hb1.cell (by first | assumption | (simp; done) | (simp; assumption))).trans (by first | assumption | (simp [go_sem]; done)); have k1 : w'.cell? ⟨w.heap.size, 1, none⟩ = some (.int .i64 l) := (hb1.cell (by first | assumption | (simp; done) | (simp; assumption))).trans (by first | assumption | (simp [go_sem]; done)); have k2 : w'.cell? ⟨w.heap.size, 2, none⟩ = some (.int .i64 o) := (hb1.cell (by first | assumption | (simp; done) | (simp; assumption))).trans (by first | assumption | (simp [go_sem]; done)); have k3 : w'.cell? ⟨w.heap.size, 3, none⟩ = some (.int .i64 s) := (hb1.cell (by first | assumption | (simp; done) | (simp; assumption))).trans (by first | assumption | (simp [go_sem]; done)); have k4 : w'.cell? ⟨w.heap.size, 4, none⟩ = some (.int .i64 m) := (hb1.cell (by first | assumption | (simp; done) | (simp; assumption))).trans (by first | assumption | (simp [go_sem]; done))) | (go_at_call 59; refine (laPoint_c _ _).mono ?_; rintro e w' ⟨rfl, rfl⟩))
    go_ret2
    rw [hv.out]
    exact ⟨rfl, (by repeat (first | exact Below.refl _ _ | assumption | refine bel_al ?_ _ | refine bel_dr ?_ | refine below_drewN ?_ _ | refine bel_then ?_ (by assumption)))⟩
  | true =>
    obtain ⟨b0, b1, l0, l1, o0, o1, s0, s1, m1⟩ := ladOk_true hok
    cases hp0 : inB x 0 600 with
    | false =>
      have hv := HV _ (angleForV_no1 hp0)
      go_enter Tryd.func28, Tryd.ntmps28
      go_wp2_with (first | (go_at_call 53; refine (laGood_c _ _ _ _ _ _).mono ?_; rintro e w' ⟨rfl, hb1⟩; have hz1 : w.heap.size < w'.heap.size := Nat.lt_of_lt_of_le (by first | assumption | (simp; done) | (simp; assumption)) hb1.size; have k0 : w'.cell? ⟨w.heap.size, 0, none⟩ = some (.int .i64 b) := (hb1.cell (by first | assumption | (simp; done) | (simp; assumption))).trans (by first | assumption | (simp [go_sem]; done)); have k1 : w'.cell? ⟨w.heap.size, 1, none⟩ = some (.int .i64 l) := (hb1.cell (by first | assumption | (simp; done) | (simp; assumption))).trans (by first | assumption | (simp [go_sem]; done)); have k2 : w'.cell? ⟨w.heap.size, 2, none⟩ = some (.int .i64 o) := (hb1.cell (by first | assumption | (simp; done) | (simp; assumption))).trans (by first | assumption | (simp [go_sem]; done)); have k3 : w'.cell? ⟨w.heap.size, 3, none⟩ = some (.int .i64 s) := (hb1.cell (by first | assumption | (simp; done) | (simp; assumption))).trans (by first | assumption | (simp [go_sem]; done)); have k4 : w'.cell? ⟨w.heap.size, 4, none⟩ = some (.int .i64 m) := (hb1.cell (by first | assumption | (simp; done) | (simp; assumption))).trans (by first | assumption | (simp [go_sem]; done))) | (go_at_call 59; refine (laPoint_c _ _).mono ?_; rintro e w' ⟨rfl, rfl⟩))
      go_ret2
      rw [hv.out]
      exact ⟨rfl, (by repeat (first | exact Below.refl _ _ | assumption | refine bel_al ?_ _ | refine bel_dr ?_ | refine below_drewN ?_ _ | refine bel_then ?_ (by assumption)))⟩
    | true =>
      have hq0 := inB_true hp0
      cases hp1 : inB y 0 600 with
      | false =>
        have hv := HV _ (angleForV_no2 hp1)
        go_enter Tryd.func28, Tryd.ntmps28
        go_wp2_with (first | (go_at_call 53; refine (laGood_c _ _ _ _ _ _).mono ?_; rintro e w' ⟨rfl, hb1⟩; have hz1 : w.heap.size < w'.heap.size := Nat.lt_of_lt_of_le (by first | assumption | (simp; done) | (simp; assumption)) hb1.size; have k0 : w'.cell? ⟨w.heap.size, 0, none⟩ = some (.int .i64 b) := (hb1.cell (by first | assumption | (simp; done) | (simp; assumption))).trans (by first | assumption | (simp [go_sem]; done)); have k1 : w'.cell? ⟨w.heap.size, 1, none⟩ = some (.int .i64 l) := (hb1.cell (by first | assumption | (simp; done) | (simp; assumption))).trans (by first | assumption | (simp [go_sem]; done)); have k2 : w'.cell? ⟨w.heap.size, 2, none⟩ = some (.int .i64 o) := (hb1.cell (by first | assumption | (simp; done) | (simp; assumption))).trans (by first | assumption | (simp [go_sem]; done)); have k3 : w'.cell? ⟨w.heap.size, 3, none⟩ = some (.int .i64 s) := (hb1.cell (by first | assumption | (simp; done) | (simp; assumption))).trans (by first | assumption | (simp [go_sem]; done)); have k4 : w'.cell? ⟨w.heap.size, 4, none⟩ = some (.int .i64 m) := (hb1.cell (by first | assumption | (simp; done) | (simp; assumption))).trans (by first | assumption | (simp [go_sem]; done))) | (go_at_call 59; refine (laPoint_c _ _).mono ?_; rintro e w' ⟨rfl, rfl⟩))
        go_ret2
        rw [hv.out]
        exact ⟨rfl, (by repeat (first | exact Below.refl _ _ | assumption | refine bel_al ?_ _ | refine bel_dr ?_ | refine below_drewN ?_ _ | refine bel_then ?_ (by assumption)))⟩
      | true =>
        have hq1 := inB_true hp1
        obtain ⟨L, rfl⟩ : ∃ L : Nat, l = (L : Int) := ⟨l.toNat, by omega⟩
        obtain ⟨S, rfl⟩ : ∃ S : Nat, s = (S : Int) := ⟨s.toNat, by omega⟩
        obtain ⟨M, rfl⟩ : ∃ M : Nat, m = (M : Int) := ⟨m.toNat, by omega⟩
        have hv := HV _ (angleForV_yes hok hp0 hp1)
        clear HV
        go_enter Tryd.func28, Tryd.ntmps28
        go_wp2_with (first | (go_at_call 53; refine (laGood_c _ _ _ _ _ _).mono ?_; rintro e w' ⟨rfl, hb1⟩; have hz1 : w.heap.size < w'.heap.size := Nat.lt_of_lt_of_le (by first | assumption | (simp; done) | (simp; assumption)) hb1.size; have k0 : w'.cell? ⟨w.heap.size, 0, none⟩ = some (.int .i64 b) := (hb1.cell (by first | assumption | (simp; done) | (simp; assumption))).trans (by first | assumption | (simp [go_sem]; done)); have k1 : w'.cell? ⟨w.heap.size, 1, none⟩ = some (.int .i64 (L : Int)) := (hb1.cell (by first | assumption | (simp; done) | (simp; assumption))).trans (by first | assumption | (simp [go_sem]; done)); have k2 : w'.cell? ⟨w.heap.size, 2, none⟩ = some (.int .i64 o) := (hb1.cell (by first | assumption | (simp; done) | (simp; assumption))).trans (by first | assumption | (simp [go_sem]; done)); have k3 : w'.cell? ⟨w.heap.size, 3, none⟩ = some (.int .i64 (S : Int)) := (hb1.cell (by first | assumption | (simp; done) | (simp; assumption))).trans (by first | assumption | (simp [go_sem]; done)); have k4 : w'.cell? ⟨w.heap.size, 4, none⟩ = some (.int .i64 (M : Int)) := (hb1.cell (by first | assumption | (simp; done) | (simp; assumption))).trans (by first | assumption | (simp [go_sem]; done))) | (go_at_call 59; refine (laPoint_c _ _).mono ?_; rintro e w' ⟨rfl, rfl⟩))
        have HBX : Hid (Below w.heap.size w w') := Lib.hid (bel_then (bel_al (Below.refl _ _) _) hb1)
        refine (laAngle_c b o L S M x y _ ⟨b0, b1⟩ (by omega) ⟨o0, o1⟩ (by omega) (by omega) hq0 hq1).mono ?_; rintro e w2 ⟨rfl, hb2⟩
        have HB2 := Lib.hid (bel_then HBX.out hb2)
        clear hb2
        obtain ⟨r, hr⟩ : ∃ r, angF b o L S M x y = r := ⟨_, rfl⟩
        rw [hr] at hv ⊢
        clear hr
        cases r with
        | none =>
          have e0 : (angI none : Int) = -1 := rfl
          rw [e0]
          go_wp2
          go_ret2
          rw [hv.out]
          exact ⟨rfl, HB2.out⟩
        | some a =>
          have e0 : (angI (some a) : Int) = (a : Int) := rfl
          rw [e0]
          have i0 : (0 : Int) ≤ (a : Int) := Int.natCast_nonneg _
          go_wp2
          go_ret2
          rw [hv.out]
          exact ⟨rfl, HB2.out⟩
set_option maxRecDepth 100000 in
set_option maxHeartbeats 4000000 in
theorem angleForI_c (b l o s m x y : Int) (w : World) (ht : SinTab w) :
    Calls Tryd.prog 29 #[ldV b l o s m, .int .i64 x, .int .i64 y] w fun e w' => e = .returned (.tuple #[.int .i64 (angleForV b l o s m x y).1, .bool (angleForV b l o s m x y).2]) ∧ Below w.heap.size w w' := by
  have HV : ∀ r, angleForV b l o s m x y = r → Hid (angleForV b l o s m x y = r) := fun r h => Lib.hid h
  cases hok : ladOk b l o s m with
  | false =>
    have hv := HV _ (angleForV_no0 hok)
    go_enter Tryd.func29, Tryd.ntmps29
    go_wp2_with (first | (go_at_call 56; refine (isLadder_c _ _ _ _ _ _).mono ?_; rintro e w' ⟨rfl, hb1⟩; have hz1 : w.heap.size < w'.heap.size := Nat.lt_of_lt_of_le (by first | assumption | (simp; done) | (simp; assumption)) hb1.size; have k0 : w'.cell? ⟨w.heap.size, 0, none⟩ = some (.int .i64 b) := (hb1.cell (by first | assumption | (simp; done) | (simp; assumption))).trans (by first | assumption | (simp [go_sem]; done)); have k1 : w'.cell? ⟨w.heap.size, 1, none⟩ = some (.int .i64 l) := (hb1.cell (by first | assumption | (simp; done) | (simp; assumption))).trans (by first | assumption | (simp [go_sem]; done)); have k2 : w'.cell? ⟨w.heap.size, 2, none⟩ = some (.int .i64 o) := (hb1.cell (by first | assumption | (simp; done) | (simp; assumption))).trans (by first | assumption | (simp [go_sem]; done)); have k3 : w'.cell? ⟨w.heap.size, 3, none⟩ = some (.int .i64 s) := (hb1.cell (by first | assumption | (simp; done) | (simp; assumption))).trans (by first | assumption | (simp [go_sem]; done)); have k4 : w'.cell? ⟨w.heap.size, 4, none⟩ = some (.int .i64 m) := (hb1.cell (by first | assumption | (simp; done) | (simp; assumption))).trans (by first | assumption | (simp [go_sem]; done))) | (go_at_call 57; refine (inside_c _ _ _ _).mono ?_; rintro e w' ⟨rfl, rfl⟩))
    go_ret2
    rw [hv.out]
    exact ⟨rfl, (by repeat (first | exact Below.refl _ _ | assumption | refine bel_al ?_ _ | refine bel_dr ?_ | refine below_drewN ?_ _ | refine bel_then ?_ (by assumption)))⟩
  | true =>
    obtain ⟨b0, b1, l0, l1, o0, o1, s0, s1, m1⟩ := ladOk_true hok
    cases hp0 : inB x 0 600 with
    | false =>
      have hv := HV _ (angleForV_no1 hp0)
      go_enter Tryd.func29, Tryd.ntmps29
      go_wp2_with (first | (go_at_call 56; refine (isLadder_c _ _ _ _ _ _).mono ?_; rintro e w' ⟨rfl, hb1⟩; have hz1 : w.heap.size < w'.heap.size := Nat.lt_of_lt_of_le (by first | assumption | (simp; done) | (simp; assumption)) hb1.size; have k0 : w'.cell? ⟨w.heap.size, 0, none⟩ = some (.int .i64 b) := (hb1.cell (by first | assumption | (simp; done) | (simp; assumption))).trans (by first | assumption | (simp [go_sem]; done)); have k1 : w'.cell? ⟨w.heap.size, 1, none⟩ = some (.int .i64 l) := (hb1.cell (by first | assumption | (simp; done) | (simp; assumption))).trans (by first | assumption | (simp [go_sem]; done)); have k2 : w'.cell? ⟨w.heap.size, 2, none⟩ = some (.int .i64 o) := (hb1.cell (by first | assumption | (simp; done) | (simp; assumption))).trans (by first | assumption | (simp [go_sem]; done)); have k3 : w'.cell? ⟨w.heap.size, 3, none⟩ = some (.int .i64 s) := (hb1.cell (by first | assumption | (simp; done) | (simp; assumption))).trans (by first | assumption | (simp [go_sem]; done)); have k4 : w'.cell? ⟨w.heap.size, 4, none⟩ = some (.int .i64 m) := (hb1.cell (by first | assumption | (simp; done) | (simp; assumption))).trans (by first | assumption | (simp [go_sem]; done))) | (go_at_call 57; refine (inside_c _ _ _ _).mono ?_; rintro e w' ⟨rfl, rfl⟩))
      go_ret2
      rw [hv.out]
      exact ⟨rfl, (by repeat (first | exact Below.refl _ _ | assumption | refine bel_al ?_ _ | refine bel_dr ?_ | refine below_drewN ?_ _ | refine bel_then ?_ (by assumption)))⟩
    | true =>
      have hq0 := inB_true hp0
      cases hp1 : inB y 0 600 with
      | false =>
        have hv := HV _ (angleForV_no2 hp1)
        go_enter Tryd.func29, Tryd.ntmps29
        go_wp2_with (first | (go_at_call 56; refine (isLadder_c _ _ _ _ _ _).mono ?_; rintro e w' ⟨rfl, hb1⟩; have hz1 : w.heap.size < w'.heap.size := Nat.lt_of_lt_of_le (by first | assumption | (simp; done) | (simp; assumption)) hb1.size; have k0 : w'.cell? ⟨w.heap.size, 0, none⟩ = some (.int .i64 b) := (hb1.cell (by first | assumption | (simp; done) | (simp; assumption))).trans (by first | assumption | (simp [go_sem]; done)); have k1 : w'.cell? ⟨w.heap.size, 1, none⟩ = some (.int .i64 l) := (hb1.cell (by first | assumption | (simp; done) | (simp; assumption))).trans (by first | assumption | (simp [go_sem]; done)); have k2 : w'.cell? ⟨w.heap.size, 2, none⟩ = some (.int .i64 o) := (hb1.cell (by first | assumption | (simp; done) | (simp; assumption))).trans (by first | assumption | (simp [go_sem]; done)); have k3 : w'.cell? ⟨w.heap.size, 3, none⟩ = some (.int .i64 s) := (hb1.cell (by first | assumption | (simp; done) | (simp; assumption))).trans (by first | assumption | (simp [go_sem]; done)); have k4 : w'.cell? ⟨w.heap.size, 4, none⟩ = some (.int .i64 m) := (hb1.cell (by first | assumption | (simp; done) | (simp; assumption))).trans (by first | assumption | (simp [go_sem]; done))) | (go_at_call 57; refine (inside_c _ _ _ _).mono ?_; rintro e w' ⟨rfl, rfl⟩))
        go_ret2
        rw [hv.out]
        exact ⟨rfl, (by repeat (first | exact Below.refl _ _ | assumption | refine bel_al ?_ _ | refine bel_dr ?_ | refine below_drewN ?_ _ | refine bel_then ?_ (by assumption)))⟩
      | true =>
        have hq1 := inB_true hp1
        obtain ⟨L, rfl⟩ : ∃ L : Nat, l = (L : Int) := ⟨l.toNat, by omega⟩
        obtain ⟨S, rfl⟩ : ∃ S : Nat, s = (S : Int) := ⟨s.toNat, by omega⟩
        obtain ⟨M, rfl⟩ : ∃ M : Nat, m = (M : Int) := ⟨m.toNat, by omega⟩
        have hv := HV _ (angleForV_yes hok hp0 hp1)
        clear HV
        have HT := Lib.hid ht
        clear ht
        go_enter Tryd.func29, Tryd.ntmps29
        go_wp2_with (first | (go_at_call 56; refine (isLadder_c _ _ _ _ _ _).mono ?_; rintro e w' ⟨rfl, hb1⟩; have hz1 : w.heap.size < w'.heap.size := Nat.lt_of_lt_of_le (by first | assumption | (simp; done) | (simp; assumption)) hb1.size; have k0 : w'.cell? ⟨w.heap.size, 0, none⟩ = some (.int .i64 b) := (hb1.cell (by first | assumption | (simp; done) | (simp; assumption))).trans (by first | assumption | (simp [go_sem]; done)); have k1 : w'.cell? ⟨w.heap.size, 1, none⟩ = some (.int .i64 (L : Int)) := (hb1.cell (by first | assumption | (simp; done) | (simp; assumption))).trans (by first | assumption | (simp [go_sem]; done)); have k2 : w'.cell? ⟨w.heap.size, 2, none⟩ = some (.int .i64 o) := (hb1.cell (by first | assumption | (simp; done) | (simp; assumption))).trans (by first | assumption | (simp [go_sem]; done)); have k3 : w'.cell? ⟨w.heap.size, 3, none⟩ = some (.int .i64 (S : Int)) := (hb1.cell (by first | assumption | (simp; done) | (simp; assumption))).trans (by first | assumption | (simp [go_sem]; done)); have k4 : w'.cell? ⟨w.heap.size, 4, none⟩ = some (.int .i64 (M : Int)) := (hb1.cell (by first | assumption | (simp; done) | (simp; assumption))).trans (by first | assumption | (simp [go_sem]; done))) | (go_at_call 57; refine (inside_c _ _ _ _).mono ?_; rintro e w' ⟨rfl, rfl⟩))
        have HBX : Hid (Below w.heap.size w w') := Lib.hid (bel_then (bel_al (Below.refl _ _) _) hb1)
        refine (reach_c b o L S M _ ⟨b0, b1⟩ (by omega) ⟨o0, o1⟩ (by omega) (by omega) (sinTab_below HT.out HBX.out)).mono ?_; rintro e w2 ⟨B, n, D, rfl, hB, hn, hM, hD, hb2⟩
        have HB2 := Lib.hid (bel_then HBX.out hb2)
        have HM := Lib.hid hM
        have HD := Lib.hid hD
        clear hM hD hb2
        have HKX := Lib.hid (wf_sm (x := x) (by omega))
        have HKY := Lib.hid (wf_sm (x := y) (by omega))
        have HPA := Lib.hid (ptAll_at b o L S M x y)
        obtain ⟨r, hr⟩ : ∃ r, angF b o L S M x y = r := ⟨_, rfl⟩
        rw [hr] at hv HPA
        clear hr
        have hsub : ∀ a : Nat, r = some a → (a : Int) ≤ 1000 := fun a h => by have := ptV_lt (b := b) (o := o) (L := L) (s := S) (m := M) (x := x) (y := y) (by omega); rw [← ptAll_at, HPA.out, h] at this; simp only [ptV] at this; omega
        have HSUB := Lib.hid hsub
        clear hsub
        cases r with
        | none =>
          go_wp2_with (at_lookup; refine wpList_lookup_own_int _ rfl _ _ 74 rfl 76 3 .i64 pt_keyed Tryd.underlying74 Tryd.underlying3 (zero_int _) B n D rfl HM.out (ptA x y) (ptK x y) rfl (keyOf_pt HKX.out HKY.out) ?_; intro c hat _; obtain rfl : c = 0 := (ptsD_at HD.out (by omega) (by omega) hat).trans HPA.out; clear hat)
          go_ret2
          rw [hv.out]
          exact ⟨rfl, HB2.out⟩
        | some a =>
          have ha := HSUB.out a rfl
          have i0 : (0 : Int) < (a : Int) + 1 := by omega
          have i1 : (0 : Int) ≤ (a : Int) := by omega
          have e1 : IntKind.i64.wrap ((a : Int) + 1 - 1) = (a : Int) := by rw [IntWalk.i64_in _ (by omega)]; omega
          have e2 : max (a : Int) 0 = (a : Int) := by omega
          go_wp2_with (at_lookup; refine wpList_lookup_own_int _ rfl _ _ 74 rfl 76 3 .i64 pt_keyed Tryd.underlying74 Tryd.underlying3 (zero_int _) B n D rfl HM.out (ptA x y) (ptK x y) rfl (keyOf_pt HKX.out HKY.out) ?_; intro c hat _; obtain rfl : c = (a : Int) + 1 := (ptsD_at HD.out (by omega) (by omega) hat).trans HPA.out; clear hat)
          go_ret2
          rw [hv.out]
          exact ⟨rfl, HB2.out⟩
end Go.Proofs.YtibkadkodblefaaDoor
