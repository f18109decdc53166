/-
  Ladders: TipOf on both sides.
-/
import Derived.Test.YtibkadkodblefaaDoorLadA
namespace Go.Proofs.YtibkadkodblefaaDoor
open Go.RowKit

set_option maxRecDepth 100000 in
set_option maxHeartbeats 2000000 in
theorem laTip_c (b l o s m : Int) (a n : Nat) (w : World) (hb : 0 ≤ b ∧ b ≤ 40) (ha : a ≤ 90) (hn : n ≤ 600) :
    Calls Tryd.prog 55 #[ldV b l o s m, .int .i64 a, .int .i64 n] w fun en w' => en = .returned (.tuple #[.int .i64 (tipL n (sn (90 - a))), .int .i64 (b + tipL n (sn a))]) ∧ Below w.heap.size w w' := by
  obtain ⟨p1, y1, f1⟩ := tip_facts (n := n) (a := a) ha hn
  obtain ⟨p2, y2, f2⟩ := tip_facts (n := n) (a := 90 - a) (by omega) hn
  obtain ⟨q, hq⟩ : ∃ q : Nat, 90 - a = q := ⟨_, rfl⟩
  rw [hq] at f2
  have hq90 : q ≤ 90 := by omega
  have e3 : IntKind.i64.wrap (90 - (a : Int)) = (q : Int) := by rw [IntWalk.i64_in _ (by omega)]; omega
  obtain ⟨g1, g2, g3, g4, g5⟩ := f1
  obtain ⟨k1, k2, k3, k4, k5⟩ := f2
  rw [hq, ← g3, ← k3]
  have e5 : IntKind.i64.wrap (b + y1) = b + y1 := IntWalk.i64_in _ (by omega)
  have i1 : (0 : Int) ≤ (a : Int) := Int.natCast_nonneg _
  have i2 : (0 : Int) ≤ (q : Int) := Int.natCast_nonneg _
  have i3 : (a : Int) < 91 := by omega
  have i4 : (q : Int) < 91 := by omega
  have HQ := Lib.hid hq
  clear g3 k3 hq
  go_enter Tryd.func55, Tryd.ntmps55
  go_wp2_with fail
  (generalize hw1 : World.alloc w _ = w1; have k0 : w1.cell? ⟨w.heap.size, 0, none⟩ = some (.int .i64 b) := (by subst hw1; simp [go_sem]); have k1 : w1.cell? ⟨w.heap.size, 1, none⟩ = some (.int .i64 l) := (by subst hw1; simp [go_sem]); have k2 : w1.cell? ⟨w.heap.size, 2, none⟩ = some (.int .i64 o) := (by subst hw1; simp [go_sem]); have k3 : w1.cell? ⟨w.heap.size, 3, none⟩ = some (.int .i64 s) := (by subst hw1; simp [go_sem]); have k4 : w1.cell? ⟨w.heap.size, 4, none⟩ = some (.int .i64 m) := (by subst hw1; simp [go_sem]); have hb0 : Below w.heap.size w w1 := (by subst hw1; exact bel_al (Below.refl _ _) _); have hsz1 : w.heap.size < w1.heap.size := (by subst hw1; simp); clear hw1)
  have HB0 := Lib.hid hb0
  refine (laSines_c _).mono ?_; rintro e w2 ⟨v, rfl, ho, hb2⟩
  have j0 := (hb2.cell (p := ⟨w.heap.size, 0, none⟩) (by show w.heap.size < _; omega)).trans k0
  have HB2 := Lib.hid (bel_then HB0.out hb2)
  obtain ⟨g, off, c, rfl, hc, hcm, hg, c1, c2⟩ := sin_cells (rdi_own ho) ha
  rw [HQ.out] at c2
  clear hb0 hb2 ho
  go_wp2_with fail
  go_region
  go_wp2
  go_ret2
  exact ⟨rfl, below_drewN HB2.out _⟩
def tipOfV (b l o s m a n : Int) : Int × Int × Bool :=
  if ladOk b l o s m = true ∧ inB a s m = true ∧ inB n 0 l = true then (tipL n.toNat (sn (90 - a.toNat)), b + tipL n.toNat (sn a.toNat), true) else (0, 0, false)
theorem tipOfV_no1 {b l o s m a n : Int} (h : ladOk b l o s m = false) : tipOfV b l o s m a n = (0, 0, false) := by unfold tipOfV; rw [if_neg (fun k => by rw [h] at k; exact absurd k.1 (by simp))]
theorem tipOfV_no2 {b l o s m a n : Int} (h : inB a s m = false) : tipOfV b l o s m a n = (0, 0, false) := by unfold tipOfV; rw [if_neg (fun k => by rw [h] at k; exact absurd k.2.1 (by simp))]
theorem tipOfV_no3 {b l o s m a n : Int} (h : inB n 0 l = false) : tipOfV b l o s m a n = (0, 0, false) := by unfold tipOfV; rw [if_neg (fun k => by rw [h] at k; exact absurd k.2.2 (by simp))]
theorem tipOfV_yes {b l o s m : Int} {a n : Nat} (h : ladOk b l o s m = true) (k : inB (a : Int) s m = true) (j : inB (n : Int) 0 l = true) : tipOfV b l o s m a n = (tipL n (sn (90 - a)), b + tipL n (sn a), true) := by unfold tipOfV; rw [if_pos ⟨h, k, j⟩]; simp only [Int.toNat_natCast]
set_option maxRecDepth 100000 in
set_option maxHeartbeats 4000000 in
theorem tipOfS_c (b l o s m a n : Int) (w : World) :
    Calls Tryd.prog 19 #[ldV b l o s m, .int .i64 a, .int .i64 n] w fun en w' => en = .returned (.tuple #[.int .i64 (tipOfV b l o s m a n).1, .int .i64 (tipOfV b l o s m a n).2.1, .bool (tipOfV b l o s m a n).2.2]) ∧ Below w.heap.size w w' := by
  have HV : ∀ r : Int × Int × Bool, tipOfV b l o s m a n = r → Hid (tipOfV b l o s m a n = r) := fun r h => Lib.hid h
  cases hok : ladOk b l o s m with
  | false =>
    have hv := HV _ (tipOfV_no1 hok)
    go_enter Tryd.func19, Tryd.ntmps19
    go_wp2_with (first | (go_at_call 53; refine (laGood_c _ _ _ _ _ _).mono ?_; rintro e w' ⟨rfl, hb1⟩; have hz1 : w.heap.size < w'.heap.size := Nat.lt_of_lt_of_le (by first | assumption | (simp; done) | (simp; assumption)) hb1.size; have k0 : w'.cell? ⟨w.heap.size, 0, none⟩ = some (.int .i64 b) := (hb1.cell (by first | assumption | (simp; done) | (simp; assumption))).trans (by first | assumption | (simp [go_sem]; done)); have k1 : w'.cell? ⟨w.heap.size, 1, none⟩ = some (.int .i64 l) := (hb1.cell (by first | assumption | (simp; done) | (simp; assumption))).trans (by first | assumption | (simp [go_sem]; done)); have k2 : w'.cell? ⟨w.heap.size, 2, none⟩ = some (.int .i64 o) := (hb1.cell (by first | assumption | (simp; done) | (simp; assumption))).trans (by first | assumption | (simp [go_sem]; done)); have k3 : w'.cell? ⟨w.heap.size, 3, none⟩ = some (.int .i64 s) := (hb1.cell (by first | assumption | (simp; done) | (simp; assumption))).trans (by first | assumption | (simp [go_sem]; done)); have k4 : w'.cell? ⟨w.heap.size, 4, none⟩ = some (.int .i64 m) := (hb1.cell (by first | assumption | (simp; done) | (simp; assumption))).trans (by first | assumption | (simp [go_sem]; done))))
    go_ret3
    rw [hv.out]
    exact ⟨rfl, (by repeat (first | exact Below.refl _ _ | assumption | refine bel_al ?_ _ | refine bel_dr ?_ | refine below_drewN ?_ _ | refine bel_then ?_ (by assumption)))⟩
  | true =>
    obtain ⟨b0, b1, l0, l1, o0, o1, s0, s1, m1⟩ := ladOk_true hok
    cases ha : inB a s m with
    | false =>
      have hv := HV _ (tipOfV_no2 ha)
      go_enter Tryd.func19, Tryd.ntmps19
      go_wp2_with (first | (go_at_call 53; refine (laGood_c _ _ _ _ _ _).mono ?_; rintro e w' ⟨rfl, hb1⟩; have hz1 : w.heap.size < w'.heap.size := Nat.lt_of_lt_of_le (by first | assumption | (simp; done) | (simp; assumption)) hb1.size; have k0 : w'.cell? ⟨w.heap.size, 0, none⟩ = some (.int .i64 b) := (hb1.cell (by first | assumption | (simp; done) | (simp; assumption))).trans (by first | assumption | (simp [go_sem]; done)); have k1 : w'.cell? ⟨w.heap.size, 1, none⟩ = some (.int .i64 l) := (hb1.cell (by first | assumption | (simp; done) | (simp; assumption))).trans (by first | assumption | (simp [go_sem]; done)); have k2 : w'.cell? ⟨w.heap.size, 2, none⟩ = some (.int .i64 o) := (hb1.cell (by first | assumption | (simp; done) | (simp; assumption))).trans (by first | assumption | (simp [go_sem]; done)); have k3 : w'.cell? ⟨w.heap.size, 3, none⟩ = some (.int .i64 s) := (hb1.cell (by first | assumption | (simp; done) | (simp; assumption))).trans (by first | assumption | (simp [go_sem]; done)); have k4 : w'.cell? ⟨w.heap.size, 4, none⟩ = some (.int .i64 m) := (hb1.cell (by first | assumption | (simp; done) | (simp; assumption))).trans (by first | assumption | (simp [go_sem]; done))) | (go_at_call 54; refine (l1In_c _ _ _ _).mono ?_; rintro e w' ⟨rfl, rfl⟩))
      go_ret3
      rw [hv.out]
      exact ⟨rfl, (by repeat (first | exact Below.refl _ _ | assumption | refine bel_al ?_ _ | refine bel_dr ?_ | refine below_drewN ?_ _ | refine bel_then ?_ (by assumption)))⟩
    | true =>
      cases hn : inB n 0 l with
      | false =>
        have hv := HV _ (tipOfV_no3 hn)
        go_enter Tryd.func19, Tryd.ntmps19
        go_wp2_with (first | (go_at_call 53; refine (laGood_c _ _ _ _ _ _).mono ?_; rintro e w' ⟨rfl, hb1⟩; have hz1 : w.heap.size < w'.heap.size := Nat.lt_of_lt_of_le (by first | assumption | (simp; done) | (simp; assumption)) hb1.size; have k0 : w'.cell? ⟨w.heap.size, 0, none⟩ = some (.int .i64 b) := (hb1.cell (by first | assumption | (simp; done) | (simp; assumption))).trans (by first | assumption | (simp [go_sem]; done)); have k1 : w'.cell? ⟨w.heap.size, 1, none⟩ = some (.int .i64 l) := (hb1.cell (by first | assumption | (simp; done) | (simp; assumption))).trans (by first | assumption | (simp [go_sem]; done)); have k2 : w'.cell? ⟨w.heap.size, 2, none⟩ = some (.int .i64 o) := (hb1.cell (by first | assumption | (simp; done) | (simp; assumption))).trans (by first | assumption | (simp [go_sem]; done)); have k3 : w'.cell? ⟨w.heap.size, 3, none⟩ = some (.int .i64 s) := (hb1.cell (by first | assumption | (simp; done) | (simp; assumption))).trans (by first | assumption | (simp [go_sem]; done)); have k4 : w'.cell? ⟨w.heap.size, 4, none⟩ = some (.int .i64 m) := (hb1.cell (by first | assumption | (simp; done) | (simp; assumption))).trans (by first | assumption | (simp [go_sem]; done))) | (go_at_call 54; refine (l1In_c _ _ _ _).mono ?_; rintro e w' ⟨rfl, rfl⟩))
        go_ret3
        rw [hv.out]
        exact ⟨rfl, (by repeat (first | exact Below.refl _ _ | assumption | refine bel_al ?_ _ | refine bel_dr ?_ | refine below_drewN ?_ _ | refine bel_then ?_ (by assumption)))⟩
      | true =>
        obtain ⟨ha0, ha1⟩ := inB_true ha
        obtain ⟨hn0, hn1⟩ := inB_true hn
        obtain ⟨A, rfl⟩ : ∃ A : Nat, a = (A : Int) := ⟨a.toNat, by omega⟩
        obtain ⟨N, rfl⟩ : ∃ N : Nat, n = (N : Int) := ⟨n.toNat, by omega⟩
        have hv := HV _ (tipOfV_yes hok ha hn)
        clear HV
        go_enter Tryd.func19, Tryd.ntmps19
        go_wp2_with (first | (go_at_call 53; refine (laGood_c _ _ _ _ _ _).mono ?_; rintro e w' ⟨rfl, hb1⟩; have hz1 : w.heap.size < w'.heap.size := Nat.lt_of_lt_of_le (by first | assumption | (simp; done) | (simp; assumption)) hb1.size; have k0 : w'.cell? ⟨w.heap.size, 0, none⟩ = some (.int .i64 b) := (hb1.cell (by first | assumption | (simp; done) | (simp; assumption))).trans (by first | assumption | (simp [go_sem]; done)); have k1 : w'.cell? ⟨w.heap.size, 1, none⟩ = some (.int .i64 l) := (hb1.cell (by first | assumption | (simp; done) | (simp; assumption))).trans (by first | assumption | (simp [go_sem]; done)); have k2 : w'.cell? ⟨w.heap.size, 2, none⟩ = some (.int .i64 o) := (hb1.cell (by first | assumption | (simp; done) | (simp; assumption))).trans (by first | assumption | (simp [go_sem]; done)); have k3 : w'.cell? ⟨w.heap.size, 3, none⟩ = some (.int .i64 s) := (hb1.cell (by first | assumption | (simp; done) | (simp; assumption))).trans (by first | assumption | (simp [go_sem]; done)); have k4 : w'.cell? ⟨w.heap.size, 4, none⟩ = some (.int .i64 m) := (hb1.cell (by first | assumption | (simp; done) | (simp; assumption))).trans (by first | assumption | (simp [go_sem]; done))) | (go_at_call 54; refine (l1In_c _ _ _ _).mono ?_; rintro e w' ⟨rfl, rfl⟩))
        refine (laTip_c b l o s m A N _ ⟨b0, b1⟩ (by omega) (by omega)).mono ?_; rintro e w2 ⟨rfl, hb2⟩
        go_wp2
        go_ret3
        rw [hv.out]
        exact ⟨rfl, (by repeat (first | exact Below.refl _ _ | assumption | refine bel_al ?_ _ | refine bel_dr ?_ | refine below_drewN ?_ _ | refine bel_then ?_ (by assumption)))⟩
set_option maxRecDepth 100000 in
set_option maxHeartbeats 4000000 in
theorem tipOfI_c (b l o s m a n : Int) (w : World) (ht : SinTab w) :
    Calls Tryd.prog 21 #[ldV b l o s m, .int .i64 a, .int .i64 n] w fun en w' => en = .returned (.tuple #[.int .i64 (tipOfV b l o s m a n).1, .int .i64 (tipOfV b l o s m a n).2.1, .bool (tipOfV b l o s m a n).2.2]) ∧ Below w.heap.size w w' := by
  have HV : ∀ r : Int × Int × Bool, tipOfV b l o s m a n = r → Hid (tipOfV b l o s m a n = r) := fun r h => Lib.hid h
  cases hok : ladOk b l o s m with
  | false =>
    have hv := HV _ (tipOfV_no1 hok)
    go_enter Tryd.func21, Tryd.ntmps21
    go_wp2_with (first | (go_at_call 56; refine (isLadder_c _ _ _ _ _ _).mono ?_; rintro e w' ⟨rfl, hb1⟩; have hz1 : w.heap.size < w'.heap.size := Nat.lt_of_lt_of_le (by first | assumption | (simp; done) | (simp; assumption)) hb1.size; have k0 : w'.cell? ⟨w.heap.size, 0, none⟩ = some (.int .i64 b) := (hb1.cell (by first | assumption | (simp; done) | (simp; assumption))).trans (by first | assumption | (simp [go_sem]; done)); have k1 : w'.cell? ⟨w.heap.size, 1, none⟩ = some (.int .i64 l) := (hb1.cell (by first | assumption | (simp; done) | (simp; assumption))).trans (by first | assumption | (simp [go_sem]; done)); have k2 : w'.cell? ⟨w.heap.size, 2, none⟩ = some (.int .i64 o) := (hb1.cell (by first | assumption | (simp; done) | (simp; assumption))).trans (by first | assumption | (simp [go_sem]; done)); have k3 : w'.cell? ⟨w.heap.size, 3, none⟩ = some (.int .i64 s) := (hb1.cell (by first | assumption | (simp; done) | (simp; assumption))).trans (by first | assumption | (simp [go_sem]; done)); have k4 : w'.cell? ⟨w.heap.size, 4, none⟩ = some (.int .i64 m) := (hb1.cell (by first | assumption | (simp; done) | (simp; assumption))).trans (by first | assumption | (simp [go_sem]; done))))
    go_ret3
    rw [hv.out]
    exact ⟨rfl, (by repeat (first | exact Below.refl _ _ | assumption | refine bel_al ?_ _ | refine bel_dr ?_ | refine below_drewN ?_ _ | refine bel_then ?_ (by assumption)))⟩
  | true =>
    obtain ⟨b0, b1, l0, l1, o0, o1, s0, s1, m1⟩ := ladOk_true hok
    cases ha : inB a s m with
    | false =>
      have hv := HV _ (tipOfV_no2 ha)
      go_enter Tryd.func21, Tryd.ntmps21
      go_wp2_with (first | (go_at_call 56; refine (isLadder_c _ _ _ _ _ _).mono ?_; rintro e w' ⟨rfl, hb1⟩; have hz1 : w.heap.size < w'.heap.size := Nat.lt_of_lt_of_le (by first | assumption | (simp; done) | (simp; assumption)) hb1.size; have k0 : w'.cell? ⟨w.heap.size, 0, none⟩ = some (.int .i64 b) := (hb1.cell (by first | assumption | (simp; done) | (simp; assumption))).trans (by first | assumption | (simp [go_sem]; done)); have k1 : w'.cell? ⟨w.heap.size, 1, none⟩ = some (.int .i64 l) := (hb1.cell (by first | assumption | (simp; done) | (simp; assumption))).trans (by first | assumption | (simp [go_sem]; done)); have k2 : w'.cell? ⟨w.heap.size, 2, none⟩ = some (.int .i64 o) := (hb1.cell (by first | assumption | (simp; done) | (simp; assumption))).trans (by first | assumption | (simp [go_sem]; done)); have k3 : w'.cell? ⟨w.heap.size, 3, none⟩ = some (.int .i64 s) := (hb1.cell (by first | assumption | (simp; done) | (simp; assumption))).trans (by first | assumption | (simp [go_sem]; done)); have k4 : w'.cell? ⟨w.heap.size, 4, none⟩ = some (.int .i64 m) := (hb1.cell (by first | assumption | (simp; done) | (simp; assumption))).trans (by first | assumption | (simp [go_sem]; done))) | (go_at_call 57; refine (inside_c _ _ _ _).mono ?_; rintro e w' ⟨rfl, rfl⟩))
      go_ret3
      rw [hv.out]
      exact ⟨rfl, (by repeat (first | exact Below.refl _ _ | assumption | refine bel_al ?_ _ | refine bel_dr ?_ | refine below_drewN ?_ _ | refine bel_then ?_ (by assumption)))⟩
    | true =>
      cases hn : inB n 0 l with
      | false =>
        have hv := HV _ (tipOfV_no3 hn)
        go_enter Tryd.func21, Tryd.ntmps21
        go_wp2_with (first | (go_at_call 56; refine (isLadder_c _ _ _ _ _ _).mono ?_; rintro e w' ⟨rfl, hb1⟩; have hz1 : w.heap.size < w'.heap.size := Nat.lt_of_lt_of_le (by first | assumption | (simp; done) | (simp; assumption)) hb1.size; have k0 : w'.cell? ⟨w.heap.size, 0, none⟩ = some (.int .i64 b) := (hb1.cell (by first | assumption | (simp; done) | (simp; assumption))).trans (by first | assumption | (simp [go_sem]; done)); have k1 : w'.cell? ⟨w.heap.size, 1, none⟩ = some (.int .i64 l) := (hb1.cell (by first | assumption | (simp; done) | (simp; assumption))).trans (by first | assumption | (simp [go_sem]; done)); have k2 : w'.cell? ⟨w.heap.size, 2, none⟩ = some (.int .i64 o) := (hb1.cell (by first | assumption | (simp; done) | (simp; assumption))).trans (by first | assumption | (simp [go_sem]; done)); have k3 : w'.cell? ⟨w.heap.size, 3, none⟩ = some (.int .i64 s) := (hb1.cell (by first | assumption | (simp; done) | (simp; assumption))).trans (by first | assumption | (simp [go_sem]; done)); have k4 : w'.cell? ⟨w.heap.size, 4, none⟩ = some (.int .i64 m) := (hb1.cell (by first | assumption | (simp; done) | (simp; assumption))).trans (by first | assumption | (simp [go_sem]; done))) | (go_at_call 57; refine (inside_c _ _ _ _).mono ?_; rintro e w' ⟨rfl, rfl⟩))
        go_ret3
        rw [hv.out]
        exact ⟨rfl, (by repeat (first | exact Below.refl _ _ | assumption | refine bel_al ?_ _ | refine bel_dr ?_ | refine below_drewN ?_ _ | refine bel_then ?_ (by assumption)))⟩
      | true =>
        obtain ⟨ha0, ha1⟩ := inB_true ha
        obtain ⟨hn0, hn1⟩ := inB_true hn
        obtain ⟨A, rfl⟩ : ∃ A : Nat, a = (A : Int) := ⟨a.toNat, by omega⟩
        obtain ⟨N, rfl⟩ : ∃ N : Nat, n = (N : Int) := ⟨n.toNat, by omega⟩
        have hv := HV _ (tipOfV_yes hok ha hn)
        have HT := Lib.hid ht
        clear HV ht
        go_enter Tryd.func21, Tryd.ntmps21
        go_wp2_with (first | (go_at_call 56; refine (isLadder_c _ _ _ _ _ _).mono ?_; rintro e w' ⟨rfl, hb1⟩; have hz1 : w.heap.size < w'.heap.size := Nat.lt_of_lt_of_le (by first | assumption | (simp; done) | (simp; assumption)) hb1.size; have k0 : w'.cell? ⟨w.heap.size, 0, none⟩ = some (.int .i64 b) := (hb1.cell (by first | assumption | (simp; done) | (simp; assumption))).trans (by first | assumption | (simp [go_sem]; done)); have k1 : w'.cell? ⟨w.heap.size, 1, none⟩ = some (.int .i64 l) := (hb1.cell (by first | assumption | (simp; done) | (simp; assumption))).trans (by first | assumption | (simp [go_sem]; done)); have k2 : w'.cell? ⟨w.heap.size, 2, none⟩ = some (.int .i64 o) := (hb1.cell (by first | assumption | (simp; done) | (simp; assumption))).trans (by first | assumption | (simp [go_sem]; done)); have k3 : w'.cell? ⟨w.heap.size, 3, none⟩ = some (.int .i64 s) := (hb1.cell (by first | assumption | (simp; done) | (simp; assumption))).trans (by first | assumption | (simp [go_sem]; done)); have k4 : w'.cell? ⟨w.heap.size, 4, none⟩ = some (.int .i64 m) := (hb1.cell (by first | assumption | (simp; done) | (simp; assumption))).trans (by first | assumption | (simp [go_sem]; done))) | (go_at_call 57; refine (inside_c _ _ _ _).mono ?_; rintro e w' ⟨rfl, rfl⟩))
        have HBX : Hid (Below w.heap.size w w') := Lib.hid (bel_then (bel_al (Below.refl _ _) _) hb1)
        obtain ⟨wX, rfl⟩ : ∃ wX : World, wX = w' := ⟨_, rfl⟩
        go_region_held3 (fun w' => w'.cell? ⟨w.heap.size, 0, none⟩ = some (.int .i64 b) ∧ w'.cell? ⟨w.heap.size, 1, none⟩ = some (.int .i64 l) ∧ w'.cell? ⟨w.heap.size, 2, none⟩ = some (.int .i64 o) ∧ w'.cell? ⟨w.heap.size, 3, none⟩ = some (.int .i64 s) ∧ w'.cell? ⟨w.heap.size, 4, none⟩ = some (.int .i64 m)) (first | go_keep | (go_split_ands; refine ⟨?_, ?_, ?_, ?_, ?_⟩ <;> (rw [hb1.cell (by simp; omega)]; assumption))) (first | (go_at_call 52; refine (sines_c _ (sinTab_below HT.out (bel_dr HBX.out))).mono ?_; rintro e w'' ⟨v9, rfl, ho9, hb1⟩; have hbS := hb1; have sS : wX.heap.size ≤ w''.heap.size := hb1.size) | (go_at_call 58; refine (tip_c b l o s m _ A N _ (rdi_own ho9) ⟨b0, b1⟩ (by omega) (by omega)).mono ?_; rintro e w'' ⟨rfl, hb1⟩))
        go_wp2
        go_ret3
        rw [hv.out]
        exact ⟨rfl, bel_then (bel_then (bel_dr HBX.out) hbS) hb1⟩
end Go.Proofs.YtibkadkodblefaaDoor
