/-
  TankersFor on both sides; ladders.
-/
import Derived.Test.YtbjiipicbcamnaaTankG
namespace Go.Proofs.Ytbjiipicbcamnaa
open Go.RowKit

def tankersFor (t : Tk) (fl : Int) : Int × Bool :=
  if t.ok && inB fl 1 6000 && !(t.rate == 0) && decide ((fl + t.rate - 1) / t.rate ≤ 12) then ((fl + t.rate - 1) / t.rate, true) else (0, false)

set_option maxHeartbeats 1000000 in
theorem tankersForS_c (l f d e fl : Int) (w : World) :
    Calls Try.prog 20 #[.agg #[.int .i64 l, .int .i64 f, .int .i64 d, .int .i64 e], .int .i64 fl] w fun en w' => en = .returned (.tuple #[.int .i64 (tankersFor (Tk.mk l f d e) fl).1, .bool (tankersFor (Tk.mk l f d e) fl).2]) ∧ Below w.heap.size w w' := by
  by_cases hok : (Tk.mk l f d e).ok = true
  · obtain ⟨r0, r1⟩ := Tk.rate_bd hok
    have H := Lib.hid hok
    by_cases hfl : inB fl 1 6000 = true
    · obtain ⟨f0, f1⟩ := inB_true hfl
      have HFL := Lib.hid hfl
      by_cases hr : (Tk.mk l f d e).rate = 0
      · have HR := Lib.hid hr
        have hb : ((Tk.mk l f d e).rate == 0) = true := by simp [hr]
        clear hr
        go_enter Try.func20, Try.ntmps20
        go_wp2_with (first | (go_at_call 54; refine (shOne_c _ _ _ _ _).mono ?_; rintro e w' ⟨rfl, hb1⟩; have hz1 : w.heap.size < w'.heap.size := Nat.lt_of_lt_of_le (by first | assumption | (simp; done) | (simp; assumption)) hb1.size; have k0 : w'.cell? ⟨w.heap.size, 0, none⟩ = some (.int .i64 l) := (hb1.cell (by first | assumption | (simp; done) | (simp; assumption))).trans (by first | assumption | (simp [go_sem]; done)); have k1 : w'.cell? ⟨w.heap.size, 1, none⟩ = some (.int .i64 f) := (hb1.cell (by first | assumption | (simp; done) | (simp; assumption))).trans (by first | assumption | (simp [go_sem]; done)); have k2 : w'.cell? ⟨w.heap.size, 2, none⟩ = some (.int .i64 d) := (hb1.cell (by first | assumption | (simp; done) | (simp; assumption))).trans (by first | assumption | (simp [go_sem]; done)); have k3 : w'.cell? ⟨w.heap.size, 3, none⟩ = some (.int .i64 e) := (hb1.cell (by first | assumption | (simp; done) | (simp; assumption))).trans (by first | assumption | (simp [go_sem]; done))) | (go_at_call 47; refine (shFlow_c _ _).mono ?_; rintro e w' ⟨rfl, rfl⟩) | (go_at_call 55; refine (shRate_c _ _ _ _ _ H.out).mono ?_; rintro e w' ⟨rfl, hb1⟩; have hz1 : w.heap.size < w'.heap.size := Nat.lt_of_lt_of_le (by first | assumption | (simp; done) | (simp; assumption)) hb1.size; have k0 : w'.cell? ⟨w.heap.size, 0, none⟩ = some (.int .i64 l) := (hb1.cell (by first | assumption | (simp; done) | (simp; assumption))).trans (by first | assumption | (simp [go_sem]; done)); have k1 : w'.cell? ⟨w.heap.size, 1, none⟩ = some (.int .i64 f) := (hb1.cell (by first | assumption | (simp; done) | (simp; assumption))).trans (by first | assumption | (simp [go_sem]; done)); have k2 : w'.cell? ⟨w.heap.size, 2, none⟩ = some (.int .i64 d) := (hb1.cell (by first | assumption | (simp; done) | (simp; assumption))).trans (by first | assumption | (simp [go_sem]; done)); have k3 : w'.cell? ⟨w.heap.size, 3, none⟩ = some (.int .i64 e) := (hb1.cell (by first | assumption | (simp; done) | (simp; assumption))).trans (by first | assumption | (simp [go_sem]; done))))
        go_ret2
        refine ⟨?_, (by repeat (first | exact Below.refl _ _ | assumption | refine bel_al ?_ _ | refine bel_dr ?_ | refine below_drewN ?_ _ | refine bel_then ?_ (by assumption)))⟩
        unfold tankersFor
        rw [if_neg (by simp [HR.out])]; rfl
      · have hb : ((Tk.mk l f d e).rate == 0) = false := by simpa using hr
        have hz : ¬ (Tk.mk l f d e).rate = 0 := hr
        have ew : IntKind.i64.wrap (fl + (Tk.mk l f d e).rate) = fl + (Tk.mk l f d e).rate := IntWalk.i64_in _ (by omega)
        have ew2 : IntKind.i64.wrap (fl + (Tk.mk l f d e).rate - 1) = fl + (Tk.mk l f d e).rate - 1 := IntWalk.i64_in _ (by omega)
        have eq : IntKind.i64.wrap ((fl + (Tk.mk l f d e).rate - 1).tdiv (Tk.mk l f d e).rate) = (fl + (Tk.mk l f d e).rate - 1) / (Tk.mk l f d e).rate := quo_eq (by omega) (by omega) (by omega)
        have HB := Lib.hid hb
        go_enter Try.func20, Try.ntmps20
        go_wp2_with (first | (go_at_call 55; refine (shRate_c _ _ _ _ _ H.out).mono ?_; rintro e w' ⟨rfl, hb1⟩; have hz1 : w.heap.size < w'.heap.size := Nat.lt_of_lt_of_le (by first | assumption | (simp; done) | (simp; assumption)) hb1.size; have k0 : w'.cell? ⟨w.heap.size, 0, none⟩ = some (.int .i64 l) := (hb1.cell (by first | assumption | (simp; done) | (simp; assumption))).trans (by first | assumption | (simp [go_sem]; done)); have k1 : w'.cell? ⟨w.heap.size, 1, none⟩ = some (.int .i64 f) := (hb1.cell (by first | assumption | (simp; done) | (simp; assumption))).trans (by first | assumption | (simp [go_sem]; done)); have k2 : w'.cell? ⟨w.heap.size, 2, none⟩ = some (.int .i64 d) := (hb1.cell (by first | assumption | (simp; done) | (simp; assumption))).trans (by first | assumption | (simp [go_sem]; done)); have k3 : w'.cell? ⟨w.heap.size, 3, none⟩ = some (.int .i64 e) := (hb1.cell (by first | assumption | (simp; done) | (simp; assumption))).trans (by first | assumption | (simp [go_sem]; done))) | (go_at_call 54; refine (shOne_c _ _ _ _ _).mono ?_; rintro e w' ⟨rfl, hb1⟩; have hz1 : w.heap.size < w'.heap.size := Nat.lt_of_lt_of_le (by first | assumption | (simp; done) | (simp; assumption)) hb1.size; have k0 : w'.cell? ⟨w.heap.size, 0, none⟩ = some (.int .i64 l) := (hb1.cell (by first | assumption | (simp; done) | (simp; assumption))).trans (by first | assumption | (simp [go_sem]; done)); have k1 : w'.cell? ⟨w.heap.size, 1, none⟩ = some (.int .i64 f) := (hb1.cell (by first | assumption | (simp; done) | (simp; assumption))).trans (by first | assumption | (simp [go_sem]; done)); have k2 : w'.cell? ⟨w.heap.size, 2, none⟩ = some (.int .i64 d) := (hb1.cell (by first | assumption | (simp; done) | (simp; assumption))).trans (by first | assumption | (simp [go_sem]; done)); have k3 : w'.cell? ⟨w.heap.size, 3, none⟩ = some (.int .i64 e) := (hb1.cell (by first | assumption | (simp; done) | (simp; assumption))).trans (by first | assumption | (simp [go_sem]; done))) | (go_at_call 47; refine (shFlow_c _ _).mono ?_; rintro e w' ⟨rfl, rfl⟩))
        go_region_held3 (fun w' => w'.cell? ⟨w.heap.size, 0, none⟩ = some (.int .i64 l) ∧ w'.cell? ⟨w.heap.size, 1, none⟩ = some (.int .i64 f) ∧ w'.cell? ⟨w.heap.size, 2, none⟩ = some (.int .i64 d) ∧ w'.cell? ⟨w.heap.size, 3, none⟩ = some (.int .i64 e)) (first | go_keep | (go_split_ands; refine ⟨?_, ?_, ?_, ?_⟩ <;> (rw [hb1.cell (by simp; omega)]; assumption))) (first | (go_at_call 55; refine (shRate_c _ _ _ _ _ H.out).mono ?_; rintro e w' ⟨rfl, hb1⟩; have hz1 : w.heap.size < w'.heap.size := Nat.lt_of_lt_of_le (by first | assumption | (simp; done) | (simp; assumption)) hb1.size))
        go_wp2
        · go_ret2
          refine ⟨?_, (by repeat (first | exact Below.refl _ _ | assumption | refine bel_al ?_ _ | refine bel_dr ?_ | refine below_drewN ?_ _ | refine bel_then ?_ (by assumption)))⟩
          have h : 12 < (fl + (Tk.mk l f d e).rate - 1) / (Tk.mk l f d e).rate := by assumption
          unfold tankersFor
          rw [if_neg (by simp only [Bool.and_eq_true, decide_eq_true_eq]; omega)]; rfl
        · go_ret2
          refine ⟨?_, (by repeat (first | exact Below.refl _ _ | assumption | refine bel_al ?_ _ | refine bel_dr ?_ | refine below_drewN ?_ _ | refine bel_then ?_ (by assumption)))⟩
          have h : (fl + (Tk.mk l f d e).rate - 1) / (Tk.mk l f d e).rate ≤ 12 := by assumption
          unfold tankersFor
          rw [if_pos (by rw [H.out, HFL.out, HB.out]; simpa using h)]; rfl
    · have HFL := Lib.hid hfl
      have hb : inB fl 1 6000 = false := by simpa using hfl
      go_enter Try.func20, Try.ntmps20
      go_wp2_with (first | (go_at_call 54; refine (shOne_c _ _ _ _ _).mono ?_; rintro e w' ⟨rfl, hb1⟩; have hz1 : w.heap.size < w'.heap.size := Nat.lt_of_lt_of_le (by first | assumption | (simp; done) | (simp; assumption)) hb1.size; have k0 : w'.cell? ⟨w.heap.size, 0, none⟩ = some (.int .i64 l) := (hb1.cell (by first | assumption | (simp; done) | (simp; assumption))).trans (by first | assumption | (simp [go_sem]; done)); have k1 : w'.cell? ⟨w.heap.size, 1, none⟩ = some (.int .i64 f) := (hb1.cell (by first | assumption | (simp; done) | (simp; assumption))).trans (by first | assumption | (simp [go_sem]; done)); have k2 : w'.cell? ⟨w.heap.size, 2, none⟩ = some (.int .i64 d) := (hb1.cell (by first | assumption | (simp; done) | (simp; assumption))).trans (by first | assumption | (simp [go_sem]; done)); have k3 : w'.cell? ⟨w.heap.size, 3, none⟩ = some (.int .i64 e) := (hb1.cell (by first | assumption | (simp; done) | (simp; assumption))).trans (by first | assumption | (simp [go_sem]; done))) | (go_at_call 47; refine (shFlow_c _ _).mono ?_; rintro e w' ⟨rfl, rfl⟩))
      go_ret2
      refine ⟨?_, (by repeat (first | exact Below.refl _ _ | assumption | refine bel_al ?_ _ | refine bel_dr ?_ | refine below_drewN ?_ _ | refine bel_then ?_ (by assumption)))⟩
      unfold tankersFor
      rw [if_neg (by simp [hb])]; rfl
  · have hb : (Tk.mk l f d e).ok = false := by simpa using hok
    go_enter Try.func20, Try.ntmps20
    go_wp2_with (go_at_call 54; refine (shOne_c _ _ _ _ _).mono ?_; rintro e w' ⟨rfl, hb1⟩; have hz1 : w.heap.size < w'.heap.size := Nat.lt_of_lt_of_le (by first | assumption | (simp; done) | (simp; assumption)) hb1.size; have k0 : w'.cell? ⟨w.heap.size, 0, none⟩ = some (.int .i64 l) := (hb1.cell (by first | assumption | (simp; done) | (simp; assumption))).trans (by first | assumption | (simp [go_sem]; done)); have k1 : w'.cell? ⟨w.heap.size, 1, none⟩ = some (.int .i64 f) := (hb1.cell (by first | assumption | (simp; done) | (simp; assumption))).trans (by first | assumption | (simp [go_sem]; done)); have k2 : w'.cell? ⟨w.heap.size, 2, none⟩ = some (.int .i64 d) := (hb1.cell (by first | assumption | (simp; done) | (simp; assumption))).trans (by first | assumption | (simp [go_sem]; done)); have k3 : w'.cell? ⟨w.heap.size, 3, none⟩ = some (.int .i64 e) := (hb1.cell (by first | assumption | (simp; done) | (simp; assumption))).trans (by first | assumption | (simp [go_sem]; done)))
    go_ret2
    refine ⟨?_, (by repeat (first | exact Below.refl _ _ | assumption | refine bel_al ?_ _ | refine bel_dr ?_ | refine below_drewN ?_ _ | refine bel_then ?_ (by assumption)))⟩
    unfold tankersFor
    rw [if_neg (by simp [hb])]; rfl

set_option maxHeartbeats 1000000 in
theorem tankersForI_c (l f d e fl : Int) (w : World) :
    Calls Try.prog 19 #[.agg #[.int .i64 l, .int .i64 f, .int .i64 d, .int .i64 e], .int .i64 fl] w fun en w' => en = .returned (.tuple #[.int .i64 (tankersFor (Tk.mk l f d e) fl).1, .bool (tankersFor (Tk.mk l f d e) fl).2]) ∧ Below w.heap.size w w' := by
  by_cases hok : (Tk.mk l f d e).ok = true
  · obtain ⟨r0, r1⟩ := Tk.rate_bd hok
    obtain ⟨cy0, cy1⟩ := Tk.cyc_bd hok
    have hbd := Tk.bd hok
    dsimp only at hbd
    obtain ⟨_, _, _, _, _, _, _, _⟩ := hbd
    have H := Lib.hid hok
    by_cases hfl : inB fl 1 6000 = true
    · obtain ⟨f0, f1⟩ := inB_true hfl
      have HFL := Lib.hid hfl
      have ew : IntKind.i64.wrap (60 * l) = 60 * l := IntWalk.i64_in _ (by omega)
      have hz : ¬ (Tk.mk l f d e).cyc = 0 := by omega
      have eq : IntKind.i64.wrap ((60 * l).tdiv (Tk.mk l f d e).cyc) = (Tk.mk l f d e).rate := quo_eq (by omega) (by omega) (by omega)
      by_cases hr : (Tk.mk l f d e).rate = 0
      · have HR := Lib.hid hr
        have hb : ((Tk.mk l f d e).rate == 0) = true := by simp [hr]
        clear hr
        go_enter Try.func19, Try.ntmps19
        go_wp2_with (first | (go_at_call 52; refine (isTanker_c _ _ _ _ _).mono ?_; rintro e w' ⟨rfl, hb1⟩; have hz1 : w.heap.size < w'.heap.size := Nat.lt_of_lt_of_le (by first | assumption | (simp; done) | (simp; assumption)) hb1.size; have k0 : w'.cell? ⟨w.heap.size, 0, none⟩ = some (.int .i64 l) := (hb1.cell (by first | assumption | (simp; done) | (simp; assumption))).trans (by first | assumption | (simp [go_sem]; done)); have k1 : w'.cell? ⟨w.heap.size, 1, none⟩ = some (.int .i64 f) := (hb1.cell (by first | assumption | (simp; done) | (simp; assumption))).trans (by first | assumption | (simp [go_sem]; done)); have k2 : w'.cell? ⟨w.heap.size, 2, none⟩ = some (.int .i64 d) := (hb1.cell (by first | assumption | (simp; done) | (simp; assumption))).trans (by first | assumption | (simp [go_sem]; done)); have k3 : w'.cell? ⟨w.heap.size, 3, none⟩ = some (.int .i64 e) := (hb1.cell (by first | assumption | (simp; done) | (simp; assumption))).trans (by first | assumption | (simp [go_sem]; done))) | (go_at_call 35; refine (inside_c _ _ _ _).mono ?_; rintro e w' ⟨rfl, rfl⟩))
        go_region_held3 (fun w' => w'.cell? ⟨w.heap.size, 0, none⟩ = some (.int .i64 l) ∧ w'.cell? ⟨w.heap.size, 1, none⟩ = some (.int .i64 f) ∧ w'.cell? ⟨w.heap.size, 2, none⟩ = some (.int .i64 d) ∧ w'.cell? ⟨w.heap.size, 3, none⟩ = some (.int .i64 e)) (first | go_keep | (go_split_ands; refine ⟨?_, ?_, ?_, ?_⟩ <;> (rw [hb1.cell (by simp; omega)]; assumption))) (first | (go_at_call 36; refine (cycle_c _ _ _ _ _ H.out).mono ?_; rintro e w' ⟨rfl, hb1⟩; have hz1 : w.heap.size < w'.heap.size := Nat.lt_of_lt_of_le (by first | assumption | (simp; done) | (simp; assumption)) hb1.size))
        clear ew eq
        go_wp2
        go_ret2
        refine ⟨?_, (by repeat (first | exact Below.refl _ _ | assumption | refine bel_al ?_ _ | refine bel_dr ?_ | refine below_drewN ?_ _ | refine bel_then ?_ (by assumption)))⟩
        unfold tankersFor
        rw [if_neg (by simp [HR.out])]; rfl
      · have hb : ((Tk.mk l f d e).rate == 0) = false := by simpa using hr
        have hrp : 1 ≤ (Tk.mk l f d e).rate := by omega
        have HB := Lib.hid hb
        clear hr
        go_enter Try.func19, Try.ntmps19
        go_wp2_with (first | (go_at_call 52; refine (isTanker_c _ _ _ _ _).mono ?_; rintro e w' ⟨rfl, hb1⟩; have hz1 : w.heap.size < w'.heap.size := Nat.lt_of_lt_of_le (by first | assumption | (simp; done) | (simp; assumption)) hb1.size; have k0 : w'.cell? ⟨w.heap.size, 0, none⟩ = some (.int .i64 l) := (hb1.cell (by first | assumption | (simp; done) | (simp; assumption))).trans (by first | assumption | (simp [go_sem]; done)); have k1 : w'.cell? ⟨w.heap.size, 1, none⟩ = some (.int .i64 f) := (hb1.cell (by first | assumption | (simp; done) | (simp; assumption))).trans (by first | assumption | (simp [go_sem]; done)); have k2 : w'.cell? ⟨w.heap.size, 2, none⟩ = some (.int .i64 d) := (hb1.cell (by first | assumption | (simp; done) | (simp; assumption))).trans (by first | assumption | (simp [go_sem]; done)); have k3 : w'.cell? ⟨w.heap.size, 3, none⟩ = some (.int .i64 e) := (hb1.cell (by first | assumption | (simp; done) | (simp; assumption))).trans (by first | assumption | (simp [go_sem]; done))) | (go_at_call 35; refine (inside_c _ _ _ _).mono ?_; rintro e w' ⟨rfl, rfl⟩))
        go_region_held3 (fun w' => w'.cell? ⟨w.heap.size, 0, none⟩ = some (.int .i64 l) ∧ w'.cell? ⟨w.heap.size, 1, none⟩ = some (.int .i64 f) ∧ w'.cell? ⟨w.heap.size, 2, none⟩ = some (.int .i64 d) ∧ w'.cell? ⟨w.heap.size, 3, none⟩ = some (.int .i64 e)) (first | go_keep | (go_split_ands; refine ⟨?_, ?_, ?_, ?_⟩ <;> (rw [hb1.cell (by simp; omega)]; assumption))) (first | (go_at_call 36; refine (cycle_c _ _ _ _ _ H.out).mono ?_; rintro e w' ⟨rfl, hb1⟩; have hz1 : w.heap.size < w'.heap.size := Nat.lt_of_lt_of_le (by first | assumption | (simp; done) | (simp; assumption)) hb1.size))
        clear ew eq
        go_wp2_with (go_at_call 53; refine (upTo_c _ _ _ (by omega) (by omega) (by omega) (by omega)).mono ?_; rintro e w' ⟨rfl, rfl⟩)
        · go_ret2
          refine ⟨?_, (by repeat (first | exact Below.refl _ _ | assumption | refine bel_al ?_ _ | refine bel_dr ?_ | refine below_drewN ?_ _ | refine bel_then ?_ (by assumption)))⟩
          have h : 12 < (fl + (Tk.mk l f d e).rate - 1) / (Tk.mk l f d e).rate := by assumption
          unfold tankersFor
          rw [if_neg (by simp only [Bool.and_eq_true, decide_eq_true_eq]; omega)]; rfl
        · go_ret2
          refine ⟨?_, (by repeat (first | exact Below.refl _ _ | assumption | refine bel_al ?_ _ | refine bel_dr ?_ | refine below_drewN ?_ _ | refine bel_then ?_ (by assumption)))⟩
          have h : (fl + (Tk.mk l f d e).rate - 1) / (Tk.mk l f d e).rate ≤ 12 := by assumption
          unfold tankersFor
          rw [if_pos (by rw [H.out, HFL.out, HB.out]; simpa using h)]; rfl
    · have HFL := Lib.hid hfl
      have hb : inB fl 1 6000 = false := by simpa using hfl
      go_enter Try.func19, Try.ntmps19
      go_wp2_with (first | (go_at_call 52; refine (isTanker_c _ _ _ _ _).mono ?_; rintro e w' ⟨rfl, hb1⟩; have hz1 : w.heap.size < w'.heap.size := Nat.lt_of_lt_of_le (by first | assumption | (simp; done) | (simp; assumption)) hb1.size; have k0 : w'.cell? ⟨w.heap.size, 0, none⟩ = some (.int .i64 l) := (hb1.cell (by first | assumption | (simp; done) | (simp; assumption))).trans (by first | assumption | (simp [go_sem]; done)); have k1 : w'.cell? ⟨w.heap.size, 1, none⟩ = some (.int .i64 f) := (hb1.cell (by first | assumption | (simp; done) | (simp; assumption))).trans (by first | assumption | (simp [go_sem]; done)); have k2 : w'.cell? ⟨w.heap.size, 2, none⟩ = some (.int .i64 d) := (hb1.cell (by first | assumption | (simp; done) | (simp; assumption))).trans (by first | assumption | (simp [go_sem]; done)); have k3 : w'.cell? ⟨w.heap.size, 3, none⟩ = some (.int .i64 e) := (hb1.cell (by first | assumption | (simp; done) | (simp; assumption))).trans (by first | assumption | (simp [go_sem]; done))) | (go_at_call 35; refine (inside_c _ _ _ _).mono ?_; rintro e w' ⟨rfl, rfl⟩))
      go_ret2
      refine ⟨?_, (by repeat (first | exact Below.refl _ _ | assumption | refine bel_al ?_ _ | refine bel_dr ?_ | refine below_drewN ?_ _ | refine bel_then ?_ (by assumption)))⟩
      unfold tankersFor
      rw [if_neg (by simp [hb])]; rfl
  · have hb : (Tk.mk l f d e).ok = false := by simpa using hok
    go_enter Try.func19, Try.ntmps19
    go_wp2_with (go_at_call 52; refine (isTanker_c _ _ _ _ _).mono ?_; rintro e w' ⟨rfl, hb1⟩; have hz1 : w.heap.size < w'.heap.size := Nat.lt_of_lt_of_le (by first | assumption | (simp; done) | (simp; assumption)) hb1.size; have k0 : w'.cell? ⟨w.heap.size, 0, none⟩ = some (.int .i64 l) := (hb1.cell (by first | assumption | (simp; done) | (simp; assumption))).trans (by first | assumption | (simp [go_sem]; done)); have k1 : w'.cell? ⟨w.heap.size, 1, none⟩ = some (.int .i64 f) := (hb1.cell (by first | assumption | (simp; done) | (simp; assumption))).trans (by first | assumption | (simp [go_sem]; done)); have k2 : w'.cell? ⟨w.heap.size, 2, none⟩ = some (.int .i64 d) := (hb1.cell (by first | assumption | (simp; done) | (simp; assumption))).trans (by first | assumption | (simp [go_sem]; done)); have k3 : w'.cell? ⟨w.heap.size, 3, none⟩ = some (.int .i64 e) := (hb1.cell (by first | assumption | (simp; done) | (simp; assumption))).trans (by first | assumption | (simp [go_sem]; done)))
    go_ret2
    refine ⟨?_, (by repeat (first | exact Below.refl _ _ | assumption | refine bel_al ?_ _ | refine bel_dr ?_ | refine below_drewN ?_ _ | refine bel_then ?_ (by assumption)))⟩
    unfold tankersFor
    rw [if_neg (by simp [hb])]; rfl

/-! ### Ladders -/
def ladOk (b l o s m : Int) : Bool := inB b 0 40 && inB l 50 600 && inB o 20 400 && inB s 0 m && decide (m ≤ 85)
end Go.Proofs.Ytbjiipicbcamnaa
