/-
  What is delivered up to a second; DryAt and LeastStore: both sides.
-/
import Derived.Test.YtbjiipicbcamnaaTankG
namespace Go.Proofs.Ytbjiipicbcamnaa
open Go.RowKit

def Tk.times (t : Tk) (s : Int) : Int := if s < t.e then 0 else (s - t.e) / t.cyc + 1
def Tk.brings (s : Int) (t : Tk) : Int := t.times s * t.l
theorem times_bd {t : Tk} (h : t.ok = true) {s : Int} (h1 : s ≤ 36000) : 0 ≤ t.times s ∧ t.times s ≤ 36001 := by
  have hc := Tk.cyc_bd h
  have hb := Tk.bd h
  unfold Tk.times
  split
  · omega
  · have := div_bd (a := s - t.e) (b := t.cyc) (n := 36000) (by omega) (by omega) (by omega)
    omega
theorem brings_bd {t : Tk} (h : t.ok = true) {s : Int} (h1 : s ≤ 36000) : 0 ≤ t.brings s ∧ t.brings s ≤ 720020000 := by
  have h2 := times_bd h h1
  have hb := Tk.bd h
  exact mul_bd h2.1 h2.2 (by omega) hb.2.1
def brought (l : List Tk) (s : Int) : Int := (l.map (Tk.brings s)).sum
theorem brought_bd {l : List Tk} (h : okL l = true) {s : Int} (h1 : s ≤ 36000) : 0 ≤ brought l s ∧ brought l s ≤ 8640240000 := by
  obtain ⟨h12, hall⟩ := okL_true h
  have := sumTo_bd (f := Tk.brings s) (B := 720020000) (fun t ht => brings_bd (hall t ht) h1) l.length (Nat.le_refl _)
  rw [sumTo_full] at this
  unfold brought
  omega

set_option maxRecDepth 100000 in
set_option maxHeartbeats 1000000 in
theorem shTimes_c (l f d e s : Int) (w : World) (h : (Tk.mk l f d e).ok = true) (hs0 : 0 ≤ s) (hs1 : s ≤ 36000) :
    Calls Try.prog 31 #[.agg #[.int .i64 l, .int .i64 f, .int .i64 d, .int .i64 e], .int .i64 s] w fun en w' => en = .returned (.int .i64 ((Tk.mk l f d e).times s)) ∧ Below w.heap.size w w' := by
  have hbd := Tk.bd h
  dsimp only at hbd
  obtain ⟨_, _, _, _, _, _, _, _⟩ := hbd
  obtain ⟨cy0, cy1⟩ := Tk.cyc_bd h
  have H := Lib.hid h
  clear h
  by_cases hlt : s < e
  · go_enter Try.func31, Try.ntmps31
    go_wp2
    go_ret
    exact ⟨by unfold Tk.times; rw [if_pos (by omega)]; rfl, (by repeat (first | exact Below.refl _ _ | assumption | refine bel_al ?_ _ | refine bel_dr ?_ | refine below_drewN ?_ _ | refine bel_then ?_ (by assumption)))⟩
  · have ew : IntKind.i64.wrap (s - e) = s - e := IntWalk.i64_in _ (by omega)
    have hz : ¬ (Tk.mk l f d e).cyc = 0 := by omega
    have eq : IntKind.i64.wrap ((s - e).tdiv (Tk.mk l f d e).cyc) = (s - e) / (Tk.mk l f d e).cyc := quo_eq (by omega) (by omega) (by omega)
    obtain ⟨q0, q1⟩ := div_bd (a := s - e) (b := (Tk.mk l f d e).cyc) (n := 36000) (by omega) (by omega) (by omega)
    have eq1 : IntKind.i64.wrap ((s - e) / (Tk.mk l f d e).cyc + 1) = (s - e) / (Tk.mk l f d e).cyc + 1 := IntWalk.i64_in _ (by omega)
    go_enter Try.func31, Try.ntmps31
    go_wp2_with fail
    (generalize hw1 : World.alloc w _ = w1; have k0 : w1.cell? ⟨w.heap.size, 0, none⟩ = some (.int .i64 l) := (by subst hw1; simp [go_sem]); have k1 : w1.cell? ⟨w.heap.size, 1, none⟩ = some (.int .i64 f) := (by subst hw1; simp [go_sem]); have k2 : w1.cell? ⟨w.heap.size, 2, none⟩ = some (.int .i64 d) := (by subst hw1; simp [go_sem]); have k3 : w1.cell? ⟨w.heap.size, 3, none⟩ = some (.int .i64 e) := (by subst hw1; simp [go_sem]); have hb0 : Below w.heap.size w w1 := (by subst hw1; exact bel_al (Below.refl _ _) _); have hsz : w.heap.size < w1.heap.size := (by subst hw1; simp); clear hw1)
    go_region_held3 (fun w' => w'.cell? ⟨w.heap.size, 0, none⟩ = some (.int .i64 l) ∧ w'.cell? ⟨w.heap.size, 1, none⟩ = some (.int .i64 f) ∧ w'.cell? ⟨w.heap.size, 2, none⟩ = some (.int .i64 d) ∧ w'.cell? ⟨w.heap.size, 3, none⟩ = some (.int .i64 e)) (first | go_keep | (go_split_ands; refine ⟨?_, ?_, ?_, ?_⟩ <;> (rw [hb1.cell (by simp; omega)]; assumption))) (first | (go_at_call 32; refine (shCycle_c _ _ _ _ _ H.out).mono ?_; rintro e w' ⟨rfl, hb1⟩))
    clear ew eq eq1
    go_wp2
    go_ret
    exact ⟨by unfold Tk.times; rw [if_neg (by dsimp only; omega)]; rfl, (by repeat (first | exact Below.refl _ _ | assumption | refine bel_al ?_ _ | refine bel_dr ?_ | refine below_drewN ?_ _ | refine bel_then ?_ (by assumption)))⟩

set_option maxRecDepth 100000 in
set_option maxHeartbeats 1000000 in
theorem shBrought_c (v : Value) (l : List Tk) (s : Int) (w : World) (hr : Rd w v l.length (l.flatMap Tk.cells)) (hok : okL l = true) (hs0 : 0 ≤ s) (hs1 : s ≤ 36000) :
    Calls Try.prog 49 #[v, .int .i64 s] w fun en w' => en = .returned (.int .i64 (brought l s)) ∧ Below w.heap.size w w' := by
  obtain ⟨A, c, rfl, hc, hm, hr⟩ := hr
  rw [maxLen_eq] at hm
  obtain ⟨h12, hall⟩ := okL_true hok
  have HS := Lib.hid (sumTo_bd (f := Tk.brings s) (B := 720020000) (fun t ht => brings_bd (hall t ht) hs1))
  have HALL := Lib.hid hall
  clear hall hok
  go_enter Try.func49, Try.ntmps49
  go_wp2
  go_loopw [5, 10] (fun a i wr => ∃ k : Nat, k ≤ l.length ∧ i = .int .i64 k ∧ a = .int .i64 (sumTo (Tk.brings s) l k) ∧ Below w.heap.size w wr) (fun _ i _ => l.length - (intOf i).toNat)
  case atStart => exact ⟨0, Nat.zero_le _, rfl, rfl, Below.refl _ _⟩
  case round =>
    obtain ⟨k, hk, rfl, rfl, hb⟩ := hrel
    by_cases hlt : k < l.length
    · obtain ⟨b, off, rfl, hbl, hcell⟩ := hr (by omega)
      obtain ⟨tl, tf, td, te, hx, c0, c1, c2, c3⟩ := tk_at' hcell hb hbl hlt
      have hot := HALL.out _ (List.mem_of_getElem? hx)
      obtain ⟨s0, s1⟩ := HS.out k hk
      obtain ⟨t0, t1⟩ := times_bd hot hs1
      obtain ⟨g0, g1⟩ := brings_bd hot hs1
      have hbd := Tk.bd hot
      dsimp only at hbd
      obtain ⟨_, _, _, _, _, _, _, _⟩ := hbd
      have HT := Lib.hid hot
      have HX := Lib.hid hx
      clear hx hot
      have eb : (Tk.mk tl tf td te).times s * tl = Tk.brings s (Tk.mk tl tf td te) := rfl
      have ew : IntKind.i64.wrap ((Tk.mk tl tf td te).times s * tl) = Tk.brings s (Tk.mk tl tf td te) := by rw [eb]; exact IntWalk.i64_in _ (by omega)
      have es : IntKind.i64.wrap (sumTo (Tk.brings s) l k + Tk.brings s (Tk.mk tl tf td te)) = sumTo (Tk.brings s) l k + Tk.brings s (Tk.mk tl tf td te) := IntWalk.i64_in _ (by omega)
      clear eb
      go_wp2_with fail
      (generalize hw1 : World.alloc wr _ = w1; have k0 : w1.cell? ⟨wr.heap.size, 0, none⟩ = some (.int .i64 tl) := (by subst hw1; simp [go_sem]); have k1 : w1.cell? ⟨wr.heap.size, 1, none⟩ = some (.int .i64 tf) := (by subst hw1; simp [go_sem]); have k2 : w1.cell? ⟨wr.heap.size, 2, none⟩ = some (.int .i64 td) := (by subst hw1; simp [go_sem]); have k3 : w1.cell? ⟨wr.heap.size, 3, none⟩ = some (.int .i64 te) := (by subst hw1; simp [go_sem]); have hb0 : Below wr.heap.size wr w1 := (by subst hw1; exact bel_al (Below.refl _ _) _); have hsz : wr.heap.size < w1.heap.size := (by subst hw1; simp); clear hw1)
      go_region_held3 (fun w' => w'.cell? ⟨wr.heap.size, 0, none⟩ = some (.int .i64 tl) ∧ w'.cell? ⟨wr.heap.size, 1, none⟩ = some (.int .i64 tf) ∧ w'.cell? ⟨wr.heap.size, 2, none⟩ = some (.int .i64 td) ∧ w'.cell? ⟨wr.heap.size, 3, none⟩ = some (.int .i64 te)) (first | go_keep | (go_split_ands; refine ⟨?_, ?_, ?_, ?_⟩ <;> (rw [hb1.cell (by simp; omega)]; assumption))) (first | (go_at_call 31; refine (shTimes_c _ _ _ _ _ _ HT.out hs0 hs1).mono ?_; rintro e w' ⟨rfl, hb1⟩))
      clear ew es
      go_wp2
      refine ⟨⟨k + 1, by omega, by go_num, ?_, bel_then (bel_then hb (bel_dr hb0)) hb1⟩, by simp [intOf]; omega⟩
      rw [sumTo_succ HX.out]
    · go_wp2
      go_ret
      obtain rfl : k = l.length := by omega
      exact ⟨by unfold brought; rw [← sumTo_full]; rfl, hb⟩

set_option maxRecDepth 100000 in
set_option maxHeartbeats 1000000 in
theorem deliveredBy_c (v : Value) (l : List Tk) (s : Int) (w : World) (hr : Rd w v l.length (l.flatMap Tk.cells)) (hok : okL l = true) (hs0 : 0 ≤ s) (hs1 : s ≤ 36000) :
    Calls Try.prog 46 #[v, .int .i64 s] w fun en w' => en = .returned (.int .i64 (brought l s)) ∧ Below w.heap.size w w' := by
  obtain ⟨A, c, rfl, hc, hm, hr⟩ := hr
  rw [maxLen_eq] at hm
  obtain ⟨h12, hall⟩ := okL_true hok
  have HS := Lib.hid (sumTo_bd (f := Tk.brings s) (B := 720020000) (fun t ht => brings_bd (hall t ht) hs1))
  have HALL := Lib.hid hall
  clear hall hok
  go_enter Try.func46, Try.ntmps46
  go_wp2
  go_loopw [5, 10] (fun a i wr => ∃ k : Nat, k ≤ l.length ∧ i = .int .i64 k ∧ a = .int .i64 (sumTo (Tk.brings s) l k) ∧ Below w.heap.size w wr) (fun _ i _ => l.length - (intOf i).toNat)
  case atStart => exact ⟨0, Nat.zero_le _, rfl, rfl, Below.refl _ _⟩
  case round =>
    obtain ⟨k, hk, rfl, rfl, hb⟩ := hrel
    by_cases hlt : k < l.length
    · obtain ⟨b, off, rfl, hbl, hcell⟩ := hr (by omega)
      obtain ⟨tl, tf, td, te, hx, c0, c1, c2, c3⟩ := tk_at' hcell hb hbl hlt
      have hot := HALL.out _ (List.mem_of_getElem? hx)
      obtain ⟨s0, s1⟩ := HS.out k hk
      obtain ⟨g0, g1⟩ := brings_bd hot hs1
      obtain ⟨cy0, cy1⟩ := Tk.cyc_bd hot
      have hbd := Tk.bd hot
      dsimp only at hbd
      obtain ⟨_, _, _, _, _, _, _, _⟩ := hbd
      have HT := Lib.hid hot
      have HX := Lib.hid hx
      clear hx hot
      by_cases hse : te ≤ s
      · obtain ⟨q0, q1⟩ := div_bd (a := s - te) (b := (Tk.mk tl tf td te).cyc) (n := 36000) (by omega) (by omega) (by omega)
        have hz : ¬ (Tk.mk tl tf td te).cyc = 0 := by omega
        have ed : tl * (1 + (s - te) / (Tk.mk tl tf td te).cyc) = Tk.brings s (Tk.mk tl tf td te) := by
          unfold Tk.brings Tk.times
          rw [if_neg (by simpa using hse), Int.add_comm 1, Int.mul_comm]
        have e0 : IntKind.i64.wrap (s - te) = s - te := IntWalk.i64_in _ (by omega)
        have e1 : IntKind.i64.wrap ((s - te).tdiv (Tk.mk tl tf td te).cyc) = (s - te) / (Tk.mk tl tf td te).cyc := quo_eq (by omega) (by omega) (by omega)
        have e2 : IntKind.i64.wrap (1 + (s - te) / (Tk.mk tl tf td te).cyc) = 1 + (s - te) / (Tk.mk tl tf td te).cyc := IntWalk.i64_in _ (by omega)
        have e3 : IntKind.i64.wrap (tl * (1 + (s - te) / (Tk.mk tl tf td te).cyc)) = Tk.brings s (Tk.mk tl tf td te) := by rw [ed]; exact IntWalk.i64_in _ (by omega)
        have e4 : IntKind.i64.wrap (sumTo (Tk.brings s) l k + Tk.brings s (Tk.mk tl tf td te)) = sumTo (Tk.brings s) l k + Tk.brings s (Tk.mk tl tf td te) := IntWalk.i64_in _ (by omega)
        clear ed
        go_wp2_with fail
        (generalize hw1 : World.alloc wr _ = w1; have k0 : w1.cell? ⟨wr.heap.size, 0, none⟩ = some (.int .i64 tl) := (by subst hw1; simp [go_sem]); have k1 : w1.cell? ⟨wr.heap.size, 1, none⟩ = some (.int .i64 tf) := (by subst hw1; simp [go_sem]); have k2 : w1.cell? ⟨wr.heap.size, 2, none⟩ = some (.int .i64 td) := (by subst hw1; simp [go_sem]); have k3 : w1.cell? ⟨wr.heap.size, 3, none⟩ = some (.int .i64 te) := (by subst hw1; simp [go_sem]); have hb0 : Below wr.heap.size wr w1 := (by subst hw1; exact bel_al (Below.refl _ _) _); have hsz : wr.heap.size < w1.heap.size := (by subst hw1; simp); clear hw1)
        go_region_held3 (fun w' => w'.cell? ⟨wr.heap.size, 0, none⟩ = some (.int .i64 tl) ∧ w'.cell? ⟨wr.heap.size, 1, none⟩ = some (.int .i64 tf) ∧ w'.cell? ⟨wr.heap.size, 2, none⟩ = some (.int .i64 td) ∧ w'.cell? ⟨wr.heap.size, 3, none⟩ = some (.int .i64 te)) (first | go_keep | (go_split_ands; refine ⟨?_, ?_, ?_, ?_⟩ <;> (rw [hb1.cell (by simp; omega)]; assumption))) (first | (go_at_call 36; refine (cycle_c _ _ _ _ _ HT.out).mono ?_; rintro e w' ⟨rfl, hb1⟩))
        clear e0 e1 e2 e3 e4
        go_wp2
        refine ⟨⟨k + 1, by omega, by go_num, ?_, bel_then (bel_then hb (bel_dr hb0)) hb1⟩, by simp [intOf]; omega⟩
        rw [sumTo_succ HX.out]
      · go_wp2
        refine ⟨⟨k + 1, by omega, by go_num, ?_, bel_al hb _⟩, by simp [intOf]; omega⟩
        rw [sumTo_succ HX.out]
        have : Tk.brings s (Tk.mk tl tf td te) = 0 := by
          unfold Tk.brings Tk.times
          rw [if_pos (by simpa using hse)]; simp
        rw [this]; simp
    · go_wp2
      go_ret
      obtain rfl : k = l.length := by omega
      exact ⟨by unfold brought; rw [← sumTo_full]; rfl, hb⟩

/-! ### DryAt -/
def dryFrom (l : List Tk) (st fl : Int) : Nat → Int → Int × Bool
  | 0, _ => (0, false)
  | k + 1, m => if st + brought l (60 * m) < m * fl then (m, true) else dryFrom l st fl k (m + 1)
def dryAt (l : List Tk) (st fl : Int) : Int × Bool := if okL l && inB st 0 100000 && inB fl 1 6000 then dryFrom l st fl 600 1 else (0, false)

set_option maxRecDepth 100000 in
set_option maxHeartbeats 1000000 in
theorem dryAtS_c (v : Value) (l : List Tk) (st fl : Int) (w : World) (hr : Rd w v l.length (l.flatMap Tk.cells)) :
    Calls Try.prog 25 #[v, .int .i64 st, .int .i64 fl] w fun en w' => en = .returned (.tuple #[.int .i64 (dryAt l st fl).1, .bool (dryAt l st fl).2]) ∧ Below w.heap.size w w' := by
  have HR := Lib.hid hr
  clear hr
  by_cases h : okL l && inB st 0 100000 && inB fl 1 6000
  · have hE : Hid (dryAt l st fl = dryFrom l st fl 600 1) := Lib.hid (by unfold dryAt; rw [if_pos h])
    simp only [Bool.and_eq_true] at h
    obtain ⟨⟨h1, h2⟩, h3⟩ := h
    obtain ⟨b2, b2'⟩ := inB_true h2
    obtain ⟨b3, b3'⟩ := inB_true h3
    have HO := Lib.hid h1
    go_enter Try.func25, Try.ntmps25
    go_wp2_with (first | (go_at_call 29; refine (shAll_c _ l _ HR.out).mono ?_; rintro e w' ⟨rfl, hb1⟩) | (go_at_call 50; refine (shStore_c _ _).mono ?_; rintro e w' ⟨rfl, rfl⟩) | (go_at_call 47; refine (shFlow_c _ _).mono ?_; rintro e w' ⟨rfl, rfl⟩))
    go_loopw [8] (fun i wr => ∃ k : Nat, k ≤ 600 ∧ i = .int .i64 (k + 1) ∧ Hid (dryFrom l st fl 600 1 = dryFrom l st fl (600 - k) (k + 1)) ∧ Below w.heap.size w wr) (fun i _ => 601 - (intOf i).toNat)
    case atStart => exact ⟨0, Nat.zero_le _, rfl, Lib.hid (by simp), by assumption⟩
    case round =>
      obtain ⟨k, hk, rfl, HK, hb⟩ := hrel
      by_cases hlt : k < 600
      · have hmul := mul_bd (a := (k : Int) + 1) (b := fl) (A := 600) (B := 6000) (by omega) (by omega) (by omega) (by omega)
        obtain ⟨_, _⟩ := hmul
        obtain ⟨_, _⟩ := brought_bd HO.out (s := 60 * ((k : Int) + 1)) (by omega)
        have HC : Hid (dryFrom l st fl (600 - k) (k + 1) = if st + brought l (60 * ((k : Int) + 1)) < ((k : Int) + 1) * fl then ((k : Int) + 1, true) else dryFrom l st fl (600 - (k + 1)) ((k : Int) + 1 + 1)) := Lib.hid (by
          rw [show 600 - k = (600 - (k + 1)) + 1 by omega]; rfl)
        go_wp2_with (go_at_call 49; refine (shBrought_c _ l _ _ (rd_below HR.out hb) HO.out (by omega) (by omega)).mono ?_; rintro e w' ⟨rfl, hb1⟩)
        · go_ret2
          refine ⟨?_, bel_then hb hb1⟩
          rw [hE.out, HK.out, HC.out, if_pos (by assumption)]; rfl
        · refine ⟨⟨k + 1, by omega, by go_num, ?_, bel_then hb hb1⟩, by simp [intOf]; omega⟩
          refine Lib.hid ?_
          rw [HK.out, HC.out, if_neg (by omega), show (((k + 1 : Nat) : Int)) + 1 = (k : Int) + 1 + 1 by omega]
      · go_wp2
        go_ret2
        obtain rfl : k = 600 := by omega
        have e0 : dryFrom l st fl (600 - 600) ((600 : Nat) + 1) = (0, false) := by rw [Nat.sub_self]; rfl
        exact ⟨by rw [hE.out, HK.out, e0]; rfl, hb⟩
  · have H := Lib.hid h
    clear h
    go_enter Try.func25, Try.ntmps25
    go_wp2_with (first | (go_at_call 29; refine (shAll_c _ l _ HR.out).mono ?_; rintro e w' ⟨rfl, hb1⟩) | (go_at_call 50; refine (shStore_c _ _).mono ?_; rintro e w' ⟨rfl, rfl⟩) | (go_at_call 47; refine (shFlow_c _ _).mono ?_; rintro e w' ⟨rfl, rfl⟩))
    all_goals first
      | (exfalso; have := H.out; simp_all; done)
      | (go_ret2; exact ⟨by unfold dryAt; rw [if_neg H.out]; rfl, by assumption⟩)

set_option maxRecDepth 100000 in
set_option maxHeartbeats 1000000 in
theorem dryAtI_c (v : Value) (l : List Tk) (st fl : Int) (w : World) (hr : Rd w v l.length (l.flatMap Tk.cells)) :
    Calls Try.prog 24 #[v, .int .i64 st, .int .i64 fl] w fun en w' => en = .returned (.tuple #[.int .i64 (dryAt l st fl).1, .bool (dryAt l st fl).2]) ∧ Below w.heap.size w w' := by
  have HR := Lib.hid hr
  clear hr
  by_cases h : okL l && inB st 0 100000 && inB fl 1 6000
  · have hE : Hid (dryAt l st fl = dryFrom l st fl 600 1) := Lib.hid (by unfold dryAt; rw [if_pos h])
    simp only [Bool.and_eq_true] at h
    obtain ⟨⟨h1, h2⟩, h3⟩ := h
    obtain ⟨b2, b2'⟩ := inB_true h2
    obtain ⟨b3, b3'⟩ := inB_true h3
    have HO := Lib.hid h1
    go_enter Try.func24, Try.ntmps24
    go_wp2_with (first | (go_at_call 34; refine (areTankers_c _ l _ HR.out).mono ?_; rintro e w' ⟨rfl, hb1⟩) | (go_at_call 35; refine (inside_c _ _ _ _).mono ?_; rintro e w' ⟨rfl, rfl⟩))
    go_loopw [8] (fun i wr => ∃ k : Nat, k ≤ 600 ∧ i = .int .i64 (k + 1) ∧ Hid (dryFrom l st fl 600 1 = dryFrom l st fl (600 - k) (k + 1)) ∧ Below w.heap.size w wr) (fun i _ => 601 - (intOf i).toNat)
    case atStart => exact ⟨0, Nat.zero_le _, rfl, Lib.hid (by simp), by assumption⟩
    case round =>
      obtain ⟨k, hk, rfl, HK, hb⟩ := hrel
      by_cases hlt : k < 600
      · have hmul := mul_bd (a := (k : Int) + 1) (b := fl) (A := 600) (B := 6000) (by omega) (by omega) (by omega) (by omega)
        obtain ⟨_, _⟩ := hmul
        obtain ⟨_, _⟩ := brought_bd HO.out (s := 60 * ((k : Int) + 1)) (by omega)
        have HC : Hid (dryFrom l st fl (600 - k) (k + 1) = if st + brought l (60 * ((k : Int) + 1)) < ((k : Int) + 1) * fl then ((k : Int) + 1, true) else dryFrom l st fl (600 - (k + 1)) ((k : Int) + 1 + 1)) := Lib.hid (by
          rw [show 600 - k = (600 - (k + 1)) + 1 by omega]; rfl)
        go_wp2_with (go_at_call 46; refine (deliveredBy_c _ l _ _ (rd_below HR.out hb) HO.out (by omega) (by omega)).mono ?_; rintro e w' ⟨rfl, hb1⟩)
        · go_ret2
          refine ⟨?_, bel_then hb hb1⟩
          rw [hE.out, HK.out, HC.out, if_pos (by assumption)]; rfl
        · refine ⟨⟨k + 1, by omega, by go_num, ?_, bel_then hb hb1⟩, by simp [intOf]; omega⟩
          refine Lib.hid ?_
          rw [HK.out, HC.out, if_neg (by omega), show (((k + 1 : Nat) : Int)) + 1 = (k : Int) + 1 + 1 by omega]
      · go_wp2
        go_ret2
        obtain rfl : k = 600 := by omega
        have e0 : dryFrom l st fl (600 - 600) ((600 : Nat) + 1) = (0, false) := by rw [Nat.sub_self]; rfl
        exact ⟨by rw [hE.out, HK.out, e0]; rfl, hb⟩
  · have H := Lib.hid h
    clear h
    go_enter Try.func24, Try.ntmps24
    go_wp2_with (first | (go_at_call 34; refine (areTankers_c _ l _ HR.out).mono ?_; rintro e w' ⟨rfl, hb1⟩) | (go_at_call 35; refine (inside_c _ _ _ _).mono ?_; rintro e w' ⟨rfl, rfl⟩))
    all_goals first
      | (exfalso; have := H.out; simp_all; done)
      | (go_ret2; exact ⟨by unfold dryAt; rw [if_neg H.out]; rfl, by assumption⟩)

end Go.Proofs.Ytbjiipicbcamnaa
