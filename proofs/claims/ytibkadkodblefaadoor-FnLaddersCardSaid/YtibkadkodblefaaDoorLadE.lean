/-
  Ladders: HighestAt and FarthestFor on both sides.
-/
import Derived.Test.YtibkadkodblefaaDoorLadR
import Derived.Test.YtibkadkodblefaaDoorLadC
import Derived.Test.YtibkadkodblefaaDoorLadQ
import Derived.Test.YtibkadkodblefaaDoorNumF
namespace Go.Proofs.YtibkadkodblefaaDoor
open Go.RowKit Go.Maps


def highestAtV (b l o s m x : Int) : Int × Bool := if ladOk b l o s m = true ∧ inB x 0 600 = true then downR (fun u => decide (0 < ptAll b o l.toNat s.toNat m.toNat x (u : Int))) else (0, false)
theorem highestAtV_no0 {b l o s m x : Int} (h : ladOk b l o s m = false) : highestAtV b l o s m x = (0, false) := by unfold highestAtV; rw [if_neg (fun k => by rw [h] at k; exact absurd k.1 (by simp))]
theorem highestAtV_no1 {b l o s m x : Int} (h : inB x 0 600 = false) : highestAtV b l o s m x = (0, false) := by unfold highestAtV; rw [if_neg (fun k => by rw [h] at k; exact absurd k.2 (by simp))]
theorem highestAtV_yes {b o x : Int} {L S M : Nat} (h : ladOk b L o S M = true) (k0 : inB x 0 600 = true) : highestAtV b L o S M x = downR (fun u => decide (0 < ptAll b o L S M x (u : Int))) := by unfold highestAtV; rw [if_pos ⟨h, k0⟩]; simp only [Int.toNat_natCast]
def farthestForV (b l o s m y : Int) : Int × Bool := if ladOk b l o s m = true ∧ inB y 0 600 = true then downR (fun u => decide (0 < ptAll b o l.toNat s.toNat m.toNat (u : Int) y)) else (0, false)
theorem farthestForV_no0 {b l o s m y : Int} (h : ladOk b l o s m = false) : farthestForV b l o s m y = (0, false) := by unfold farthestForV; rw [if_neg (fun k => by rw [h] at k; exact absurd k.1 (by simp))]
theorem farthestForV_no1 {b l o s m y : Int} (h : inB y 0 600 = false) : farthestForV b l o s m y = (0, false) := by unfold farthestForV; rw [if_neg (fun k => by rw [h] at k; exact absurd k.2 (by simp))]
theorem farthestForV_yes {b o y : Int} {L S M : Nat} (h : ladOk b L o S M = true) (k0 : inB y 0 600 = true) : farthestForV b L o S M y = downR (fun u => decide (0 < ptAll b o L S M (u : Int) y)) := by unfold farthestForV; rw [if_pos ⟨h, k0⟩]; simp only [Int.toNat_natCast]
set_option maxRecDepth 100000 in
set_option maxHeartbeats 2000000 in
theorem highestAtS_c (b l o s m x : Int) (w : World) :
    Calls Tryd.prog 24 #[ldV b l o s m, .int .i64 x] w fun e w' => e = .returned (.tuple #[.int .i64 (highestAtV b l o s m x).1, .bool (highestAtV b l o s m x).2]) ∧ Below w.heap.size w w' := by
  have HV : ∀ r, highestAtV b l o s m x = r → Hid (highestAtV b l o s m x = r) := fun r h => Lib.hid h
  cases hok : ladOk b l o s m with
  | false =>
    have hv := HV _ (highestAtV_no0 hok)
    go_enter Tryd.func24, Tryd.ntmps24
    go_wp2_with (first | (go_at_call 53; refine (laGood_c _ _ _ _ _ _).mono ?_; rintro e w' ⟨rfl, hb1⟩; have hz1 : w.heap.size < w'.heap.size := Nat.lt_of_lt_of_le (by first | assumption | (simp; done) | (simp; assumption)) hb1.size; have k0 : w'.cell? ⟨w.heap.size, 0, none⟩ = some (.int .i64 b) := (hb1.cell (by first | assumption | (simp; done) | (simp; assumption))).trans (by first | assumption | (simp [go_sem]; done)); have k1 : w'.cell? ⟨w.heap.size, 1, none⟩ = some (.int .i64 l) := (hb1.cell (by first | assumption | (simp; done) | (simp; assumption))).trans (by first | assumption | (simp [go_sem]; done)); have k2 : w'.cell? ⟨w.heap.size, 2, none⟩ = some (.int .i64 o) := (hb1.cell (by first | assumption | (simp; done) | (simp; assumption))).trans (by first | assumption | (simp [go_sem]; done)); have k3 : w'.cell? ⟨w.heap.size, 3, none⟩ = some (.int .i64 s) := (hb1.cell (by first | assumption | (simp; done) | (simp; assumption))).trans (by first | assumption | (simp [go_sem]; done)); have k4 : w'.cell? ⟨w.heap.size, 4, none⟩ = some (.int .i64 m) := (hb1.cell (by first | assumption | (simp; done) | (simp; assumption))).trans (by first | assumption | (simp [go_sem]; done))) | (go_at_call 59; refine (laPoint_c _ _).mono ?_; rintro e w' ⟨rfl, rfl⟩))
    go_ret2
    rw [hv.out]
    exact ⟨rfl, (by repeat (first | exact Below.refl _ _ | assumption | refine bel_al ?_ _ | refine bel_dr ?_ | refine below_drewN ?_ _ | refine bel_then ?_ (by assumption)))⟩
  | true =>
    obtain ⟨b0, b1, l0, l1, o0, o1, s0, s1, m1⟩ := ladOk_true hok
    cases hp0 : inB x 0 600 with
    | false =>
      have hv := HV _ (highestAtV_no1 hp0)
      go_enter Tryd.func24, Tryd.ntmps24
      go_wp2_with (first | (go_at_call 53; refine (laGood_c _ _ _ _ _ _).mono ?_; rintro e w' ⟨rfl, hb1⟩; have hz1 : w.heap.size < w'.heap.size := Nat.lt_of_lt_of_le (by first | assumption | (simp; done) | (simp; assumption)) hb1.size; have k0 : w'.cell? ⟨w.heap.size, 0, none⟩ = some (.int .i64 b) := (hb1.cell (by first | assumption | (simp; done) | (simp; assumption))).trans (by first | assumption | (simp [go_sem]; done)); have k1 : w'.cell? ⟨w.heap.size, 1, none⟩ = some (.int .i64 l) := (hb1.cell (by first | assumption | (simp; done) | (simp; assumption))).trans (by first | assumption | (simp [go_sem]; done)); have k2 : w'.cell? ⟨w.heap.size, 2, none⟩ = some (.int .i64 o) := (hb1.cell (by first | assumption | (simp; done) | (simp; assumption))).trans (by first | assumption | (simp [go_sem]; done)); have k3 : w'.cell? ⟨w.heap.size, 3, none⟩ = some (.int .i64 s) := (hb1.cell (by first | assumption | (simp; done) | (simp; assumption))).trans (by first | assumption | (simp [go_sem]; done)); have k4 : w'.cell? ⟨w.heap.size, 4, none⟩ = some (.int .i64 m) := (hb1.cell (by first | assumption | (simp; done) | (simp; assumption))).trans (by first | assumption | (simp [go_sem]; done))) | (go_at_call 59; refine (laPoint_c _ _).mono ?_; rintro e w' ⟨rfl, rfl⟩))
      go_ret2
      rw [hv.out]
      exact ⟨rfl, (by repeat (first | exact Below.refl _ _ | assumption | refine bel_al ?_ _ | refine bel_dr ?_ | refine below_drewN ?_ _ | refine bel_then ?_ (by assumption)))⟩
    | true =>
      have hq0 := inB_true hp0
      obtain ⟨L, rfl⟩ : ∃ L : Nat, l = (L : Int) := ⟨l.toNat, by omega⟩
      obtain ⟨S, rfl⟩ : ∃ S : Nat, s = (S : Int) := ⟨s.toNat, by omega⟩
      obtain ⟨M, rfl⟩ : ∃ M : Nat, m = (M : Int) := ⟨m.toNat, by omega⟩
      have hv := HV _ (highestAtV_yes hok hp0)
      clear HV
      go_enter Tryd.func24, Tryd.ntmps24
      go_wp2_with (first | (go_at_call 53; refine (laGood_c _ _ _ _ _ _).mono ?_; rintro e w' ⟨rfl, hb1⟩; have hz1 : w.heap.size < w'.heap.size := Nat.lt_of_lt_of_le (by first | assumption | (simp; done) | (simp; assumption)) hb1.size; have k0 : w'.cell? ⟨w.heap.size, 0, none⟩ = some (.int .i64 b) := (hb1.cell (by first | assumption | (simp; done) | (simp; assumption))).trans (by first | assumption | (simp [go_sem]; done)); have k1 : w'.cell? ⟨w.heap.size, 1, none⟩ = some (.int .i64 (L : Int)) := (hb1.cell (by first | assumption | (simp; done) | (simp; assumption))).trans (by first | assumption | (simp [go_sem]; done)); have k2 : w'.cell? ⟨w.heap.size, 2, none⟩ = some (.int .i64 o) := (hb1.cell (by first | assumption | (simp; done) | (simp; assumption))).trans (by first | assumption | (simp [go_sem]; done)); have k3 : w'.cell? ⟨w.heap.size, 3, none⟩ = some (.int .i64 (S : Int)) := (hb1.cell (by first | assumption | (simp; done) | (simp; assumption))).trans (by first | assumption | (simp [go_sem]; done)); have k4 : w'.cell? ⟨w.heap.size, 4, none⟩ = some (.int .i64 (M : Int)) := (hb1.cell (by first | assumption | (simp; done) | (simp; assumption))).trans (by first | assumption | (simp [go_sem]; done))) | (go_at_call 59; refine (laPoint_c _ _).mono ?_; rintro e w' ⟨rfl, rfl⟩))
      have HBX : Hid (Below w.heap.size w w') := Lib.hid (bel_then (bel_al (Below.refl _ _) _) hb1)
      rw [highest_law b0 (by omega) (by omega)] at hv
      refine (laSines_c _).mono ?_; rintro e wS ⟨v, rfl, ho3, hb2⟩
      have j0 := (hb2.cell (p := ⟨w.heap.size, 0, none⟩) (by show w.heap.size < _; omega)).trans k0
      have j1 := (hb2.cell (p := ⟨w.heap.size, 1, none⟩) (by show w.heap.size < _; omega)).trans k1
      have j2 := (hb2.cell (p := ⟨w.heap.size, 2, none⟩) (by show w.heap.size < _; omega)).trans k2
      have j3 := (hb2.cell (p := ⟨w.heap.size, 3, none⟩) (by show w.heap.size < _; omega)).trans k3
      have j4 := (hb2.cell (p := ⟨w.heap.size, 4, none⟩) (by show w.heap.size < _; omega)).trans k4
      have HBS := Lib.hid (bel_then HBX.out hb2)
      have HV := Lib.hid (rdi_own ho3)
      have hsw : w.heap.size < wS.heap.size := World.block_lt_of_cell? wS _ j0
      clear hb2 ho3 k0 k1 k2 k3 k4 hb1 hz1 HBX
      go_wp2_with fail
      go_loopw [7, 8] (fun v7 v8 wr => ∃ (i : Nat) (B : Int), i ≤ M + 1 - S ∧ v8 = .int .i64 ((S : Int) + (i : Int)) ∧ v7 = .int .i64 B ∧ (-1 ≤ B ∧ B ≤ 600) ∧ Hid (angMax (hiP b o x) (hiF b) L S i = B) ∧ Hid (Below wS.heap.size wS wr)) (fun _ v8 _ => M + 1 - (intOf v8).toNat)
      case atStart => exact ⟨0, -1, Nat.zero_le _, by simp, rfl, by omega, Lib.hid rfl, Lib.hid (Below.refl _ _)⟩
      case round =>
       obtain ⟨i, B, hi, rfl, rfl, hB, HF, HB⟩ := hrel
       obtain ⟨wA, rfl⟩ : ∃ wA : World, wA = wr := ⟨_, rfl⟩
       have r4 := (HB.out.cell (p := ⟨w.heap.size, 4, none⟩) (by show w.heap.size < _; omega)).trans j4
       by_cases hlt : i < M + 1 - S
       · have hle : (S : Int) + (i : Int) ≤ (M : Int) := by omega
         have HI1 : Hid (i + 1 ≤ M + 1 - S) := Lib.hid (by omega)
         obtain ⟨q, hq⟩ : ∃ q : Nat, 90 - (S + i) = q := ⟨_, rfl⟩
         have hq90 : q ≤ 90 := by omega
         have hS90 : S + i ≤ 90 := by omega
         have e3 : IntKind.i64.wrap (90 - ((S : Int) + (i : Int))) = (q : Int) := by rw [IntWalk.i64_in _ (by omega)]; omega
         have i1 : (0 : Int) ≤ (S : Int) + (i : Int) := by omega
         have i2 : (0 : Int) ≤ (q : Int) := Int.natCast_nonneg _
         have i3 : (S : Int) + (i : Int) < 91 := by omega
         have i4 : (q : Int) < 91 := by omega
         have i5 : ((S : Int) + (i : Int)).toNat = S + i := by omega
         have eA : IntKind.i64.wrap ((S : Int) + (i : Int) + 1) = (S : Int) + ((i + 1 : Nat) : Int) := by rw [IntWalk.i64_in _ (by omega)]; omega
         have HQQ := Lib.hid hq
         clear hq
         go_wp2_with fail
         clear r4
         go_loopw [7, 9] (fun v7 v9 wr => ∃ (k : Nat) (C : Int), k ≤ L + 1 ∧ v9 = .int .i64 k ∧ v7 = .int .i64 C ∧ (-1 ≤ C ∧ C ≤ 600) ∧ Hid (lenMax (hiP b o x) (hiF b) (S + i) k B = C) ∧ Hid (Below wS.heap.size wS wr)) (fun _ v9 _ => L + 1 - (intOf v9).toNat)
         case atStart => exact ⟨0, B, Nat.zero_le _, rfl, rfl, hB, Lib.hid rfl, HB⟩
         case round =>
          obtain ⟨k, C, hk, rfl, rfl, hC, HG, HB2⟩ := hrel
          obtain ⟨wB, rfl⟩ : ∃ wB : World, wB = wr := ⟨_, rfl⟩
          have r0 := (HB2.out.cell (p := ⟨w.heap.size, 0, none⟩) (by show w.heap.size < _; omega)).trans j0
          have r1 := (HB2.out.cell (p := ⟨w.heap.size, 1, none⟩) (by show w.heap.size < _; omega)).trans j1
          have r2 := (HB2.out.cell (p := ⟨w.heap.size, 2, none⟩) (by show w.heap.size < _; omega)).trans j2
          by_cases hkl : k < L + 1
          · have hkL : (k : Int) ≤ (L : Int) := by omega
            have HI2 : Hid (k + 1 ≤ L + 1) := Lib.hid (by omega)
            have HI3 : Hid (L + 1 - (intOf (.int .i64 ((k : Int) + 1))).toNat < L + 1 - (intOf (.int .i64 (k : Int))).toNat) := Lib.hid (by simp [intOf]; omega)
            have eK : IntKind.i64.wrap ((k : Int) + 1) = (k : Int) + 1 := IntWalk.i64_in _ (by omega)
            obtain ⟨g, off, c, rfl, hc, hcm, hg, c1, c2⟩ := sin_cells (rdi_below HV.out HB2.out) hS90
            obtain ⟨p1, y1, f1⟩ := tip_facts (n := k) (a := S + i) hS90 (by omega)
            obtain ⟨p2, y2, f2⟩ := tip_facts (n := k) (a := 90 - (S + i)) (by omega) (by omega)
            have hY := f1.2.2.1
            have hX := f2.2.2.1
            obtain ⟨g1, g2, -, g4, g5⟩ := f1
            obtain ⟨k1, k2, -, k4, k5⟩ := f2
            have HL : Hid (lenMax (hiP b o x) (hiF b) (S + i) (k + 1) B = if x ≤ y2 ∧ y2 ≤ x + 1 ∧ y2 ≤ o ∧ b + y1 ≤ 601 then maxI C (minI (b + y1) 600) else C) := Lib.hid (by
              rw [lenMax_succ, HG.out]
              unfold hiP hiF
              rw [← hX, ← hY]
              simp only [Bool.and_eq_true, decide_eq_true_eq, and_assoc])
            have e5 : IntKind.i64.wrap (b + y1) = b + y1 := IntWalk.i64_in _ (by omega)
            have e6 : IntKind.i64.wrap (x + 1) = x + 1 := IntWalk.i64_in _ (by omega)
            rw [HQQ.out] at c2 k1
            clear hX hY
            go_wp2_with fail
            go_region
            by_cases hin : inB (y2) x (x + 1) = true
            · obtain ⟨hin0, hin1⟩ := inB_true hin
              by_cases hxo : y2 ≤ o
              · by_cases htl : b + y1 ≤ 601
                · have HLN : Hid (lenMax (hiP b o x) (hiF b) (S + i) (k + 1) B = maxI C (minI (b + y1) 600)) := Lib.hid (by rw [HL.out, if_pos ⟨hin0, hin1, hxo, htl⟩])
                  obtain ⟨d, hd⟩ : ∃ d, minI (b + y1) 600 = d := ⟨_, rfl⟩
                  have hd6 : d ≤ 600 := by rw [← hd, minI_eq]; omega
                  rw [hd] at HLN
                  go_wp2_with (go_at_call 54; refine (l1In_c _ _ _ _).mono ?_; rintro e w' ⟨rfl, rfl⟩)
                  refine (l1Least_c (b + y1) 600 _).mono ?_; rw [hd]; rintro e w2 ⟨rfl, rfl⟩
                  go_wp2_with fail
                  refine (l1Most_c C d _).mono ?_; rintro e w2 ⟨rfl, rfl⟩
                  go_wp2_with fail
                  exact ⟨⟨k + 1, _, HI2.out, by first | rfl | go_num, rfl, by rw [maxI_eq]; omega, HLN, Lib.hid (bel_dr HB2.out)⟩, HI3.out⟩
                · have HLN : Hid (lenMax (hiP b o x) (hiF b) (S + i) (k + 1) B = C) := Lib.hid (by rw [HL.out, if_neg (fun h => htl h.2.2.2)])
                  go_wp2_with (go_at_call 54; refine (l1In_c _ _ _ _).mono ?_; rintro e w' ⟨rfl, rfl⟩)
                  exact ⟨⟨k + 1, _, HI2.out, by first | rfl | go_num, rfl, hC, HLN, Lib.hid (bel_dr HB2.out)⟩, HI3.out⟩
              · have HLN : Hid (lenMax (hiP b o x) (hiF b) (S + i) (k + 1) B = C) := Lib.hid (by rw [HL.out, if_neg (fun h => hxo h.2.2.1)])
                go_wp2_with (go_at_call 54; refine (l1In_c _ _ _ _).mono ?_; rintro e w' ⟨rfl, rfl⟩)
                exact ⟨⟨k + 1, _, HI2.out, by first | rfl | go_num, rfl, hC, HLN, Lib.hid (bel_dr HB2.out)⟩, HI3.out⟩
            · have HLN : Hid (lenMax (hiP b o x) (hiF b) (S + i) (k + 1) B = C) := Lib.hid (by rw [HL.out, if_neg (fun h => hin (inB_of h.1 h.2.1))])
              have hin9 : inB (y2) x (x + 1) = false := by simpa using hin
              go_wp2_with (go_at_call 54; refine (l1In_c _ _ _ _).mono ?_; rintro e w' ⟨rfl, rfl⟩)
              exact ⟨⟨k + 1, _, HI2.out, by first | rfl | go_num, rfl, hC, HLN, Lib.hid (bel_dr HB2.out)⟩, HI3.out⟩
          · obtain rfl : k = L + 1 := by omega
            have hkL : (L : Int) < ((L + 1 : Nat) : Int) := by omega
            have HF2 : Hid (angMax (hiP b o x) (hiF b) L S (i + 1) = C) := Lib.hid (by rw [angMax_succ, HF.out]; exact HG.out)
            go_wp2
            exact ⟨⟨i + 1, C, HI1.out, rfl, rfl, hC, HF2, HB2⟩, by simp [intOf]; omega⟩
       · obtain rfl : i = M + 1 - S := by omega
         have hgt : (M : Int) < (S : Int) + ((M + 1 - S : Nat) : Int) := by omega
         rw [HF.out] at hv
         by_cases hB0 : B < 0
         · have HR : Hid (bestR B = (0, false)) := Lib.hid (by unfold bestR; rw [if_pos hB0])
           go_wp2
           go_ret2
           rw [hv.out, HR.out]
           exact ⟨rfl, bel_then HBS.out HB.out⟩
         · have HR : Hid (bestR B = (B, true)) := Lib.hid (by unfold bestR; rw [if_neg hB0])
           have hB1 : 0 ≤ B := by omega
           go_wp2
           go_ret2
           rw [hv.out, HR.out]
           exact ⟨rfl, bel_then HBS.out HB.out⟩
set_option maxRecDepth 100000 in
set_option maxHeartbeats 2000000 in
theorem highestAtI_c (b l o s m x : Int) (w : World) (ht : SinTab w) :
    Calls Tryd.prog 25 #[ldV b l o s m, .int .i64 x] w fun e w' => e = .returned (.tuple #[.int .i64 (highestAtV b l o s m x).1, .bool (highestAtV b l o s m x).2]) ∧ Below w.heap.size w w' := by
  have HV : ∀ r, highestAtV b l o s m x = r → Hid (highestAtV b l o s m x = r) := fun r h => Lib.hid h
  cases hok : ladOk b l o s m with
  | false =>
    have hv := HV _ (highestAtV_no0 hok)
    go_enter Tryd.func25, Tryd.ntmps25
    go_wp2_with (first | (go_at_call 56; refine (isLadder_c _ _ _ _ _ _).mono ?_; rintro e w' ⟨rfl, hb1⟩; have hz1 : w.heap.size < w'.heap.size := Nat.lt_of_lt_of_le (by first | assumption | (simp; done) | (simp; assumption)) hb1.size; have k0 : w'.cell? ⟨w.heap.size, 0, none⟩ = some (.int .i64 b) := (hb1.cell (by first | assumption | (simp; done) | (simp; assumption))).trans (by first | assumption | (simp [go_sem]; done)); have k1 : w'.cell? ⟨w.heap.size, 1, none⟩ = some (.int .i64 l) := (hb1.cell (by first | assumption | (simp; done) | (simp; assumption))).trans (by first | assumption | (simp [go_sem]; done)); have k2 : w'.cell? ⟨w.heap.size, 2, none⟩ = some (.int .i64 o) := (hb1.cell (by first | assumption | (simp; done) | (simp; assumption))).trans (by first | assumption | (simp [go_sem]; done)); have k3 : w'.cell? ⟨w.heap.size, 3, none⟩ = some (.int .i64 s) := (hb1.cell (by first | assumption | (simp; done) | (simp; assumption))).trans (by first | assumption | (simp [go_sem]; done)); have k4 : w'.cell? ⟨w.heap.size, 4, none⟩ = some (.int .i64 m) := (hb1.cell (by first | assumption | (simp; done) | (simp; assumption))).trans (by first | assumption | (simp [go_sem]; done))) | (go_at_call 57; refine (inside_c _ _ _ _).mono ?_; rintro e w' ⟨rfl, rfl⟩))
    go_ret2
    rw [hv.out]
    exact ⟨rfl, (by repeat (first | exact Below.refl _ _ | assumption | refine bel_al ?_ _ | refine bel_dr ?_ | refine below_drewN ?_ _ | refine bel_then ?_ (by assumption)))⟩
  | true =>
    obtain ⟨b0, b1, l0, l1, o0, o1, s0, s1, m1⟩ := ladOk_true hok
    cases hp0 : inB x 0 600 with
    | false =>
      have hv := HV _ (highestAtV_no1 hp0)
      go_enter Tryd.func25, Tryd.ntmps25
      go_wp2_with (first | (go_at_call 56; refine (isLadder_c _ _ _ _ _ _).mono ?_; rintro e w' ⟨rfl, hb1⟩; have hz1 : w.heap.size < w'.heap.size := Nat.lt_of_lt_of_le (by first | assumption | (simp; done) | (simp; assumption)) hb1.size; have k0 : w'.cell? ⟨w.heap.size, 0, none⟩ = some (.int .i64 b) := (hb1.cell (by first | assumption | (simp; done) | (simp; assumption))).trans (by first | assumption | (simp [go_sem]; done)); have k1 : w'.cell? ⟨w.heap.size, 1, none⟩ = some (.int .i64 l) := (hb1.cell (by first | assumption | (simp; done) | (simp; assumption))).trans (by first | assumption | (simp [go_sem]; done)); have k2 : w'.cell? ⟨w.heap.size, 2, none⟩ = some (.int .i64 o) := (hb1.cell (by first | assumption | (simp; done) | (simp; assumption))).trans (by first | assumption | (simp [go_sem]; done)); have k3 : w'.cell? ⟨w.heap.size, 3, none⟩ = some (.int .i64 s) := (hb1.cell (by first | assumption | (simp; done) | (simp; assumption))).trans (by first | assumption | (simp [go_sem]; done)); have k4 : w'.cell? ⟨w.heap.size, 4, none⟩ = some (.int .i64 m) := (hb1.cell (by first | assumption | (simp; done) | (simp; assumption))).trans (by first | assumption | (simp [go_sem]; done))) | (go_at_call 57; refine (inside_c _ _ _ _).mono ?_; rintro e w' ⟨rfl, rfl⟩))
      go_ret2
      rw [hv.out]
      exact ⟨rfl, (by repeat (first | exact Below.refl _ _ | assumption | refine bel_al ?_ _ | refine bel_dr ?_ | refine below_drewN ?_ _ | refine bel_then ?_ (by assumption)))⟩
    | true =>
      have hq0 := inB_true hp0
      obtain ⟨L, rfl⟩ : ∃ L : Nat, l = (L : Int) := ⟨l.toNat, by omega⟩
      obtain ⟨S, rfl⟩ : ∃ S : Nat, s = (S : Int) := ⟨s.toNat, by omega⟩
      obtain ⟨M, rfl⟩ : ∃ M : Nat, m = (M : Int) := ⟨m.toNat, by omega⟩
      have hv := HV _ (highestAtV_yes hok hp0)
      clear HV
      have HT := Lib.hid ht
      clear ht
      go_enter Tryd.func25, Tryd.ntmps25
      go_wp2_with (first | (go_at_call 56; refine (isLadder_c _ _ _ _ _ _).mono ?_; rintro e w' ⟨rfl, hb1⟩; have hz1 : w.heap.size < w'.heap.size := Nat.lt_of_lt_of_le (by first | assumption | (simp; done) | (simp; assumption)) hb1.size; have k0 : w'.cell? ⟨w.heap.size, 0, none⟩ = some (.int .i64 b) := (hb1.cell (by first | assumption | (simp; done) | (simp; assumption))).trans (by first | assumption | (simp [go_sem]; done)); have k1 : w'.cell? ⟨w.heap.size, 1, none⟩ = some (.int .i64 (L : Int)) := (hb1.cell (by first | assumption | (simp; done) | (simp; assumption))).trans (by first | assumption | (simp [go_sem]; done)); have k2 : w'.cell? ⟨w.heap.size, 2, none⟩ = some (.int .i64 o) := (hb1.cell (by first | assumption | (simp; done) | (simp; assumption))).trans (by first | assumption | (simp [go_sem]; done)); have k3 : w'.cell? ⟨w.heap.size, 3, none⟩ = some (.int .i64 (S : Int)) := (hb1.cell (by first | assumption | (simp; done) | (simp; assumption))).trans (by first | assumption | (simp [go_sem]; done)); have k4 : w'.cell? ⟨w.heap.size, 4, none⟩ = some (.int .i64 (M : Int)) := (hb1.cell (by first | assumption | (simp; done) | (simp; assumption))).trans (by first | assumption | (simp [go_sem]; done))) | (go_at_call 57; refine (inside_c _ _ _ _).mono ?_; rintro e w' ⟨rfl, rfl⟩))
      have HBX : Hid (Below w.heap.size w w') := Lib.hid (bel_then (bel_al (Below.refl _ _) _) hb1)
      refine (reach_c b o L S M _ ⟨b0, b1⟩ (by omega) ⟨o0, o1⟩ (by omega) (by omega) (sinTab_below HT.out HBX.out)).mono ?_; rintro e w2 ⟨B, n, D, rfl, hB, hn, hM, hD, hb2⟩
      have HB2 := Lib.hid (bel_then HBX.out hb2)
      have HM := Lib.hid hM
      have HD := Lib.hid hD
      clear hM hD hb2
      have HKA := Lib.hid (wf_sm (x := x) (by omega))
      obtain ⟨R, hR⟩ : ∃ R : Nat → Bool, (fun u : Nat => decide (0 < ptAll b o L S M x (u : Int))) = R := ⟨_, rfl⟩
      have HR : Hid (∀ u, R u = decide (0 < ptAll b o L S M x (u : Int))) := Lib.hid (fun u => by rw [← hR])
      rw [hR] at hv
      clear hR
      go_wp2_with fail
      go_loopw [7] (fun v7 wr => ∃ k : Int, -1 ≤ k ∧ k ≤ 600 ∧ v7 = .int .i64 k ∧ Hid (∀ u : Nat, k < (u : Int) → u ≤ 600 → R u = false) ∧ wr = w2) (fun v7 _ => (intOf v7 + 1).toNat)
      case atStart => exact ⟨600, by omega, by omega, rfl, Lib.hid (fun u h1 h2 => by omega), rfl⟩
      case round =>
       obtain ⟨k, hk0, hk1, rfl, HN, rfl⟩ := hrel
       by_cases hlt : 0 ≤ k
       · obtain ⟨u, rfl⟩ : ∃ u : Nat, k = (u : Int) := ⟨k.toNat, by omega⟩
         have HKU := Lib.hid (wf_sm (x := (u : Int)) (by omega))
         have eU : IntKind.i64.wrap ((u : Int) - 1) = (u : Int) - 1 := IntWalk.i64_in _ (by omega)
         cases hu : R u with
         | true =>
           have hd : downR R = ((u : Int), true) := by unfold downR; rw [downF_some (u := u) (by omega) hu (fun v h1 h2 => HN.out v (by omega) h2)]
           have HD2 := Lib.hid hd
           have hpos : 0 < ptAll b o L S M x (u : Int) := of_decide_eq_true (by rw [← HR.out]; exact hu)
           obtain ⟨pv, hpv⟩ : ∃ pv, ptAll b o L S M x (u : Int) = pv := ⟨_, rfl⟩
           rw [hpv] at hpos
           have HPV := Lib.hid hpv
           clear hpv hd hu
           go_wp2_with (at_lookup; refine wpList_lookup_own_int _ rfl _ _ 74 rfl 76 3 .i64 pt_keyed Tryd.underlying74 Tryd.underlying3 (zero_int _) B n D rfl HM.out (ptA x (u : Int)) (ptK x (u : Int)) rfl (keyOf_pt HKA.out HKU.out) ?_; intro c hat _; obtain rfl : c = pv := (ptsD_at HD.out (by omega) (by omega) hat).trans HPV.out; clear hat)
           go_ret2
           rw [hv.out, HD2.out]
           exact ⟨rfl, HB2.out⟩
         | false =>
           have hpos : ¬ 0 < ptAll b o L S M x (u : Int) := of_decide_eq_false (by rw [← HR.out]; exact hu)
           have HN2 : Hid (∀ v : Nat, (u : Int) - 1 < (v : Int) → v ≤ 600 → R v = false) := Lib.hid (fun v h1 h2 => by
             by_cases e : v = u
             · rw [e]; exact hu
             · exact HN.out v (by omega) h2)
           obtain ⟨pv, hpv⟩ : ∃ pv, ptAll b o L S M x (u : Int) = pv := ⟨_, rfl⟩
           rw [hpv] at hpos
           have hpos2 : pv ≤ 0 := by omega
           have HPV := Lib.hid hpv
           clear hpv hu hpos
           go_wp2_with (at_lookup; refine wpList_lookup_own_int _ rfl _ _ 74 rfl 76 3 .i64 pt_keyed Tryd.underlying74 Tryd.underlying3 (zero_int _) B n D rfl HM.out (ptA x (u : Int)) (ptK x (u : Int)) rfl (keyOf_pt HKA.out HKU.out) ?_; intro c hat _; obtain rfl : c = pv := (ptsD_at HD.out (by omega) (by omega) hat).trans HPV.out; clear hat)
           exact ⟨⟨(u : Int) - 1, by omega, by omega, rfl, HN2, (by first | rfl | trivial)⟩, by simp [intOf] <;> omega⟩
       · have hk9 : k < 0 := by omega
         have hd : downR R = (0, false) := by unfold downR; rw [downF_none (fun v hv2 => HN.out v (by omega) hv2)]
         have HD2 := Lib.hid hd
         clear hd
         go_wp2
         go_ret2
         rw [hv.out, HD2.out]
         exact ⟨rfl, HB2.out⟩
set_option maxRecDepth 100000 in
set_option maxHeartbeats 2000000 in
theorem farthestForS_c (b l o s m y : Int) (w : World) :
    Calls Tryd.prog 22 #[ldV b l o s m, .int .i64 y] w fun e w' => e = .returned (.tuple #[.int .i64 (farthestForV b l o s m y).1, .bool (farthestForV b l o s m y).2]) ∧ Below w.heap.size w w' := by
  have HV : ∀ r, farthestForV b l o s m y = r → Hid (farthestForV b l o s m y = r) := fun r h => Lib.hid h
  cases hok : ladOk b l o s m with
  | false =>
    have hv := HV _ (farthestForV_no0 hok)
    go_enter Tryd.func22, Tryd.ntmps22
    go_wp2_with (first | (go_at_call 53; refine (laGood_c _ _ _ _ _ _).mono ?_; rintro e w' ⟨rfl, hb1⟩; have hz1 : w.heap.size < w'.heap.size := Nat.lt_of_lt_of_le (by first | assumption | (simp; done) | (simp; assumption)) hb1.size; have k0 : w'.cell? ⟨w.heap.size, 0, none⟩ = some (.int .i64 b) := (hb1.cell (by first | assumption | (simp; done) | (simp; assumption))).trans (by first | assumption | (simp [go_sem]; done)); have k1 : w'.cell? ⟨w.heap.size, 1, none⟩ = some (.int .i64 l) := (hb1.cell (by first | assumption | (simp; done) | (simp; assumption))).trans (by first | assumption | (simp [go_sem]; done)); have k2 : w'.cell? ⟨w.heap.size, 2, none⟩ = some (.int .i64 o) := (hb1.cell (by first | assumption | (simp; done) | (simp; assumption))).trans (by first | assumption | (simp [go_sem]; done)); have k3 : w'.cell? ⟨w.heap.size, 3, none⟩ = some (.int .i64 s) := (hb1.cell (by first | assumption | (simp; done) | (simp; assumption))).trans (by first | assumption | (simp [go_sem]; done)); have k4 : w'.cell? ⟨w.heap.size, 4, none⟩ = some (.int .i64 m) := (hb1.cell (by first | assumption | (simp; done) | (simp; assumption))).trans (by first | assumption | (simp [go_sem]; done))) | (go_at_call 59; refine (laPoint_c _ _).mono ?_; rintro e w' ⟨rfl, rfl⟩))
    go_ret2
    rw [hv.out]
    exact ⟨rfl, (by repeat (first | exact Below.refl _ _ | assumption | refine bel_al ?_ _ | refine bel_dr ?_ | refine below_drewN ?_ _ | refine bel_then ?_ (by assumption)))⟩
  | true =>
    obtain ⟨b0, b1, l0, l1, o0, o1, s0, s1, m1⟩ := ladOk_true hok
    cases hp0 : inB y 0 600 with
    | false =>
      have hv := HV _ (farthestForV_no1 hp0)
      go_enter Tryd.func22, Tryd.ntmps22
      go_wp2_with (first | (go_at_call 53; refine (laGood_c _ _ _ _ _ _).mono ?_; rintro e w' ⟨rfl, hb1⟩; have hz1 : w.heap.size < w'.heap.size := Nat.lt_of_lt_of_le (by first | assumption | (simp; done) | (simp; assumption)) hb1.size; have k0 : w'.cell? ⟨w.heap.size, 0, none⟩ = some (.int .i64 b) := (hb1.cell (by first | assumption | (simp; done) | (simp; assumption))).trans (by first | assumption | (simp [go_sem]; done)); have k1 : w'.cell? ⟨w.heap.size, 1, none⟩ = some (.int .i64 l) := (hb1.cell (by first | assumption | (simp; done) | (simp; assumption))).trans (by first | assumption | (simp [go_sem]; done)); have k2 : w'.cell? ⟨w.heap.size, 2, none⟩ = some (.int .i64 o) := (hb1.cell (by first | assumption | (simp; done) | (simp; assumption))).trans (by first | assumption | (simp [go_sem]; done)); have k3 : w'.cell? ⟨w.heap.size, 3, none⟩ = some (.int .i64 s) := (hb1.cell (by first | assumption | (simp; done) | (simp; assumption))).trans (by first | assumption | (simp [go_sem]; done)); have k4 : w'.cell? ⟨w.heap.size, 4, none⟩ = some (.int .i64 m) := (hb1.cell (by first | assumption | (simp; done) | (simp; assumption))).trans (by first | assumption | (simp [go_sem]; done))) | (go_at_call 59; refine (laPoint_c _ _).mono ?_; rintro e w' ⟨rfl, rfl⟩))
      go_ret2
      rw [hv.out]
      exact ⟨rfl, (by repeat (first | exact Below.refl _ _ | assumption | refine bel_al ?_ _ | refine bel_dr ?_ | refine below_drewN ?_ _ | refine bel_then ?_ (by assumption)))⟩
    | true =>
      have hq0 := inB_true hp0
      obtain ⟨L, rfl⟩ : ∃ L : Nat, l = (L : Int) := ⟨l.toNat, by omega⟩
      obtain ⟨S, rfl⟩ : ∃ S : Nat, s = (S : Int) := ⟨s.toNat, by omega⟩
      obtain ⟨M, rfl⟩ : ∃ M : Nat, m = (M : Int) := ⟨m.toNat, by omega⟩
      have hv := HV _ (farthestForV_yes hok hp0)
      clear HV
      go_enter Tryd.func22, Tryd.ntmps22
      go_wp2_with (first | (go_at_call 53; refine (laGood_c _ _ _ _ _ _).mono ?_; rintro e w' ⟨rfl, hb1⟩; have hz1 : w.heap.size < w'.heap.size := Nat.lt_of_lt_of_le (by first | assumption | (simp; done) | (simp; assumption)) hb1.size; have k0 : w'.cell? ⟨w.heap.size, 0, none⟩ = some (.int .i64 b) := (hb1.cell (by first | assumption | (simp; done) | (simp; assumption))).trans (by first | assumption | (simp [go_sem]; done)); have k1 : w'.cell? ⟨w.heap.size, 1, none⟩ = some (.int .i64 (L : Int)) := (hb1.cell (by first | assumption | (simp; done) | (simp; assumption))).trans (by first | assumption | (simp [go_sem]; done)); have k2 : w'.cell? ⟨w.heap.size, 2, none⟩ = some (.int .i64 o) := (hb1.cell (by first | assumption | (simp; done) | (simp; assumption))).trans (by first | assumption | (simp [go_sem]; done)); have k3 : w'.cell? ⟨w.heap.size, 3, none⟩ = some (.int .i64 (S : Int)) := (hb1.cell (by first | assumption | (simp; done) | (simp; assumption))).trans (by first | assumption | (simp [go_sem]; done)); have k4 : w'.cell? ⟨w.heap.size, 4, none⟩ = some (.int .i64 (M : Int)) := (hb1.cell (by first | assumption | (simp; done) | (simp; assumption))).trans (by first | assumption | (simp [go_sem]; done))) | (go_at_call 59; refine (laPoint_c _ _).mono ?_; rintro e w' ⟨rfl, rfl⟩))
      have HBX : Hid (Below w.heap.size w w') := Lib.hid (bel_then (bel_al (Below.refl _ _) _) hb1)
      rw [farthest_law (by omega) (by omega) (by omega)] at hv
      refine (laSines_c _).mono ?_; rintro e wS ⟨v, rfl, ho3, hb2⟩
      have j0 := (hb2.cell (p := ⟨w.heap.size, 0, none⟩) (by show w.heap.size < _; omega)).trans k0
      have j1 := (hb2.cell (p := ⟨w.heap.size, 1, none⟩) (by show w.heap.size < _; omega)).trans k1
      have j2 := (hb2.cell (p := ⟨w.heap.size, 2, none⟩) (by show w.heap.size < _; omega)).trans k2
      have j3 := (hb2.cell (p := ⟨w.heap.size, 3, none⟩) (by show w.heap.size < _; omega)).trans k3
      have j4 := (hb2.cell (p := ⟨w.heap.size, 4, none⟩) (by show w.heap.size < _; omega)).trans k4
      have HBS := Lib.hid (bel_then HBX.out hb2)
      have HV := Lib.hid (rdi_own ho3)
      have hsw : w.heap.size < wS.heap.size := World.block_lt_of_cell? wS _ j0
      clear hb2 ho3 k0 k1 k2 k3 k4 hb1 hz1 HBX
      go_wp2_with fail
      go_loopw [7, 8] (fun v7 v8 wr => ∃ (i : Nat) (B : Int), i ≤ M + 1 - S ∧ v8 = .int .i64 ((S : Int) + (i : Int)) ∧ v7 = .int .i64 B ∧ (-1 ≤ B ∧ B ≤ 600) ∧ Hid (angMax (faP b o y) (faF) L S i = B) ∧ Hid (Below wS.heap.size wS wr)) (fun _ v8 _ => M + 1 - (intOf v8).toNat)
      case atStart => exact ⟨0, -1, Nat.zero_le _, by simp, rfl, by omega, Lib.hid rfl, Lib.hid (Below.refl _ _)⟩
      case round =>
       obtain ⟨i, B, hi, rfl, rfl, hB, HF, HB⟩ := hrel
       obtain ⟨wA, rfl⟩ : ∃ wA : World, wA = wr := ⟨_, rfl⟩
       have r4 := (HB.out.cell (p := ⟨w.heap.size, 4, none⟩) (by show w.heap.size < _; omega)).trans j4
       by_cases hlt : i < M + 1 - S
       · have hle : (S : Int) + (i : Int) ≤ (M : Int) := by omega
         have HI1 : Hid (i + 1 ≤ M + 1 - S) := Lib.hid (by omega)
         obtain ⟨q, hq⟩ : ∃ q : Nat, 90 - (S + i) = q := ⟨_, rfl⟩
         have hq90 : q ≤ 90 := by omega
         have hS90 : S + i ≤ 90 := by omega
         have e3 : IntKind.i64.wrap (90 - ((S : Int) + (i : Int))) = (q : Int) := by rw [IntWalk.i64_in _ (by omega)]; omega
         have i1 : (0 : Int) ≤ (S : Int) + (i : Int) := by omega
         have i2 : (0 : Int) ≤ (q : Int) := Int.natCast_nonneg _
         have i3 : (S : Int) + (i : Int) < 91 := by omega
         have i4 : (q : Int) < 91 := by omega
         have i5 : ((S : Int) + (i : Int)).toNat = S + i := by omega
         have eA : IntKind.i64.wrap ((S : Int) + (i : Int) + 1) = (S : Int) + ((i + 1 : Nat) : Int) := by rw [IntWalk.i64_in _ (by omega)]; omega
         have HQQ := Lib.hid hq
         clear hq
         go_wp2_with fail
         clear r4
         go_loopw [7, 9] (fun v7 v9 wr => ∃ (k : Nat) (C : Int), k ≤ L + 1 ∧ v9 = .int .i64 k ∧ v7 = .int .i64 C ∧ (-1 ≤ C ∧ C ≤ 600) ∧ Hid (lenMax (faP b o y) (faF) (S + i) k B = C) ∧ Hid (Below wS.heap.size wS wr)) (fun _ v9 _ => L + 1 - (intOf v9).toNat)
         case atStart => exact ⟨0, B, Nat.zero_le _, rfl, rfl, hB, Lib.hid rfl, HB⟩
         case round =>
          obtain ⟨k, C, hk, rfl, rfl, hC, HG, HB2⟩ := hrel
          obtain ⟨wB, rfl⟩ : ∃ wB : World, wB = wr := ⟨_, rfl⟩
          have r0 := (HB2.out.cell (p := ⟨w.heap.size, 0, none⟩) (by show w.heap.size < _; omega)).trans j0
          have r1 := (HB2.out.cell (p := ⟨w.heap.size, 1, none⟩) (by show w.heap.size < _; omega)).trans j1
          have r2 := (HB2.out.cell (p := ⟨w.heap.size, 2, none⟩) (by show w.heap.size < _; omega)).trans j2
          by_cases hkl : k < L + 1
          · have hkL : (k : Int) ≤ (L : Int) := by omega
            have HI2 : Hid (k + 1 ≤ L + 1) := Lib.hid (by omega)
            have HI3 : Hid (L + 1 - (intOf (.int .i64 ((k : Int) + 1))).toNat < L + 1 - (intOf (.int .i64 (k : Int))).toNat) := Lib.hid (by simp [intOf]; omega)
            have eK : IntKind.i64.wrap ((k : Int) + 1) = (k : Int) + 1 := IntWalk.i64_in _ (by omega)
            obtain ⟨g, off, c, rfl, hc, hcm, hg, c1, c2⟩ := sin_cells (rdi_below HV.out HB2.out) hS90
            obtain ⟨p1, y1, f1⟩ := tip_facts (n := k) (a := S + i) hS90 (by omega)
            obtain ⟨p2, y2, f2⟩ := tip_facts (n := k) (a := 90 - (S + i)) (by omega) (by omega)
            have hY := f1.2.2.1
            have hX := f2.2.2.1
            obtain ⟨g1, g2, -, g4, g5⟩ := f1
            obtain ⟨k1, k2, -, k4, k5⟩ := f2
            have HL : Hid (lenMax (faP b o y) (faF) (S + i) (k + 1) B = if y ≤ b + y1 ∧ b + y1 ≤ y + 1 ∧ y2 ≤ o then maxI C (y2) else C) := Lib.hid (by
              rw [lenMax_succ, HG.out]
              unfold faP faF
              rw [← hX, ← hY]
              simp only [Bool.and_eq_true, decide_eq_true_eq, and_assoc])
            have e5 : IntKind.i64.wrap (b + y1) = b + y1 := IntWalk.i64_in _ (by omega)
            have e6 : IntKind.i64.wrap (y + 1) = y + 1 := IntWalk.i64_in _ (by omega)
            rw [HQQ.out] at c2 k1
            clear hX hY
            go_wp2_with fail
            go_region
            by_cases hin : inB (b + y1) y (y + 1) = true
            · obtain ⟨hin0, hin1⟩ := inB_true hin
              by_cases hxo : y2 ≤ o
              · have HLN : Hid (lenMax (faP b o y) (faF) (S + i) (k + 1) B = maxI C y2) := Lib.hid (by rw [HL.out, if_pos ⟨hin0, hin1, hxo⟩])
                go_wp2_with (go_at_call 54; refine (l1In_c _ _ _ _).mono ?_; rintro e w' ⟨rfl, rfl⟩)
                refine (l1Most_c C y2 _).mono ?_; rintro e w2 ⟨rfl, rfl⟩
                go_wp2_with fail
                exact ⟨⟨k + 1, _, HI2.out, by first | rfl | go_num, rfl, by rw [maxI_eq]; omega, HLN, Lib.hid (bel_dr HB2.out)⟩, HI3.out⟩
              · have HLN : Hid (lenMax (faP b o y) (faF) (S + i) (k + 1) B = C) := Lib.hid (by rw [HL.out, if_neg (fun h => hxo h.2.2)])
                go_wp2_with (go_at_call 54; refine (l1In_c _ _ _ _).mono ?_; rintro e w' ⟨rfl, rfl⟩)
                exact ⟨⟨k + 1, _, HI2.out, by first | rfl | go_num, rfl, hC, HLN, Lib.hid (bel_dr HB2.out)⟩, HI3.out⟩
            · have HLN : Hid (lenMax (faP b o y) (faF) (S + i) (k + 1) B = C) := Lib.hid (by rw [HL.out, if_neg (fun h => hin (inB_of h.1 h.2.1))])
              have hin9 : inB (b + y1) y (y + 1) = false := by simpa using hin
              go_wp2_with (go_at_call 54; refine (l1In_c _ _ _ _).mono ?_; rintro e w' ⟨rfl, rfl⟩)
              exact ⟨⟨k + 1, _, HI2.out, by first | rfl | go_num, rfl, hC, HLN, Lib.hid (bel_dr HB2.out)⟩, HI3.out⟩
          · obtain rfl : k = L + 1 := by omega
            have hkL : (L : Int) < ((L + 1 : Nat) : Int) := by omega
            have HF2 : Hid (angMax (faP b o y) (faF) L S (i + 1) = C) := Lib.hid (by rw [angMax_succ, HF.out]; exact HG.out)
            go_wp2
            exact ⟨⟨i + 1, C, HI1.out, rfl, rfl, hC, HF2, HB2⟩, by simp [intOf]; omega⟩
       · obtain rfl : i = M + 1 - S := by omega
         have hgt : (M : Int) < (S : Int) + ((M + 1 - S : Nat) : Int) := by omega
         rw [HF.out] at hv
         by_cases hB0 : B < 0
         · have HR : Hid (bestR B = (0, false)) := Lib.hid (by unfold bestR; rw [if_pos hB0])
           go_wp2
           go_ret2
           rw [hv.out, HR.out]
           exact ⟨rfl, bel_then HBS.out HB.out⟩
         · have HR : Hid (bestR B = (B, true)) := Lib.hid (by unfold bestR; rw [if_neg hB0])
           have hB1 : 0 ≤ B := by omega
           go_wp2
           go_ret2
           rw [hv.out, HR.out]
           exact ⟨rfl, bel_then HBS.out HB.out⟩
set_option maxRecDepth 100000 in
set_option maxHeartbeats 2000000 in
theorem farthestForI_c (b l o s m y : Int) (w : World) (ht : SinTab w) :
    Calls Tryd.prog 23 #[ldV b l o s m, .int .i64 y] w fun e w' => e = .returned (.tuple #[.int .i64 (farthestForV b l o s m y).1, .bool (farthestForV b l o s m y).2]) ∧ Below w.heap.size w w' := by
  have HV : ∀ r, farthestForV b l o s m y = r → Hid (farthestForV b l o s m y = r) := fun r h => Lib.hid h
  cases hok : ladOk b l o s m with
  | false =>
    have hv := HV _ (farthestForV_no0 hok)
    go_enter Tryd.func23, Tryd.ntmps23
    go_wp2_with (first | (go_at_call 56; refine (isLadder_c _ _ _ _ _ _).mono ?_; rintro e w' ⟨rfl, hb1⟩; have hz1 : w.heap.size < w'.heap.size := Nat.lt_of_lt_of_le (by first | assumption | (simp; done) | (simp; assumption)) hb1.size; have k0 : w'.cell? ⟨w.heap.size, 0, none⟩ = some (.int .i64 b) := (hb1.cell (by first | assumption | (simp; done) | (simp; assumption))).trans (by first | assumption | (simp [go_sem]; done)); have k1 : w'.cell? ⟨w.heap.size, 1, none⟩ = some (.int .i64 l) := (hb1.cell (by first | assumption | (simp; done) | (simp; assumption))).trans (by first | assumption | (simp [go_sem]; done)); have k2 : w'.cell? ⟨w.heap.size, 2, none⟩ = some (.int .i64 o) := (hb1.cell (by first | assumption | (simp; done) | (simp; assumption))).trans (by first | assumption | (simp [go_sem]; done)); have k3 : w'.cell? ⟨w.heap.size, 3, none⟩ = some (.int .i64 s) := (hb1.cell (by first | assumption | (simp; done) | (simp; assumption))).trans (by first | assumption | (simp [go_sem]; done)); have k4 : w'.cell? ⟨w.heap.size, 4, none⟩ = some (.int .i64 m) := (hb1.cell (by first | assumption | (simp; done) | (simp; assumption))).trans (by first | assumption | (simp [go_sem]; done))) | (go_at_call 57; refine (inside_c _ _ _ _).mono ?_; rintro e w' ⟨rfl, rfl⟩))
    go_ret2
    rw [hv.out]
    exact ⟨rfl, (by repeat (first | exact Below.refl _ _ | assumption | refine bel_al ?_ _ | refine bel_dr ?_ | refine below_drewN ?_ _ | refine bel_then ?_ (by assumption)))⟩
  | true =>
    obtain ⟨b0, b1, l0, l1, o0, o1, s0, s1, m1⟩ := ladOk_true hok
    cases hp0 : inB y 0 600 with
    | false =>
      have hv := HV _ (farthestForV_no1 hp0)
      go_enter Tryd.func23, Tryd.ntmps23
      go_wp2_with (first | (go_at_call 56; refine (isLadder_c _ _ _ _ _ _).mono ?_; rintro e w' ⟨rfl, hb1⟩; have hz1 : w.heap.size < w'.heap.size := Nat.lt_of_lt_of_le (by first | assumption | (simp; done) | (simp; assumption)) hb1.size; have k0 : w'.cell? ⟨w.heap.size, 0, none⟩ = some (.int .i64 b) := (hb1.cell (by first | assumption | (simp; done) | (simp; assumption))).trans (by first | assumption | (simp [go_sem]; done)); have k1 : w'.cell? ⟨w.heap.size, 1, none⟩ = some (.int .i64 l) := (hb1.cell (by first | assumption | (simp; done) | (simp; assumption))).trans (by first | assumption | (simp [go_sem]; done)); have k2 : w'.cell? ⟨w.heap.size, 2, none⟩ = some (.int .i64 o) := (hb1.cell (by first | assumption | (simp; done) | (simp; assumption))).trans (by first | assumption | (simp [go_sem]; done)); have k3 : w'.cell? ⟨w.heap.size, 3, none⟩ = some (.int .i64 s) := (hb1.cell (by first | assumption | (simp; done) | (simp; assumption))).trans (by first | assumption | (simp [go_sem]; done)); have k4 : w'.cell? ⟨w.heap.size, 4, none⟩ = some (.int .i64 m) := (hb1.cell (by first | assumption | (simp; done) | (simp; assumption))).trans (by first | assumption | (simp [go_sem]; done))) | (go_at_call 57; refine (inside_c _ _ _ _).mono ?_; rintro e w' ⟨rfl, rfl⟩))
      go_ret2
      rw [hv.out]
      exact ⟨rfl, (by repeat (first | exact Below.refl _ _ | assumption | refine bel_al ?_ _ | refine bel_dr ?_ | refine below_drewN ?_ _ | refine bel_then ?_ (by assumption)))⟩
    | true =>
      have hq0 := inB_true hp0
      obtain ⟨L, rfl⟩ : ∃ L : Nat, l = (L : Int) := ⟨l.toNat, by omega⟩
      obtain ⟨S, rfl⟩ : ∃ S : Nat, s = (S : Int) := ⟨s.toNat, by omega⟩
      obtain ⟨M, rfl⟩ : ∃ M : Nat, m = (M : Int) := ⟨m.toNat, by omega⟩
      have hv := HV _ (farthestForV_yes hok hp0)
      clear HV
      have HT := Lib.hid ht
      clear ht
      go_enter Tryd.func23, Tryd.ntmps23
      go_wp2_with (first | (go_at_call 56; refine (isLadder_c _ _ _ _ _ _).mono ?_; rintro e w' ⟨rfl, hb1⟩; have hz1 : w.heap.size < w'.heap.size := Nat.lt_of_lt_of_le (by first | assumption | (simp; done) | (simp; assumption)) hb1.size; have k0 : w'.cell? ⟨w.heap.size, 0, none⟩ = some (.int .i64 b) := (hb1.cell (by first | assumption | (simp; done) | (simp; assumption))).trans (by first | assumption | (simp [go_sem]; done)); have k1 : w'.cell? ⟨w.heap.size, 1, none⟩ = some (.int .i64 (L : Int)) := (hb1.cell (by first | assumption | (simp; done) | (simp; assumption))).trans (by first | assumption | (simp [go_sem]; done)); have k2 : w'.cell? ⟨w.heap.size, 2, none⟩ = some (.int .i64 o) := (hb1.cell (by first | assumption | (simp; done) | (simp; assumption))).trans (by first | assumption | (simp [go_sem]; done)); have k3 : w'.cell? ⟨w.heap.size, 3, none⟩ = some (.int .i64 (S : Int)) := (hb1.cell (by first | assumption | (simp; done) | (simp; assumption))).trans (by first | assumption | (simp [go_sem]; done)); have k4 : w'.cell? ⟨w.heap.size, 4, none⟩ = some (.int .i64 (M : Int)) := (hb1.cell (by first | assumption | (simp; done) | (simp; assumption))).trans (by first | assumption | (simp [go_sem]; done))) | (go_at_call 57; refine (inside_c _ _ _ _).mono ?_; rintro e w' ⟨rfl, rfl⟩))
      have HBX : Hid (Below w.heap.size w w') := Lib.hid (bel_then (bel_al (Below.refl _ _) _) hb1)
      refine (reach_c b o L S M _ ⟨b0, b1⟩ (by omega) ⟨o0, o1⟩ (by omega) (by omega) (sinTab_below HT.out HBX.out)).mono ?_; rintro e w2 ⟨B, n, D, rfl, hB, hn, hM, hD, hb2⟩
      have HB2 := Lib.hid (bel_then HBX.out hb2)
      have HM := Lib.hid hM
      have HD := Lib.hid hD
      clear hM hD hb2
      have HKA := Lib.hid (wf_sm (x := y) (by omega))
      obtain ⟨R, hR⟩ : ∃ R : Nat → Bool, (fun u : Nat => decide (0 < ptAll b o L S M (u : Int) y)) = R := ⟨_, rfl⟩
      have HR : Hid (∀ u, R u = decide (0 < ptAll b o L S M (u : Int) y)) := Lib.hid (fun u => by rw [← hR])
      rw [hR] at hv
      clear hR
      go_wp2_with fail
      go_loopw [7] (fun v7 wr => ∃ k : Int, -1 ≤ k ∧ k ≤ 600 ∧ v7 = .int .i64 k ∧ Hid (∀ u : Nat, k < (u : Int) → u ≤ 600 → R u = false) ∧ wr = w2) (fun v7 _ => (intOf v7 + 1).toNat)
      case atStart => exact ⟨600, by omega, by omega, rfl, Lib.hid (fun u h1 h2 => by omega), rfl⟩
      case round =>
       obtain ⟨k, hk0, hk1, rfl, HN, rfl⟩ := hrel
       by_cases hlt : 0 ≤ k
       · obtain ⟨u, rfl⟩ : ∃ u : Nat, k = (u : Int) := ⟨k.toNat, by omega⟩
         have HKU := Lib.hid (wf_sm (x := (u : Int)) (by omega))
         have eU : IntKind.i64.wrap ((u : Int) - 1) = (u : Int) - 1 := IntWalk.i64_in _ (by omega)
         cases hu : R u with
         | true =>
           have hd : downR R = ((u : Int), true) := by unfold downR; rw [downF_some (u := u) (by omega) hu (fun v h1 h2 => HN.out v (by omega) h2)]
           have HD2 := Lib.hid hd
           have hpos : 0 < ptAll b o L S M (u : Int) y := of_decide_eq_true (by rw [← HR.out]; exact hu)
           obtain ⟨pv, hpv⟩ : ∃ pv, ptAll b o L S M (u : Int) y = pv := ⟨_, rfl⟩
           rw [hpv] at hpos
           have HPV := Lib.hid hpv
           clear hpv hd hu
           go_wp2_with (at_lookup; refine wpList_lookup_own_int _ rfl _ _ 74 rfl 76 3 .i64 pt_keyed Tryd.underlying74 Tryd.underlying3 (zero_int _) B n D rfl HM.out (ptA (u : Int) y) (ptK (u : Int) y) rfl (keyOf_pt HKU.out HKA.out) ?_; intro c hat _; obtain rfl : c = pv := (ptsD_at HD.out (by omega) (by omega) hat).trans HPV.out; clear hat)
           go_ret2
           rw [hv.out, HD2.out]
           exact ⟨rfl, HB2.out⟩
         | false =>
           have hpos : ¬ 0 < ptAll b o L S M (u : Int) y := of_decide_eq_false (by rw [← HR.out]; exact hu)
           have HN2 : Hid (∀ v : Nat, (u : Int) - 1 < (v : Int) → v ≤ 600 → R v = false) := Lib.hid (fun v h1 h2 => by
             by_cases e : v = u
             · rw [e]; exact hu
             · exact HN.out v (by omega) h2)
           obtain ⟨pv, hpv⟩ : ∃ pv, ptAll b o L S M (u : Int) y = pv := ⟨_, rfl⟩
           rw [hpv] at hpos
           have hpos2 : pv ≤ 0 := by omega
           have HPV := Lib.hid hpv
           clear hpv hu hpos
           go_wp2_with (at_lookup; refine wpList_lookup_own_int _ rfl _ _ 74 rfl 76 3 .i64 pt_keyed Tryd.underlying74 Tryd.underlying3 (zero_int _) B n D rfl HM.out (ptA (u : Int) y) (ptK (u : Int) y) rfl (keyOf_pt HKU.out HKA.out) ?_; intro c hat _; obtain rfl : c = pv := (ptsD_at HD.out (by omega) (by omega) hat).trans HPV.out; clear hat)
           exact ⟨⟨(u : Int) - 1, by omega, by omega, rfl, HN2, (by first | rfl | trivial)⟩, by simp [intOf] <;> omega⟩
       · have hk9 : k < 0 := by omega
         have hd : downR R = (0, false) := by unfold downR; rw [downF_none (fun v hv2 => HN.out v (by omega) hv2)]
         have HD2 := Lib.hid hd
         clear hd
         go_wp2
         go_ret2
         rw [hv.out, HD2.out]
         exact ⟨rfl, HB2.out⟩
end Go.Proofs.YtibkadkodblefaaDoor
