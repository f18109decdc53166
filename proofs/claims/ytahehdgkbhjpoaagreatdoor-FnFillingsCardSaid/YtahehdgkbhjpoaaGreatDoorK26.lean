/-
  MovesText: both sides. (joined by pack.py: MvText)
-/
import Derived.Test.YtahehdgkbhjpoaaGreatDoorK11
import Derived.Test.YtahehdgkbhjpoaaGreatDoorK25
import Derived.Deep.RegionLaw
namespace Go.Proofs.YtahehdgkbhjpoaaGreatDoor
set_option linter.unusedVariables false
set_option linter.unusedSimpArgs false
open Go.RowKit

def mvOne (p q r : List Int) (k : Nat) : ByteArray :=
  if 0 ≤ r.getD k (-1) then numB (p.getD (r.getD k (-1)).toNat 0).toNat ++ ⟨#[62]⟩ ++ numB (q.getD k 0).toNat ++ ⟨#[59]⟩ else ⟨#[]⟩
def mvTextT (p q r : List Int) : Nat → ByteArray
  | 0 => ⟨#[]⟩
  | k + 1 => if 0 ≤ r.getD k (-1) then mvTextT p q r k ++ mvOne p q r k else mvTextT p q r k
def movesTextV (p q r : List Int) : ByteArray × Bool := if goodMv 14 [] p q = true ∧ goodOn p.length q.length r = true then (mvTextT p q r r.length, true) else (⟨#[]⟩, false)
theorem moves_no1 {p q r : List Int} (h : goodMv 14 [] p q = false) : movesTextV p q r = (⟨#[]⟩, false) := by unfold movesTextV; rw [if_neg (by rw [h]; simp)]
theorem moves_no2 {p q r : List Int} (h : goodOn p.length q.length r = false) : movesTextV p q r = (⟨#[]⟩, false) := by unfold movesTextV; rw [if_neg (by rw [h]; simp)]
theorem moves_yes {p q r : List Int} (h : goodMv 14 [] p q = true) (h2 : goodOn p.length q.length r = true) : movesTextV p q r = (mvTextT p q r r.length, true) := by unfold movesTextV; rw [if_pos ⟨h, h2⟩]
theorem mvT_yes {p q r : List Int} {k m a b : Nat} (hm : r[k]? = some (m : Int)) (ha : p[m]? = some (a : Int)) (hb : q[k]? = some (b : Int)) : mvTextT p q r (k + 1) = mvTextT p q r k ++ (numB a ++ ⟨#[62]⟩ ++ numB b ++ ⟨#[59]⟩) := by
  have h1 : r.getD k (-1) = (m : Int) := by simp [List.getD, hm]
  have h2 : p.getD m 0 = (a : Int) := by simp [List.getD, ha]
  have h3 : q.getD k 0 = (b : Int) := by simp [List.getD, hb]
  simp only [mvTextT, mvOne, h1]
  rw [if_pos (Int.natCast_nonneg _), if_pos (Int.natCast_nonneg _), Int.toNat_natCast, h2, h3, Int.toNat_natCast, Int.toNat_natCast]
theorem mvT_no {p q r : List Int} {k : Nat} {x : Int} (hm : r[k]? = some x) (h : x < 0) : mvTextT p q r (k + 1) = mvTextT p q r k := by
  have h1 : r.getD k (-1) = x := by simp [List.getD, hm]
  simp only [mvTextT, h1]
  rw [if_neg (by omega)]
theorem one_size {A B : ByteArray} (ha : A.size ≤ 2) (hb : B.size ≤ 2) : (A ++ ⟨#[62]⟩ ++ B ++ ⟨#[59]⟩).size ≤ 6 := by
  rw [ByteArray.size_append, ByteArray.size_append, ByteArray.size_append]
  have h1 : (⟨#[62]⟩ : ByteArray).size = 1 := rfl
  have h2 : (⟨#[59]⟩ : ByteArray).size = 1 := rfl
  omega
def MovesIs (p q r : List Int) (w : World) (e : Ending) (w' : World) : Prop :=
  e = .returned (.tuple #[.string (movesTextV p q r).1, .bool (movesTextV p q r).2]) ∧ Below w.heap.size w w'
theorem natOf {x n : Int} (h0 : 0 ≤ x) (h1 : x ≤ n) : ∃ k : Nat, x = (k : Int) ∧ (k : Int) ≤ n := by
  obtain ⟨k, rfl⟩ := Int.eq_ofNat_of_zero_le h0
  exact ⟨k, rfl, h1⟩

set_option maxRecDepth 100000 in
set_option maxHeartbeats 4000000 in
theorem movesTextI_c (v : Value) (p : List Int) (u : Value) (q : List Int) (t : Value) (r : List Int) (w : World) (hp : RdI w v p) (hq : RdI w u q) (hr : RdI w t r) :
    Calls Tryz.prog 15 #[v, u, t] w (MovesIs p q r w) := by
  have HP := Lib.hid hp
  have HQ := Lib.hid hq
  have HR := Lib.hid hr
  obtain ⟨A, c, rfl, hc, hm, hcp⟩ := hp
  rw [maxLen_eq] at hm
  have HCP := Lib.hid hcp
  obtain ⟨A2, c2, rfl, hc2, hm2, hcq⟩ := hq
  rw [maxLen_eq] at hm2
  have HCQ := Lib.hid hcq
  obtain ⟨A3, c3, rfl, hc3, hm3, hcr⟩ := hr
  rw [maxLen_eq] at hm3
  have HCR := Lib.hid hcr
  clear hcp hcq hcr
  go_enter Tryz.func15, Tryz.ntmps15
  go_wp2_with fail
  generalize hW : World.alloc w _ = w0
  have t0 : w0.cell? ⟨w.heap.size, 0, none⟩ = some (.int .i64 14) := by subst hW; simp [go_sem]
  have t1 : w0.cell? ⟨w.heap.size, 1, none⟩ = some (.slice none 0 0) := by subst hW; simp [go_sem]
  have HB := Lib.hid (show Below w.heap.size w w0 by subst hW; exact bel_al (Below.refl _ _) _)
  clear hW
  refine (moversFit_c 14 (.slice none 0 0) [] _ _ p q w.heap.size _ t0 t1 ⟨none, 0, rfl, Nat.le_refl _, Nat.zero_le _, fun h => absurd h (by simp)⟩ (rd_below HP.out HB.out) (rd_below HQ.out HB.out)).mono ?_; rintro e w2 ⟨rfl, hb1⟩
  have HB1 := Lib.hid (bel_then HB.out hb1)
  clear t0 t1 hb1
  by_cases hg : goodMv 14 [] p q = true
  · have HG := Lib.hid hg
    rw [hg]
    obtain ⟨_, hqb, hq6, hp7, hpb⟩ := goodMv_true hg
    have HQB := Lib.hid hqb
    have HPB := Lib.hid hpb
    clear hg hqb hpb
    go_wp2_with fail
    refine (isAssignment_c p.length q.length _ r _ hp7 hq6 (rd_below HR.out HB1.out)).mono ?_; rintro e w3 ⟨rfl, rfl⟩
    by_cases ha : goodOn p.length q.length r = true
    · have HV := Lib.hid (moves_yes HG.out ha)
      rw [ha]
      obtain ⟨hrl, hrb⟩ := goodOn_true ha
      have HRL := Lib.hid hrl
      have HRB := Lib.hid hrb
      have hr6 : r.length ≤ 6 := by omega
      clear ha hrl hrb
      go_wp2_with fail
      go_loopw [8, 28] (fun vo vi wr => ∃ (k p2 : Nat) (S : ByteArray), k ≤ r.length ∧ S.size ≤ 6 * k ∧ vi = .int .i64 k ∧ vo = .string S ∧ Hid (mvTextT p q r k = S) ∧ wr = w2.drewN p2) (fun _ vi _ => r.length - (intOf vi).toNat)
      case atStart => exact ⟨0, 0, ⟨#[]⟩, Nat.zero_le _, Nat.le_refl _, rfl, rfl, Lib.hid rfl, rfl⟩
      case round =>
        obtain ⟨k, p2, S, hk, hS, rfl, rfl, HS, rfl⟩ := hrel
        have HBP := Lib.hid (below_drewN HB1.out p2)
        obtain ⟨wP, hwP⟩ : ∃ wP, w2.drewN p2 = wP := ⟨_, rfl⟩
        rw [hwP] at HBP
        by_cases hlt : k < r.length
        · obtain ⟨b3, off3, rfl, hb3, hcl3⟩ := HCR.out (by omega)
          obtain ⟨x, hx⟩ : ∃ x, r[k]? = some x := ⟨_, List.getElem?_eq_getElem hlt⟩
          have hxb := HRB.out x (List.mem_of_getElem? hx)
          have cr := cell_at hcl3 HBP.out hb3 (ints_get hx)
          have HX := Lib.hid hx
          clear hcl3 hx
          by_cases hx0 : 0 ≤ x
          · obtain ⟨m, rfl, hm1⟩ := natOf hx0 hxb.2
            have hmp : m < p.length := by omega
            obtain ⟨b1, off1, rfl, hb1, hcl1⟩ := HCP.out (by omega)
            obtain ⟨a0, ha0⟩ : ∃ a, p[m]? = some a := ⟨_, List.getElem?_eq_getElem hmp⟩
            obtain ⟨a, rfl, ha13⟩ := natOf (HPB.out a0 (List.mem_of_getElem? ha0)).1 (HPB.out a0 (List.mem_of_getElem? ha0)).2
            have hkq : k < q.length := by have := HRL.out; omega
            obtain ⟨b2, off2, rfl, hb2, hcl2⟩ := HCQ.out (by omega)
            obtain ⟨s0, hs0⟩ : ∃ a, q[k]? = some a := ⟨_, List.getElem?_eq_getElem hkq⟩
            obtain ⟨s, rfl, hs13⟩ := natOf (HQB.out s0 (List.mem_of_getElem? hs0)).1 (HQB.out s0 (List.mem_of_getElem? hs0)).2
            have ca := cell_at hcl1 HBP.out hb1 (ints_get ha0)
            have cs := cell_at hcl2 HBP.out hb2 (ints_get hs0)
            have HT := Lib.hid (mvT_yes HX.out ha0 hs0)
            have m0 : (0 : Int) ≤ (m : Int) := Int.natCast_nonneg _
            have m1 : (m : Int) < (p.length : Int) := by omega
            have k0 : (0 : Int) ≤ (k : Int) := Int.natCast_nonneg _
            have k1 : (k : Int) < (q.length : Int) := by omega
            have ha14 : a < 14 := by omega
            have hs14 : s < 14 := by omega
            have z1 := numB_size a
            have z2 := numB_size s
            have z3 := one_size z1 z2
            have z4 : (numB a ++ ⟨#[62]⟩).size ≤ 3 := by rw [ByteArray.size_append]; have : (⟨#[62]⟩ : ByteArray).size = 1 := rfl; omega
            have z5 : (numB a ++ ⟨#[62]⟩ ++ numB s).size ≤ 5 := by rw [ByteArray.size_append]; omega
            clear hcl1 hcl2 ha0 hs0 hxb
            rw [hwP]
            go_wp2_with fail
            go_quiet (first | (go_at_call 43; exact Calls.quiet_of_same ((itoa_c a _ ha14).mono fun _ _ h => ⟨h.1, h.2.symm⟩)) | (go_at_call 43; exact Calls.quiet_of_same ((itoa_c s _ hs14).mono fun _ _ h => ⟨h.1, h.2.symm⟩)))
            go_wp2
            refine ⟨⟨k + 1, p2 + nq, _, by omega, ?_, by go_num, rfl, Lib.hid (by rw [HT.out, HS.out]), by rw [← hwP, World.drewN_drewN]⟩, by simp [intOf]; omega⟩
            rw [ByteArray.size_append]; omega
          · have hx1 : x < 0 := by omega
            have HT := Lib.hid (mvT_no (p := p) (q := q) HX.out hx1)
            clear hx0
            rw [hwP]
            go_wp2
            exact ⟨⟨k + 1, p2, S, by omega, by omega, by go_num, rfl, Lib.hid (by rw [HT.out, HS.out]), hwP.symm⟩, by simp [intOf]; omega⟩
        · obtain rfl : k = r.length := by omega
          rw [hwP]
          go_wp2
          go_ret2
          unfold MovesIs
          rw [HV.out, HS.out]
          exact ⟨rfl, HBP.out⟩
    · have ha : goodOn p.length q.length r = false := by simpa using ha
      have HV := Lib.hid (moves_no2 ha)
      rw [ha]
      go_wp2
      go_ret2
      unfold MovesIs
      rw [HV.out]
      exact ⟨rfl, HB1.out⟩
  · have hg : goodMv 14 [] p q = false := by simpa using hg
    have HV := Lib.hid (moves_no1 (r := r) hg)
    rw [hg]
    go_wp2
    go_ret2
    unfold MovesIs
    rw [HV.out]
    exact ⟨rfl, HB1.out⟩

theorem mv14 (p q : List Int) : goodMv 14 [] p q = ((rising 0 13 q && decide (q.length ≤ 6)) && (decide (p.length ≤ 7) && p.all (fun x => inB x 0 13))) := by
  unfold goodMv goodSta
  have : goodTown 14 [] = true := by decide
  rw [this]; rfl
set_option maxRecDepth 100000 in
set_option maxHeartbeats 4000000 in
theorem movesTextS_c (v : Value) (p : List Int) (u : Value) (q : List Int) (t : Value) (r : List Int) (w : World) (hp : RdI w v p) (hq : RdI w u q) (hr : RdI w t r) :
    Calls Tryz.prog 16 #[v, u, t] w (MovesIs p q r w) := by
  have HP := Lib.hid hp
  have HQ := Lib.hid hq
  have HR := Lib.hid hr
  obtain ⟨A, c, rfl, hc, hm, hcp⟩ := hp
  rw [maxLen_eq] at hm
  have HCP := Lib.hid hcp
  obtain ⟨A2, c2, rfl, hc2, hm2, hcq⟩ := hq
  rw [maxLen_eq] at hm2
  have HCQ := Lib.hid hcq
  obtain ⟨A3, c3, rfl, hc3, hm3, hcr⟩ := hr
  rw [maxLen_eq] at hm3
  have HCR := Lib.hid hcr
  have HM := Lib.hid (mv14 p q)
  clear hcp hcq hcr
  by_cases h7 : p.length ≤ 7
  · have e7 : decide ((7 : Int) < (p.length : Int)) = false := decide_eq_false (by omega)
    by_cases h6 : q.length ≤ 6
    · have e6 : decide ((6 : Int) < (q.length : Int)) = false := decide_eq_false (by omega)
      go_enter Tryz.func16, Tryz.ntmps16
      go_wp2_with fail
      refine (allI_c _ p 0 13 _ HP.out).mono ?_; rintro e w2 ⟨rfl, rfl⟩
      by_cases hpa : (p.all fun n => inB n 0 13) = true
      · rw [hpa]
        go_wp2_with fail
        refine (l1Rising_c _ q 0 13 _ HQ.out).mono ?_; rintro e w2 ⟨rfl, hb1⟩
        have HB1 := Lib.hid hb1
        clear hb1
        by_cases hri : rising 0 13 q = true
        · have hg : goodMv 14 [] p q = true := by rw [HM.out, hri, hpa, decide_eq_true h6, decide_eq_true h7]; rfl
          have HG := Lib.hid hg
          rw [hri]
          obtain ⟨_, hqb, _, _, hpb⟩ := goodMv_true hg
          have HQB := Lib.hid hqb
          have HPB := Lib.hid hpb
          clear hg hqb hpb hri hpa
          go_wp2_with fail
          refine (mvOnce_c _ _ _ p q r _ h7 (rd_below HP.out HB1.out) (rd_below HQ.out HB1.out) (rd_below HR.out HB1.out)).mono ?_; rintro e w3 ⟨rfl, rfl⟩
          by_cases ha : goodOn p.length q.length r = true
          · have HV := Lib.hid (moves_yes HG.out ha)
            rw [ha]
            obtain ⟨hrl, hrb⟩ := goodOn_true ha
            have HRL := Lib.hid hrl
            have HRB := Lib.hid hrb
            have hr6 : r.length ≤ 6 := by omega
            clear ha hrl hrb
            go_wp2_with fail
            go_loopw [8, 38] (fun vo vi wr => ∃ (k : Nat) (S : ByteArray), k ≤ r.length ∧ S.size ≤ 6 * k ∧ vi = .int .i64 k ∧ vo = .string S ∧ Hid (mvTextT p q r k = S) ∧ Hid (Below w.heap.size w wr)) (fun _ vi _ => r.length - (intOf vi).toNat)
            case atStart => exact ⟨0, ⟨#[]⟩, Nat.zero_le _, Nat.le_refl _, rfl, rfl, Lib.hid rfl, HB1⟩
            case round =>
              obtain ⟨k, S, hk, hS, rfl, rfl, HS, HBP⟩ := hrel
              obtain ⟨wA, rfl⟩ : ∃ wA : World, wA = wr := ⟨_, rfl⟩
              have hsA := HBP.out.size
              by_cases hlt : k < r.length
              · obtain ⟨b3, off3, rfl, hb3, hcl3⟩ := HCR.out (by omega)
                obtain ⟨x, hx⟩ : ∃ x, r[k]? = some x := ⟨_, List.getElem?_eq_getElem hlt⟩
                have hxb := HRB.out x (List.mem_of_getElem? hx)
                have cr := cell_at hcl3 HBP.out hb3 (ints_get hx)
                have HX := Lib.hid hx
                clear hcl3 hx
                by_cases hx0 : 0 ≤ x
                · obtain ⟨m, rfl, hm1⟩ := natOf hx0 hxb.2
                  have hmp : m < p.length := by omega
                  obtain ⟨b1, off1, rfl, hb1, hcl1⟩ := HCP.out (by omega)
                  obtain ⟨a0, ha0⟩ : ∃ a, p[m]? = some a := ⟨_, List.getElem?_eq_getElem hmp⟩
                  obtain ⟨a, rfl, ha13⟩ := natOf (HPB.out a0 (List.mem_of_getElem? ha0)).1 (HPB.out a0 (List.mem_of_getElem? ha0)).2
                  have hkq : k < q.length := by have := HRL.out; omega
                  obtain ⟨b2, off2, rfl, hb2, hcl2⟩ := HCQ.out (by omega)
                  obtain ⟨s0, hs0⟩ : ∃ a, q[k]? = some a := ⟨_, List.getElem?_eq_getElem hkq⟩
                  obtain ⟨s, rfl, hs13⟩ := natOf (HQB.out s0 (List.mem_of_getElem? hs0)).1 (HQB.out s0 (List.mem_of_getElem? hs0)).2
                  have ca := cell_at hcl1 HBP.out hb1 (ints_get ha0)
                  have cs := cell_at hcl2 HBP.out hb2 (ints_get hs0)
                  have HT := Lib.hid (mvT_yes HX.out ha0 hs0)
                  have m0 : (0 : Int) ≤ (m : Int) := Int.natCast_nonneg _
                  have m1 : (m : Int) < (p.length : Int) := by omega
                  have k0 : (0 : Int) ≤ (k : Int) := Int.natCast_nonneg _
                  have k1 : (k : Int) < (q.length : Int) := by omega
                  have ha100 : a < 100 := by omega
                  have hs100 : s < 100 := by omega
                  have z1 := numB_size a
                  have z2 := numB_size s
                  have z3 := one_size z1 z2
                  have z4 : (numB a ++ ⟨#[62]⟩).size ≤ 3 := by rw [ByteArray.size_append]; have : (⟨#[62]⟩ : ByteArray).size = 1 := rfl; omega
                  have z5 : (numB a ++ ⟨#[62]⟩ ++ numB s).size ≤ 5 := by rw [ByteArray.size_append]; omega
                  have y1 : (numB a).size + 1 ≤ 9223372036854775807 := by omega
                  have y2 : (numB a ++ ⟨#[62]⟩).size + (numB s).size ≤ 9223372036854775807 := by omega
                  have y3 : (numB a ++ ⟨#[62]⟩ ++ numB s).size + 1 ≤ 9223372036854775807 := by omega
                  have y4 : S.size + (numB a ++ ⟨#[62]⟩ ++ numB s ++ ⟨#[59]⟩).size ≤ 9223372036854775807 := by omega
                  have y5 : (numB a).size + 1 + (numB s).size ≤ 9223372036854775807 := by omega
                  have y6 : (numB a).size + 1 + (numB s).size + 1 ≤ 9223372036854775807 := by omega
                  have y7 : S.size + ((numB a).size + 1 + (numB s).size + 1) ≤ 9223372036854775807 := by omega
                  clear hcl1 hcl2 ha0 hs0 hxb
                  go_wp2_with fail
                  ((refine wp_region_held_drew (S := fun w' => w'.cell? ⟨b1, off1 + m, none⟩ = some (.int .i64 a) ∧ w'.cell? ⟨b2, off2 + k, none⟩ = some (.int .i64 s)) (by kernel_rfl) (by (try dsimp only); first | go_keep | (go_split_ands; refine ⟨?_, ?_⟩ <;> assumption)) (fun hHeld => ?_)); (refine wpAnyH_take (i := 0) (v := ?_) (arr_get g_z) (by kernel_rfl) (by kernel_rfl) (by kernel_rfl) (fun _ _ _ h => h) (Or.inl ⟨by rfl, ?_⟩) hHeld ?_; rotate_left; (focus (intro w hSw; (try dsimp only at hSw); go_simp; try (first | (with_reducible rfl) | (rw [if_neg (by (try simp only [ByteArray.size_append]); omega)])))); try simp only [Act.put, List.setIfInBounds_toArray, List.set_cons_zero, List.set_cons_succ]); (refine wpAnyH_take (i := 1) (v := ?_) (arr_get (g_s g_z)) (by kernel_rfl) (by kernel_rfl) (by kernel_rfl) (fun _ _ _ h => h) (Or.inl ⟨by rfl, ?_⟩) hHeld ?_; rotate_left; (focus (intro w hSw; (try dsimp only at hSw); go_simp; try (first | (with_reducible rfl) | (rw [if_neg (by (try simp only [ByteArray.size_append]); omega)])))); try simp only [Act.put, List.setIfInBounds_toArray, List.set_cons_zero, List.set_cons_succ]); (refine wpAnyH_take (i := 2) (v := ?_) (arr_get (g_s (g_s g_z))) (by kernel_rfl) (by kernel_rfl) (by kernel_rfl) (fun _ _ _ h => h) (Or.inl ⟨by rfl, ?_⟩) hHeld ?_; rotate_left; (focus (intro w hSw; (try dsimp only at hSw); go_simp; try (first | (with_reducible rfl) | (rw [if_neg (by (try simp only [ByteArray.size_append]); omega)])))); try simp only [Act.put, List.setIfInBounds_toArray, List.set_cons_zero, List.set_cons_succ]); (refine wpAnyH_take (i := 3) (v := ?_) (arr_get (g_s (g_s (g_s g_z)))) (by kernel_rfl) (by kernel_rfl) (by kernel_rfl) (fun _ _ _ h => h) (Or.inl ⟨by rfl, ?_⟩) hHeld ?_; rotate_left; (focus (intro w hSw; (try dsimp only at hSw); go_simp; try (first | (with_reducible rfl) | (rw [if_neg (by (try simp only [ByteArray.size_append]); omega)])))); try simp only [Act.put, List.setIfInBounds_toArray, List.set_cons_zero, List.set_cons_succ]); (refine wpAnyH_take (i := 4) (v := ?_) (arr_get (g_s (g_s (g_s (g_s g_z))))) (by kernel_rfl) (by kernel_rfl) (by kernel_rfl) (fun _ _ _ h => h) (Or.inl ⟨by rfl, ?_⟩) hHeld ?_; rotate_left; (focus (intro w hSw; (try dsimp only at hSw); go_simp; try (first | (with_reducible rfl) | (rw [if_neg (by (try simp only [ByteArray.size_append]); omega)])))); try simp only [Act.put, List.setIfInBounds_toArray, List.set_cons_zero, List.set_cons_succ]); (refine wpAnyH_take (i := 7) (v := ?_) (arr_get (g_s (g_s (g_s (g_s (g_s (g_s (g_s g_z)))))))) (by kernel_rfl) (by kernel_rfl) (by kernel_rfl) (fun _ _ _ h => h) (Or.inl ⟨by rfl, ?_⟩) hHeld ?_; rotate_left; (focus (intro w hSw; (try dsimp only at hSw); go_simp; try (first | (with_reducible rfl) | (rw [if_neg (by (try simp only [ByteArray.size_append]); omega)])))); try simp only [Act.put, List.setIfInBounds_toArray, List.set_cons_zero, List.set_cons_succ]); (refine wpAnyH_take (i := 8) (v := ?_) (arr_get (g_s (g_s (g_s (g_s (g_s (g_s (g_s (g_s g_z))))))))) (by kernel_rfl) (by kernel_rfl) (by kernel_rfl) (fun _ _ _ h => h) (Or.inl ⟨by rfl, ?_⟩) hHeld ?_; rotate_left; (focus (intro w hSw; (try dsimp only at hSw); go_simp; try (first | (with_reducible rfl) | (rw [if_neg (by (try simp only [ByteArray.size_append]); omega)])))); try simp only [Act.put, List.setIfInBounds_toArray, List.set_cons_zero, List.set_cons_succ]); (refine wpAnyH_take (i := 9) (v := ?_) (arr_get (g_s (g_s (g_s (g_s (g_s (g_s (g_s (g_s (g_s g_z)))))))))) (by kernel_rfl) (by kernel_rfl) (by kernel_rfl) (fun _ _ _ h => h) (Or.inl ⟨by rfl, ?_⟩) hHeld ?_; rotate_left; (focus (intro w hSw; (try dsimp only at hSw); go_simp; try (first | (with_reducible rfl) | (rw [if_neg (by (try simp only [ByteArray.size_append]); omega)])))); try simp only [Act.put, List.setIfInBounds_toArray, List.set_cons_zero, List.set_cons_succ]); (refine wpAnyH_take (i := 10) (v := ?_) (arr_get (g_s (g_s (g_s (g_s (g_s (g_s (g_s (g_s (g_s (g_s g_z))))))))))) (by kernel_rfl) (by kernel_rfl) (by kernel_rfl) (fun _ _ _ h => h) (Or.inl ⟨by rfl, ?_⟩) hHeld ?_; rotate_left; (focus (intro w hSw; (try dsimp only at hSw); go_simp; try (first | (with_reducible rfl) | (rw [if_neg (by (try simp only [ByteArray.size_append]); omega)])))); try simp only [Act.put, List.setIfInBounds_toArray, List.set_cons_zero, List.set_cons_succ]); (refine wpAnyH_ready (rs := [5]) (by kernel_rfl) (by simp) ?_); (refine AllReadyH.cons (i := 5) (arr_get (g_s (g_s (g_s (g_s (g_s g_z)))))) (fun K hK => ?_) AllReadyH.nil); (go_simp); ((go_at_call 46; refine (l1Num_c a wA.drew ha100).mono ?_; rintro e wX ⟨rfl, hb1⟩; have hbX := hb1; have hsX : wA.heap.size ≤ wX.heap.size := hb1.size)); (try (go_wp2_with fail)); (refine hK.out _ _ (by (try dsimp only); (go_split_ands; refine ⟨?_, ?_⟩ <;> (rw [hb1.cell (by first | assumption | (simp; omega))]; assumption))) (fun hHeld2 => ?_)); (clear hHeld hK); (clear K); (have hHeld := hHeld2); (clear hHeld2); (try simp only [Act.put, List.setIfInBounds_toArray, List.set_cons_zero, List.set_cons_succ]); (refine wpAnyH_take (i := 6) (v := ?_) (arr_get (g_s (g_s (g_s (g_s (g_s (g_s g_z))))))) (by kernel_rfl) (by kernel_rfl) (by kernel_rfl) (fun _ _ _ h => h) (Or.inl ⟨by rfl, ?_⟩) hHeld ?_; rotate_left; (focus (intro w hSw; (try dsimp only at hSw); go_simp; try (first | (with_reducible rfl) | (rw [if_neg (by (try simp only [ByteArray.size_append]); omega)])))); try simp only [Act.put, List.setIfInBounds_toArray, List.set_cons_zero, List.set_cons_succ]); (refine wpAnyH_ready (rs := [11]) (by kernel_rfl) (by simp) ?_); (refine AllReadyH.cons (i := 11) (arr_get (g_s (g_s (g_s (g_s (g_s (g_s (g_s (g_s (g_s (g_s (g_s g_z)))))))))))) (fun K hK => ?_) AllReadyH.nil); (go_simp); ((go_at_call 46; refine (l1Num_c s wX hs100).mono ?_; rintro e wY ⟨rfl, hb1⟩; have hsY := hb1.size)); (try (go_wp2_with fail)); (refine hK.out _ _ (by (try dsimp only); (go_split_ands; refine ⟨?_, ?_⟩ <;> (rw [hb1.cell (by first | assumption | (simp; omega))]; assumption))) (fun hHeld2 => ?_)); (clear hHeld hK); (clear K); (have hHeld := hHeld2); (clear hHeld2); (try simp only [Act.put, List.setIfInBounds_toArray, List.set_cons_zero, List.set_cons_succ]); (refine wpAnyH_take (i := 12) (v := ?_) (arr_get (g_s (g_s (g_s (g_s (g_s (g_s (g_s (g_s (g_s (g_s (g_s (g_s g_z))))))))))))) (by kernel_rfl) (by kernel_rfl) (by kernel_rfl) (fun _ _ _ h => h) (Or.inl ⟨by rfl, ?_⟩) hHeld ?_; rotate_left; (focus (intro w hSw; (try dsimp only at hSw); go_simp; try (first | (with_reducible rfl) | (rw [if_neg (by (try simp only [ByteArray.size_append]); omega)])))); try simp only [Act.put, List.setIfInBounds_toArray, List.set_cons_zero, List.set_cons_succ]); (refine wpAnyH_take (i := 13) (v := ?_) (arr_get (g_s (g_s (g_s (g_s (g_s (g_s (g_s (g_s (g_s (g_s (g_s (g_s (g_s g_z)))))))))))))) (by kernel_rfl) (by kernel_rfl) (by kernel_rfl) (fun _ _ _ h => h) (Or.inl ⟨by rfl, ?_⟩) hHeld ?_; rotate_left; (focus (intro w hSw; (try dsimp only at hSw); go_simp; try (first | (with_reducible rfl) | (rw [if_neg (by (try simp only [ByteArray.size_append]); omega)])))); try simp only [Act.put, List.setIfInBounds_toArray, List.set_cons_zero, List.set_cons_succ]); (refine wpAnyH_take (i := 14) (v := ?_) (arr_get (g_s (g_s (g_s (g_s (g_s (g_s (g_s (g_s (g_s (g_s (g_s (g_s (g_s (g_s g_z))))))))))))))) (by kernel_rfl) (by kernel_rfl) (by kernel_rfl) (fun _ _ _ h => h) (Or.inl ⟨by rfl, ?_⟩) hHeld ?_; rotate_left; (focus (intro w hSw; (try dsimp only at hSw); go_simp; try (first | (with_reducible rfl) | (rw [if_neg (by (try simp only [ByteArray.size_append]); omega)])))); try simp only [Act.put, List.setIfInBounds_toArray, List.set_cons_zero, List.set_cons_succ]); (refine wpAnyH_take (i := 15) (v := ?_) (arr_get (g_s (g_s (g_s (g_s (g_s (g_s (g_s (g_s (g_s (g_s (g_s (g_s (g_s (g_s (g_s g_z)))))))))))))))) (by kernel_rfl) (by kernel_rfl) (by kernel_rfl) (fun _ _ _ h => h) (Or.inl ⟨by rfl, ?_⟩) hHeld ?_; rotate_left; (focus (intro w hSw; (try dsimp only at hSw); go_simp; try (first | (with_reducible rfl) | (rw [if_neg (by (try simp only [ByteArray.size_append]); omega)])))); try simp only [Act.put, List.setIfInBounds_toArray, List.set_cons_zero, List.set_cons_succ]); (refine wpAnyH_done (by kernel_rfl) ?_ _))
                  all_goals
                    have HBY : Hid (Below w.heap.size w wY) := Lib.hid (bel_then (bel_then (bel_dr HBP.out) hbX) hb1)
                    clear hb1 hbX
                    go_wp2
                    refine ⟨⟨k + 1, _, by omega, ?_, by go_num, rfl, Lib.hid (by rw [HT.out, HS.out]), HBY⟩, by simp [intOf]; omega⟩
                    rw [ByteArray.size_append]; omega
                · have hx1 : x < 0 := by omega
                  have HT := Lib.hid (mvT_no (p := p) (q := q) HX.out hx1)
                  clear hx0
                  go_wp2
                  exact ⟨⟨k + 1, S, by omega, by omega, by go_num, rfl, Lib.hid (by rw [HT.out, HS.out]), HBP⟩, by simp [intOf]; omega⟩
              · obtain rfl : k = r.length := by omega
                go_wp2
                go_ret2
                unfold MovesIs
                rw [HV.out, HS.out]
                exact ⟨rfl, HBP.out⟩
          · have ha : goodOn p.length q.length r = false := by simpa using ha
            have HV := Lib.hid (moves_no2 ha)
            rw [ha]
            go_wp2
            go_ret2
            unfold MovesIs
            rw [HV.out]
            exact ⟨rfl, HB1.out⟩
        · have hri : rising 0 13 q = false := by simpa using hri
          have HV := Lib.hid (moves_no1 (p := p) (q := q) (r := r) (by rw [HM.out, hri]; rfl))
          rw [hri]
          go_wp2
          go_ret2
          unfold MovesIs
          rw [HV.out]
          exact ⟨rfl, HB1.out⟩
      · have hpa : (p.all fun n => inB n 0 13) = false := by simpa using hpa
        have HV := Lib.hid (moves_no1 (p := p) (q := q) (r := r) (by rw [HM.out, hpa]; simp))
        rw [hpa]
        go_wp2
        go_ret2
        unfold MovesIs
        rw [HV.out]
        exact ⟨rfl, Below.refl _ _⟩
    · have e6 : decide ((6 : Int) < (q.length : Int)) = true := decide_eq_true (by omega)
      have HV := Lib.hid (moves_no1 (p := p) (q := q) (r := r) (by rw [HM.out, decide_eq_false h6]; simp))
      go_enter Tryz.func16, Tryz.ntmps16
      go_wp2
      go_ret2
      unfold MovesIs
      rw [HV.out]
      exact ⟨rfl, Below.refl _ _⟩
  · have e7 : decide ((7 : Int) < (p.length : Int)) = true := decide_eq_true (by omega)
    have HV := Lib.hid (moves_no1 (p := p) (q := q) (r := r) (by rw [HM.out, decide_eq_false h7]; simp))
    go_enter Tryz.func16, Tryz.ntmps16
    go_wp2
    go_ret2
    unfold MovesIs
    rw [HV.out]
    exact ⟨rfl, Below.refl _ _⟩
end Go.Proofs.YtahehdgkbhjpoaaGreatDoor
