/-
  Ladders: the reference's search for an angle.
-/
import Derived.Test.YtibkadkodblefaaDoorLadA
import Derived.Test.YtibkadkodblefaaDoorMost
namespace Go.Proofs.YtibkadkodblefaaDoor
open Go.RowKit

set_option maxHeartbeats 400000 in
theorem laPoint_c (n : Int) (w : World) : Calls Tryd.prog 59 #[.int .i64 n] w fun e w' => e = .returned (.bool (inB n 0 600)) ∧ w = w' := by
  go_enter Tryd.func59, Tryd.ntmps59
  go_wp2_with (go_at_call 54; refine (l1In_c _ _ _ _).mono ?_; rintro e w' ⟨rfl, rfl⟩)
  go_ret
  exact ⟨rfl, rfl⟩
set_option maxHeartbeats 1000000 in
theorem laNeeds_c (n s : Int) (w : World) (hs : 1 ≤ s ∧ s ≤ 10000) (hn : -1000 ≤ n ∧ n ≤ 1000) : Calls Tryd.prog 89 #[.int .i64 n, .int .i64 s] w fun e w' => e = .returned (.int .i64 (needsL n s)) ∧ w = w' := by
  by_cases h : n ≤ 0
  · have HV : Hid (needsL n s = 0) := Lib.hid (by unfold needsL; rw [if_pos h])
    go_enter Tryd.func89, Tryd.ntmps89
    go_wp2
    go_ret
    rw [HV.out]
    exact ⟨rfl, rfl⟩
  · have HV : Hid (needsL n s = (n * 10000 + s - 1) / s) := Lib.hid (by unfold needsL; rw [if_neg h])
    have h0 : 0 < n := by omega
    have hz : ¬ s = 0 := by omega
    have e1 : IntKind.i64.wrap (n * 10000) = n * 10000 := IntWalk.i64_in _ (by omega)
    have e2 : IntKind.i64.wrap (n * 10000 + s) = n * 10000 + s := IntWalk.i64_in _ (by omega)
    have e3 : IntKind.i64.wrap (n * 10000 + s - 1) = n * 10000 + s - 1 := IntWalk.i64_in _ (by omega)
    have e4 := quoE (a := n * 10000 + s - 1) (b := s) (by omega) (by omega) (by omega)
    go_enter Tryd.func89, Tryd.ntmps89
    go_wp2
    go_ret
    rw [HV.out]
    exact ⟨rfl, rfl⟩
def angI (r : Option Nat) : Int := match r with | some a => (a : Int) | none => -1
theorem find_first {α : Type} {p : α → Bool} : ∀ {l : List α} {k : Nat} {x : α}, l[k]? = some x → (∀ j y, j < k → l[j]? = some y → p y = false) → p x = true → l.find? p = some x := by
  intro l
  induction l with
  | nil => intro k x h; cases h
  | cons y l ih =>
    intro k x h hn hp
    cases k with
    | zero => obtain rfl := Option.some.inj h
              rw [List.find?_cons, hp]
    | succ k =>
      rw [List.find?_cons, hn 0 y (by omega) rfl]
      exact ih h (fun j z hj hz => hn (j + 1) z (by omega) hz) hp
theorem angF_get {s m i : Nat} (h : i < m + 1 - s) : ((List.range (m + 1 - s)).map (s + ·))[i]? = some (s + i) := by
  rw [List.getElem?_map, List.getElem?_range h]; rfl
theorem angF_some {b o : Int} {L s m : Nat} {x y : Int} {i : Nat} (hm : m ≤ 85) (hi : i < m + 1 - s) (hn : ∀ j, j < i → okL2 b o L x y (s + j) = false) (hp : okL2 b o L x y (s + i) = true) : angF b o L s m x y = some (s + i) := by
  refine find_first (angF_get hi) (fun j z hj hz => ?_) (by rw [← okL2_iff (by omega)]; exact hp)
  rw [angF_get (by omega)] at hz
  obtain rfl := Option.some.inj hz
  rw [← okL2_iff (by omega)]
  exact hn j hj
theorem angF_none {b o : Int} {L s m : Nat} {x y : Int} (hm : m ≤ 85) (hn : ∀ j, j < m + 1 - s → okL2 b o L x y (s + j) = false) : angF b o L s m x y = none := by
  unfold angF
  rw [List.find?_eq_none]
  intro a ha
  obtain ⟨i, hi, rfl⟩ := List.mem_map.1 ha
  have := hn i (List.mem_range.1 hi)
  rw [okL2_iff (by have := List.mem_range.1 hi; omega)] at this
  rw [this]; simp
/-- What is tested at an angle, beside the flat one. -/
theorem okL2_eq {b o : Int} {L : Nat} {x y : Int} {a : Nat} (h : ¬ (sn a = 0 ∧ b < y)) : okL2 b o L x y a = (decide (lenL b x y a ≤ L) && decide (lenL b x y a * sn (90 - a) / 10000 ≤ x + 1) && decide (b + lenL b x y a * sn a / 10000 ≤ y + 1) && decide (lenL b x y a * sn (90 - a) / 10000 ≤ o)) := by
  unfold okL2
  have : (decide (sn a = 0) && decide (b < y)) = false := by
    rw [Bool.and_eq_false_iff]
    by_cases h1 : sn a = 0
    · exact .inr (decide_eq_false (fun k => h ⟨h1, k⟩))
    · exact .inl (decide_eq_false h1)
  rw [this]; rfl
set_option maxRecDepth 100000 in
set_option maxHeartbeats 4000000 in
theorem laAngle_c (b o : Int) (L s m : Nat) (x y : Int) (w : World) (hb : 0 ≤ b ∧ b ≤ 40) (hL : L ≤ 600) (ho : 20 ≤ o ∧ o ≤ 400) (hs : s ≤ m) (hm : m ≤ 85) (hx : 0 ≤ x ∧ x ≤ 600) (hy : 0 ≤ y ∧ y ≤ 600) :
    Calls Tryd.prog 63 #[ldV b L o s m, .int .i64 x, .int .i64 y] w fun e w' => e = .returned (.int .i64 (angI (angF b o L s m x y))) ∧ Below w.heap.size w w' := by
  go_enter Tryd.func63, Tryd.ntmps63
  go_wp2_with fail
  (generalize hw1 : World.alloc w _ = w1; have k0 : w1.cell? ⟨w.heap.size, 0, none⟩ = some (.int .i64 b) := (by subst hw1; simp [go_sem]); have k1 : w1.cell? ⟨w.heap.size, 1, none⟩ = some (.int .i64 L) := (by subst hw1; simp [go_sem]); have k2 : w1.cell? ⟨w.heap.size, 2, none⟩ = some (.int .i64 o) := (by subst hw1; simp [go_sem]); have k3 : w1.cell? ⟨w.heap.size, 3, none⟩ = some (.int .i64 s) := (by subst hw1; simp [go_sem]); have k4 : w1.cell? ⟨w.heap.size, 4, none⟩ = some (.int .i64 m) := (by subst hw1; simp [go_sem]); have hb0 : Below w.heap.size w w1 := (by subst hw1; exact bel_al (Below.refl _ _) _); have hsz1 : w.heap.size < w1.heap.size := (by subst hw1; simp); clear hw1)
  have HB0 := Lib.hid hb0
  refine (laSines_c _).mono ?_; rintro e wS ⟨v, rfl, ho3, hb1⟩
  have j0 := (hb1.cell (p := ⟨w.heap.size, 0, none⟩) (by show w.heap.size < _; omega)).trans k0
  have j1 := (hb1.cell (p := ⟨w.heap.size, 1, none⟩) (by show w.heap.size < _; omega)).trans k1
  have j2 := (hb1.cell (p := ⟨w.heap.size, 2, none⟩) (by show w.heap.size < _; omega)).trans k2
  have j3 := (hb1.cell (p := ⟨w.heap.size, 3, none⟩) (by show w.heap.size < _; omega)).trans k3
  have j4 := (hb1.cell (p := ⟨w.heap.size, 4, none⟩) (by show w.heap.size < _; omega)).trans k4
  have HBS := Lib.hid (bel_then HB0.out hb1)
  have HV := Lib.hid (rdi_own ho3)
  clear hb1 ho3 k0 k1 k2 k3 k4 hb0 hsz1 HB0
  go_wp2_with fail
  go_loopw [8] (fun v8 wr => ∃ i : Nat, i ≤ m + 1 - s ∧ v8 = .int .i64 ((s : Int) + (i : Int)) ∧ Hid (∀ j, j < i → okL2 b o L x y (s + j) = false) ∧ Hid (Below wS.heap.size wS wr)) (fun v8 _ => m + 1 - (intOf v8).toNat)
  case atStart => exact ⟨0, Nat.zero_le _, by simp, Lib.hid (fun j hj => by omega), Lib.hid (Below.refl _ _)⟩
  case round =>
   obtain ⟨i, hi, rfl, HN, HB⟩ := hrel
   obtain ⟨wA, rfl⟩ : ∃ wA : World, wA = wr := ⟨_, rfl⟩
   have hsw : w.heap.size < wS.heap.size := World.block_lt_of_cell? wS _ j0
   have r0 := (HB.out.cell (p := ⟨w.heap.size, 0, none⟩) (by show w.heap.size < _; omega)).trans j0
   have r1 := (HB.out.cell (p := ⟨w.heap.size, 1, none⟩) (by show w.heap.size < _; omega)).trans j1
   have r2 := (HB.out.cell (p := ⟨w.heap.size, 2, none⟩) (by show w.heap.size < _; omega)).trans j2
   have r4 := (HB.out.cell (p := ⟨w.heap.size, 4, none⟩) (by show w.heap.size < _; omega)).trans j4
   by_cases hlt : i < m + 1 - s
   · have hle : (s : Int) + (i : Int) ≤ (m : Int) := by omega
     have hle2 : Hid ((s : Int) + (i : Int) ≤ (m : Int)) := Lib.hid hle
     obtain ⟨a, ha⟩ : ∃ a, s + i = a := ⟨_, rfl⟩
     have hcast : (s : Int) + (i : Int) = (a : Int) := by omega
     have ha85 : a ≤ 85 := by omega
     obtain ⟨g, off, c, rfl, hc, hcm, hg, c1, c2⟩ := sin_cells (rdi_below HV.out HB.out) (show a ≤ 90 by omega)
     obtain ⟨T0, T1⟩ := sn_bd (show a ≤ 90 by omega)
     have W0 := sn_wide ha85
     obtain ⟨_, W1⟩ := sn_bd (show 90 - a ≤ 90 by omega)
     obtain ⟨q, hq⟩ : ∃ q : Nat, 90 - a = q := ⟨_, rfl⟩
     have hq90 : q ≤ 90 := by omega
     rw [hcast] at hle ⊢
     rw [hq] at c2 W0 W1
     obtain ⟨T, hT⟩ : ∃ T, sn a = T := ⟨_, rfl⟩
     obtain ⟨W, hW⟩ : ∃ W, sn q = W := ⟨_, rfl⟩
     rw [hT] at c1 T0 T1
     rw [hW] at c2 W0 W1
     have e3 : IntKind.i64.wrap (90 - (a : Int)) = (q : Int) := by rw [IntWalk.i64_in _ (by omega)]; omega
     have i1 : (0 : Int) ≤ (a : Int) := Int.natCast_nonneg _
     have i2 : (0 : Int) ≤ (q : Int) := Int.natCast_nonneg _
     have i3 : (a : Int) < 91 := by omega
     have i4 : (q : Int) < 91 := by omega
     have eA : IntKind.i64.wrap ((a : Int) + 1) = (s : Int) + ((i + 1 : Nat) : Int) := by rw [IntWalk.i64_in _ (by omega)]; omega
     have HAA := Lib.hid ha
     have HQQ := Lib.hid hq
     have HTT := Lib.hid hT
     have HWW := Lib.hid hW
     have HI1 : Hid (i + 1 ≤ m + 1 - s) := Lib.hid (by omega)
     have HI2 : Hid (m + 1 - (intOf (.int .i64 ((s : Int) + ((i + 1 : Nat) : Int)))).toNat < m + 1 - (intOf (.int .i64 (a : Int))).toNat) := Lib.hid (by simp [intOf]; omega)
     clear ha hq hT hW hcast
     have HNX : okL2 b o L x y a = false → ∀ j, j < i + 1 → okL2 b o L x y (s + j) = false := fun h j hj => by
       by_cases e : j = i
       · rw [e, HAA.out]; exact h
       · exact HN.out j (by omega)
     go_wp2_with fail
     go_region
     by_cases hT : T = 0
     · have hT0 : (T == 0) = true := by rw [beq_iff_eq]; exact hT
       by_cases hby : b < y
       · have HNO : Hid (okL2 b o L x y a = false) := Lib.hid (by unfold okL2; rw [HTT.out, decide_eq_true hT, decide_eq_true hby]; rfl)
         go_wp2_with fail
         exact ⟨⟨i + 1, HI1.out, rfl, Lib.hid (HNX HNO.out), Lib.hid (bel_dr HB.out)⟩, HI2.out⟩
       · have hyb : y ≤ b := by omega
         have hTle : T ≤ 0 := by omega
         obtain ⟨N, hN⟩ : ∃ N, needsL x W = N := ⟨_, rfl⟩
         have hN1 : N ≤ 6000000 := by rw [← hN]; exact needsL_bd W0 (by omega)
         have hLEN : lenL b x y a = N := by unfold lenL; rw [HTT.out, if_neg (by omega), HQQ.out, HWW.out]; exact hN
         clear hT
         go_wp2_with fail
         refine (laNeeds_c x W _ ⟨W0, W1⟩ (by omega)).mono ?_; rw [hN]; rintro e w2 ⟨rfl, rfl⟩
         go_wp2_with fail
         clear hN
         have HLEN : Hid (lenL b x y a = N) := Lib.hid hLEN
         have HOK : Hid (okL2 b o L x y a = (decide (N ≤ L) && decide (N * W / 10000 ≤ x + 1) && decide (b + N * T / 10000 ≤ y + 1) && decide (N * W / 10000 ≤ o))) := Lib.hid (by
           rw [okL2_eq (by rw [HTT.out]; omega), hLEN, HQQ.out, HWW.out, HTT.out])
         have hN0 : 0 ≤ N := by rw [← hLEN]; exact lenL_nn ha85
         have hp1 := mul_bd (a := N) (b := W) (A := 6000000) (B := 10000) hN0 hN1 (by omega) W1
         have hp2 := mul_bd (a := N) (b := T) (A := 6000000) (B := 10000) hN0 hN1 T0 T1
         have f1 : IntKind.i64.wrap (N * W) = N * W := IntWalk.i64_in _ (by omega)
         have f2 : IntKind.i64.wrap (N * T) = N * T := IntWalk.i64_in _ (by omega)
         have f3 : IntKind.i64.wrap ((N * W).tdiv 10000) = N * W / 10000 := quoE hp1.1 (by omega) (by omega)
         have f4 : IntKind.i64.wrap ((N * T).tdiv 10000) = N * T / 10000 := quoE hp2.1 (by omega) (by omega)
         obtain ⟨X, hX⟩ : ∃ X, N * W / 10000 = X := ⟨_, rfl⟩
         obtain ⟨Y, hY⟩ : ∃ Y, N * T / 10000 = Y := ⟨_, rfl⟩
         rw [hX, hY] at HOK
         rw [hX] at f3
         rw [hY] at f4
         have hX1 : 0 ≤ X ∧ X ≤ 6000000 := by omega
         have hY1 : 0 ≤ Y ∧ Y ≤ 6000000 := by omega
         have f5 : IntKind.i64.wrap (b + Y) = b + Y := IntWalk.i64_in _ (by omega)
         have f6 : IntKind.i64.wrap (x + 1) = x + 1 := IntWalk.i64_in _ (by omega)
         have f7 : IntKind.i64.wrap (y + 1) = y + 1 := IntWalk.i64_in _ (by omega)
         clear hLEN hp1 hp2 hX hY
         go_wp2_with fail
         go_region
         by_cases hok : N ≤ L ∧ X ≤ x + 1 ∧ b + Y ≤ y + 1 ∧ X ≤ o
         · obtain ⟨d1, d2, d3, d4⟩ := hok
           have HF : Hid (angF b o L s m x y = some a) := Lib.hid (by
             rw [← HAA.out]
             refine angF_some hm hlt HN.out ?_
             rw [HAA.out, HOK.out, decide_eq_true d1, decide_eq_true d2, decide_eq_true d3, decide_eq_true d4]; rfl)
           go_wp2_with fail
           go_ret
           rw [HF.out]
           exact ⟨rfl, bel_then HBS.out (bel_dr (bel_dr HB.out))⟩
         · have HNO : Hid (∀ j, j < i + 1 → okL2 b o L x y (s + j) = false) := Lib.hid (HNX (by
             rw [HOK.out, Bool.eq_false_iff]
             simp only [ne_eq, Bool.and_eq_true, decide_eq_true_eq]
             exact fun h => hok ⟨h.1.1.1, h.1.1.2, h.1.2, h.2⟩))
           have hcs : (L < N) ∨ (N ≤ L ∧ x + 1 < X) ∨ (N ≤ L ∧ X ≤ x + 1 ∧ y + 1 < b + Y) ∨ (N ≤ L ∧ X ≤ x + 1 ∧ b + Y ≤ y + 1 ∧ o < X) := by omega
           clear hok
           rcases hcs with d1 | ⟨d1, d2⟩ | ⟨d1, d2, d3⟩ | ⟨d1, d2, d3, d4⟩
           · have n : ¬ N ≤ (L : Int) := by omega
             go_wp2_with fail
             exact ⟨⟨i + 1, HI1.out, by first | rfl | go_num, HNO, Lib.hid (bel_dr (bel_dr HB.out))⟩, HI2.out⟩
           · have n : ¬ X ≤ x + 1 := by omega
             go_wp2_with fail
             exact ⟨⟨i + 1, HI1.out, by first | rfl | go_num, HNO, Lib.hid (bel_dr (bel_dr HB.out))⟩, HI2.out⟩
           · have n : ¬ b + Y ≤ y + 1 := by omega
             go_wp2_with fail
             exact ⟨⟨i + 1, HI1.out, by first | rfl | go_num, HNO, Lib.hid (bel_dr (bel_dr HB.out))⟩, HI2.out⟩
           · have n : ¬ X ≤ o := by omega
             go_wp2_with fail
             exact ⟨⟨i + 1, HI1.out, by first | rfl | go_num, HNO, Lib.hid (bel_dr (bel_dr HB.out))⟩, HI2.out⟩
     · have hT0 : (T == 0) = false := by rw [beq_eq_false_iff_ne]; exact hT
       have hTp : 0 < T := by omega
       obtain ⟨N1, hNa⟩ : ∃ N, needsL x W = N := ⟨_, rfl⟩
       obtain ⟨N2, hNb⟩ : ∃ N, needsL (y - b) T = N := ⟨_, rfl⟩
       have hNa1 : N1 ≤ 6000000 := by rw [← hNa]; exact needsL_bd W0 (by omega)
       have hNb1 : N2 ≤ 6000000 := by rw [← hNb]; exact needsL_bd (by omega) (by omega)
       obtain ⟨N, hN⟩ : ∃ N, maxI N1 N2 = N := ⟨_, rfl⟩
       have hN1 : N ≤ 6000000 := by rw [← hN, maxI_eq]; omega
       have hLEN : lenL b x y a = N := by unfold lenL; rw [HTT.out, if_pos hTp, HQQ.out, HWW.out, hNa, hNb, ← maxI_eq]; exact hN
       have eyb : IntKind.i64.wrap (y - b) = y - b := IntWalk.i64_in _ (by omega)
       clear hT
       go_wp2_with fail
       refine (laNeeds_c x W _ ⟨W0, W1⟩ (by omega)).mono ?_; rw [hNa]; rintro e w2 ⟨rfl, rfl⟩
       go_wp2_with fail
       refine (laNeeds_c (y - b) T _ ⟨by omega, T1⟩ (by omega)).mono ?_; rw [hNb]; rintro e w2 ⟨rfl, rfl⟩
       go_wp2_with fail
       refine (l1Most_c N1 N2 _).mono ?_; rw [hN]; rintro e w2 ⟨rfl, rfl⟩
       go_wp2_with fail
       clear hNa hNb hN eyb
       have HLEN : Hid (lenL b x y a = N) := Lib.hid hLEN
       have HOK : Hid (okL2 b o L x y a = (decide (N ≤ L) && decide (N * W / 10000 ≤ x + 1) && decide (b + N * T / 10000 ≤ y + 1) && decide (N * W / 10000 ≤ o))) := Lib.hid (by
         rw [okL2_eq (by rw [HTT.out]; omega), hLEN, HQQ.out, HWW.out, HTT.out])
       have hN0 : 0 ≤ N := by rw [← hLEN]; exact lenL_nn ha85
       have hp1 := mul_bd (a := N) (b := W) (A := 6000000) (B := 10000) hN0 hN1 (by omega) W1
       have hp2 := mul_bd (a := N) (b := T) (A := 6000000) (B := 10000) hN0 hN1 T0 T1
       have f1 : IntKind.i64.wrap (N * W) = N * W := IntWalk.i64_in _ (by omega)
       have f2 : IntKind.i64.wrap (N * T) = N * T := IntWalk.i64_in _ (by omega)
       have f3 : IntKind.i64.wrap ((N * W).tdiv 10000) = N * W / 10000 := quoE hp1.1 (by omega) (by omega)
       have f4 : IntKind.i64.wrap ((N * T).tdiv 10000) = N * T / 10000 := quoE hp2.1 (by omega) (by omega)
       obtain ⟨X, hX⟩ : ∃ X, N * W / 10000 = X := ⟨_, rfl⟩
       obtain ⟨Y, hY⟩ : ∃ Y, N * T / 10000 = Y := ⟨_, rfl⟩
       rw [hX, hY] at HOK
       rw [hX] at f3
       rw [hY] at f4
       have hX1 : 0 ≤ X ∧ X ≤ 6000000 := by omega
       have hY1 : 0 ≤ Y ∧ Y ≤ 6000000 := by omega
       have f5 : IntKind.i64.wrap (b + Y) = b + Y := IntWalk.i64_in _ (by omega)
       have f6 : IntKind.i64.wrap (x + 1) = x + 1 := IntWalk.i64_in _ (by omega)
       have f7 : IntKind.i64.wrap (y + 1) = y + 1 := IntWalk.i64_in _ (by omega)
       clear hLEN hp1 hp2 hX hY
       go_wp2_with fail
       go_region
       by_cases hok : N ≤ L ∧ X ≤ x + 1 ∧ b + Y ≤ y + 1 ∧ X ≤ o
       · obtain ⟨d1, d2, d3, d4⟩ := hok
         have HF : Hid (angF b o L s m x y = some a) := Lib.hid (by
           rw [← HAA.out]
           refine angF_some hm hlt HN.out ?_
           rw [HAA.out, HOK.out, decide_eq_true d1, decide_eq_true d2, decide_eq_true d3, decide_eq_true d4]; rfl)
         go_wp2_with fail
         go_ret
         rw [HF.out]
         exact ⟨rfl, bel_then HBS.out (bel_dr (bel_dr HB.out))⟩
       · have HNO : Hid (∀ j, j < i + 1 → okL2 b o L x y (s + j) = false) := Lib.hid (HNX (by
           rw [HOK.out, Bool.eq_false_iff]
           simp only [ne_eq, Bool.and_eq_true, decide_eq_true_eq]
           exact fun h => hok ⟨h.1.1.1, h.1.1.2, h.1.2, h.2⟩))
         have hcs : (L < N) ∨ (N ≤ L ∧ x + 1 < X) ∨ (N ≤ L ∧ X ≤ x + 1 ∧ y + 1 < b + Y) ∨ (N ≤ L ∧ X ≤ x + 1 ∧ b + Y ≤ y + 1 ∧ o < X) := by omega
         clear hok
         rcases hcs with d1 | ⟨d1, d2⟩ | ⟨d1, d2, d3⟩ | ⟨d1, d2, d3, d4⟩
         · have n : ¬ N ≤ (L : Int) := by omega
           go_wp2_with fail
           exact ⟨⟨i + 1, HI1.out, by first | rfl | go_num, HNO, Lib.hid (bel_dr (bel_dr HB.out))⟩, HI2.out⟩
         · have n : ¬ X ≤ x + 1 := by omega
           go_wp2_with fail
           exact ⟨⟨i + 1, HI1.out, by first | rfl | go_num, HNO, Lib.hid (bel_dr (bel_dr HB.out))⟩, HI2.out⟩
         · have n : ¬ b + Y ≤ y + 1 := by omega
           go_wp2_with fail
           exact ⟨⟨i + 1, HI1.out, by first | rfl | go_num, HNO, Lib.hid (bel_dr (bel_dr HB.out))⟩, HI2.out⟩
         · have n : ¬ X ≤ o := by omega
           go_wp2_with fail
           exact ⟨⟨i + 1, HI1.out, by first | rfl | go_num, HNO, Lib.hid (bel_dr (bel_dr HB.out))⟩, HI2.out⟩

   · obtain rfl : i = m + 1 - s := by omega
     have hgt : (m : Int) < (s : Int) + ((m + 1 - s : Nat) : Int) := by omega
     have HF : Hid (angF b o L s m x y = none) := Lib.hid (angF_none hm HN.out)
     go_wp2
     go_ret
     rw [HF.out]
     exact ⟨rfl, bel_then HBS.out HB.out⟩
end Go.Proofs.YtibkadkodblefaaDoor
