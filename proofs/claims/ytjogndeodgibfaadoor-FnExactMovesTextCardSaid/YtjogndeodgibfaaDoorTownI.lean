/-
  impl's look at a town: has, fits, compareStreets, isTown.
-/
import Derived.Test.YtjogndeodgibfaaDoorTownG
namespace Go.Proofs.YtjogndeodgibfaaDoor
open Go.RowKit

def cmpI (a b : Int) : Int := if a < b then -1 else if b < a then 1 else 0
theorem isNaN_c (a : Int) (w : World) : Calls Tryd.prog 41 #[.int .i64 a] w fun e w' => e = .returned (.bool false) ∧ w = w' := by
  have h : (a != a) = false := by simp
  go_enter Tryd.func41, Tryd.ntmps41
  go_wp2
  go_ret
  exact ⟨rfl, rfl⟩
theorem cmpInt_c (a b : Int) (w : World) : Calls Tryd.prog 35 #[.int .i64 a, .int .i64 b] w fun e w' => e = .returned (.int .i64 (cmpI a b)) ∧ w = w' := by
  go_enter Tryd.func35, Tryd.ntmps35
  go_wp2_with (go_at_call 41; refine (isNaN_c _ _).mono ?_; rintro e w' ⟨rfl, rfl⟩)
  · go_ret
    exact ⟨by unfold cmpI; rw [if_pos (by assumption)]; rfl, rfl⟩
  · go_ret
    exact ⟨by unfold cmpI; rw [if_neg (by omega), if_pos (by assumption)]; rfl, rfl⟩
  · go_ret
    exact ⟨by unfold cmpI; rw [if_neg (by omega), if_neg (by omega)]; rfl, rfl⟩
def orI (a b : Int) : Int := if a = 0 then b else a
set_option maxHeartbeats 1000000 in
theorem cmpOr_c (a b : Int) (B : Nat) (w : World) (c0 : w.cell? ⟨B, 0, none⟩ = some (.int .i64 a)) (c1 : w.cell? ⟨B, 1, none⟩ = some (.int .i64 b)) :
    Calls Tryd.prog 34 #[.slice (some ⟨B, 0, none⟩) 2 2] w fun e w' => e = .returned (.int .i64 (orI a b)) ∧ w = w' := by
  go_enter Tryd.func34, Tryd.ntmps34
  go_wp2
  go_loopw [8] (fun i wr => ∃ k : Nat, k ≤ 2 ∧ i = .int .i64 k ∧ (0 < k → a = 0) ∧ (1 < k → b = 0) ∧ wr = w) (fun i _ => 2 - (intOf i).toNat)
  case atStart => exact ⟨0, by omega, rfl, by omega, by omega, rfl⟩
  case round =>
    obtain ⟨k, hk, rfl, ha, hb, rfl⟩ := hrel
    rcases k with _ | _ | k
    · by_cases h : a = 0
      · have h1 : (a != 0) = false := by simp [h]
        go_wp2
        exact ⟨⟨1, by omega, by go_num, by omega, by omega, (by first | rfl | trivial)⟩, by simp [intOf]⟩
      · have h1 : (a != 0) = true := by simp [h]
        go_wp2
        go_ret
        exact ⟨by unfold orI; rw [if_neg h]; rfl, (by first | rfl | trivial)⟩
    · have h0 := ha (by omega)
      by_cases h : b = 0
      · have h1 : (b != 0) = false := by simp [h]
        go_wp2
        exact ⟨⟨2, by omega, by go_num, by omega, by omega, (by first | rfl | trivial)⟩, by simp [intOf]⟩
      · have h1 : (b != 0) = true := by simp [h]
        go_wp2
        go_ret
        exact ⟨by unfold orI; rw [if_pos h0]; rfl, (by first | rfl | trivial)⟩
    · obtain rfl : k = 0 := by omega
      have h0 := ha (by omega)
      have h1 := hb (by omega)
      go_wp2
      go_ret
      exact ⟨by unfold orI; rw [if_pos h0, h1]; rfl, rfl⟩

def cmpS (a b : St) : Int := orI (cmpI a.f b.f) (cmpI a.t b.t)
theorem cmpS_bef (a b : St) : decide (cmpS a b ≥ 0) = !befSt a b := by
  unfold cmpS befSt
  rcases Int.lt_trichotomy a.f b.f with h | h | h
  · have e : cmpI a.f b.f = -1 := by unfold cmpI; rw [if_pos h]
    rw [e]; simp [orI, h]
  · have e : cmpI a.f b.f = 0 := by unfold cmpI; rw [if_neg (by omega), if_neg (by omega)]
    rw [e]
    rcases Int.lt_trichotomy a.t b.t with g | g | g
    · have e2 : cmpI a.t b.t = -1 := by unfold cmpI; rw [if_pos g]
      rw [e2]; simp [orI, h, g]
    · have e2 : cmpI a.t b.t = 0 := by unfold cmpI; rw [if_neg (by omega), if_neg (by omega)]
      rw [e2]; simp [orI, h, g]
    · have e2 : cmpI a.t b.t = 1 := by unfold cmpI; rw [if_neg (by omega), if_pos g]
      rw [e2]; simp [orI, h]; omega
  · have e : cmpI a.f b.f = 1 := by unfold cmpI; rw [if_neg (by omega), if_pos h]
    rw [e]; simp [orI]; omega

set_option maxRecDepth 100000 in
set_option maxHeartbeats 1000000 in
theorem compareStreets_c (f t s f' t' s' : Int) (w : World) :
    Calls Tryd.prog 29 #[.agg #[.int .i64 f, .int .i64 t, .int .i64 s], .agg #[.int .i64 f', .int .i64 t', .int .i64 s']] w fun en w' => en = .returned (.int .i64 (cmpS ⟨f, t, s⟩ ⟨f', t', s'⟩)) ∧ Below w.heap.size w w' := by
  go_enter Tryd.func29, Tryd.ntmps29
  go_wp2_with fail
  generalize hw1 : World.alloc (World.alloc w _) _ = w1
  have k0 : w1.cell? ⟨w.heap.size, 0, none⟩ = some (.int .i64 f) := by subst hw1; simp [go_sem]
  have k1 : w1.cell? ⟨w.heap.size, 1, none⟩ = some (.int .i64 t) := by subst hw1; simp [go_sem]
  have m0 : w1.cell? ⟨w.heap.size + 1, 0, none⟩ = some (.int .i64 f') := by subst hw1; simp [go_sem]
  have m1 : w1.cell? ⟨w.heap.size + 1, 1, none⟩ = some (.int .i64 t') := by subst hw1; simp [go_sem]
  have hb0 : Below w.heap.size w w1 := by subst hw1; exact bel_al (bel_al (Below.refl _ _) _) _
  have hsz : w.heap.size + 1 < w1.heap.size := by subst hw1; simp
  clear hw1
  go_region_held3 (fun w' => w'.cell? ⟨w.heap.size, 0, none⟩ = some (.int .i64 f) ∧ w'.cell? ⟨w.heap.size, 1, none⟩ = some (.int .i64 t) ∧ w'.cell? ⟨w.heap.size + 1, 0, none⟩ = some (.int .i64 f') ∧ w'.cell? ⟨w.heap.size + 1, 1, none⟩ = some (.int .i64 t')) (first | go_keep | (go_split_ands; refine ⟨?_, ?_, ?_, ?_⟩ <;> (simp [go_sem]; assumption)) | (go_split_ands; refine ⟨?_, ?_, ?_, ?_⟩ <;> ((first | assumption | (rw [World.cell?_alloc_lt _ _ _ (by simp; omega)]; assumption)))))
    (first | (go_at_call 35; refine (cmpInt_c _ _ _).mono ?_; rintro e w' ⟨rfl, rfl⟩) | (go_at_call 34; refine (cmpOr_c (cmpI f f') (cmpI t t') _ _ ?_ ?_).mono ?_; (focus (simp [go_sem])); (focus (simp [go_sem])); rintro e w' ⟨rfl, rfl⟩))
  all_goals
    go_wp2
    go_ret
    exact ⟨rfl, bel_al (bel_dr hb0) _⟩

set_option maxHeartbeats 400000 in
theorem has_c (n x : Int) (B : Nat) (w : World) (h1 : 1 ≤ n) (h2 : n ≤ 14) (c0 : w.cell? ⟨B, 0, none⟩ = some (.int .i64 n)) :
    Calls Tryd.prog 20 #[.pointer (some ⟨B, 0, none⟩), .int .i64 x] w fun e w' => e = .returned (.bool (inB x 0 (n - 1))) ∧ w = w' := by
  go_enter Tryd.func20, Tryd.ntmps20
  go_wp2_with (go_at_call 21; refine (inside_c _ _ _ _).mono ?_; rintro e w' ⟨rfl, rfl⟩)
  go_ret
  exact ⟨rfl, rfl⟩

set_option maxHeartbeats 400000 in
theorem fits_c (n f t s : Int) (B : Nat) (w : World) (h1 : 1 ≤ n) (h2 : n ≤ 14) (c0 : w.cell? ⟨B, 0, none⟩ = some (.int .i64 n)) :
    Calls Tryd.prog 28 #[.pointer (some ⟨B, 0, none⟩), .agg #[.int .i64 f, .int .i64 t, .int .i64 s]] w fun e w' => e = .returned (.bool (goodSt n ⟨f, t, s⟩)) ∧ Below w.heap.size w w' := by
  have hB := World.block_lt_of_cell? w _ c0
  have c0' : ∀ o, (w.alloc o).cell? ⟨B, 0, none⟩ = some (.int .i64 n) := fun o => (World.cell?_alloc_lt _ _ _ hB).trans c0
  go_enter Tryd.func28, Tryd.ntmps28
  go_wp2_with (first | (go_at_call 20; refine (has_c n _ _ _ h1 h2 (c0' _)).mono ?_; rintro e w' ⟨rfl, rfl⟩) | (go_at_call 21; refine (inside_c _ _ _ _).mono ?_; rintro e w' ⟨rfl, rfl⟩))
  all_goals (go_ret; exact ⟨by simp_all [goodSt] <;> (intro hx; omega), (by repeat (first | exact Below.refl _ _ | assumption | refine bel_al ?_ _ | refine bel_dr ?_ | refine below_drewN ?_ _ | refine bel_then ?_ (by assumption)))⟩)
end Go.Proofs.YtjogndeodgibfaaDoor
