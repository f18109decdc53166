/-
  A good appliance and a good fleet, on both sides (printed by gen_fleet.py). Slices of strings: read, sized, copied, compared. Strictly rising names: spec.dsNames. (joined by pack.py: Fleet Strs Names)
-/
import Derived.Test.YtddccjdppbcnbaaGreatK3
import Derived.Test.YtddccjdppbcnbaaGreatK6
import Derived.Test.YtddccjdppbcnbaaGreatK8
namespace Go.Proofs.YtddccjdppbcnbaaGreat
set_option linter.unusedVariables false
set_option linter.unusedSimpArgs false
open Go.RowKit

def goodAp (a : Ap) : Bool := nameB a.nm && inB a.kd 0 3 && inB a.nd 0 13 && inB a.cr 1 9 && inB a.sv 0 5
/-- The second text does not come behind the first. -/
def geS (a b : ByteArray) : Bool := !Op.bytesLess a.toList b.toList
def okAp (l : List Ap) (i : Nat) : Bool := match l[i]? with
  | none => true
  | some a => goodAp a && (decide (i = 0) || match l[i - 1]? with | none => true | some p => !geS p.nm a.nm)
def goodFl (l : List Ap) : Bool := decide (l.length ≤ 12) && (List.range l.length).all (okAp l)
theorem goodAp_true {a : Ap} (h : goodAp a = true) : a.nm.size ≤ 6 ∧ 0 ≤ a.kd ∧ a.kd ≤ 3 ∧ 0 ≤ a.nd ∧ a.nd ≤ 13 ∧ 1 ≤ a.cr ∧ a.cr ≤ 9 ∧ 0 ≤ a.sv ∧ a.sv ≤ 5 := by
  unfold goodAp at h
  simp only [Bool.and_eq_true] at h
  obtain ⟨⟨⟨⟨h1, h2⟩, h3⟩, h4⟩, h5⟩ := h
  have a2 := inB_true h2
  have a3 := inB_true h3
  have a4 := inB_true h4
  have a5 := inB_true h5
  exact ⟨nameB_size h1, a2.1, a2.2, a3.1, a3.2, a4.1, a4.2, a5.1, a5.2⟩
theorem goodFl_true {l : List Ap} (h : goodFl l = true) : l.length ≤ 12 ∧ ∀ a ∈ l, goodAp a = true := by
  unfold goodFl at h
  simp only [Bool.and_eq_true, decide_eq_true_eq, List.all_eq_true, List.mem_range] at h
  refine ⟨h.1, fun a ha => ?_⟩
  obtain ⟨i, hi, rfl⟩ := List.getElem_of_mem ha
  have h4 := h.2 i hi
  unfold okAp at h4
  rw [List.getElem?_eq_getElem hi] at h4
  simp only [Bool.and_eq_true] at h4
  exact h4.1
theorem fleet_no {l : List Ap} {k : Nat} (hk : k < l.length) (h : okAp l k = false) : goodFl l = false := by
  unfold goodFl
  rw [List.all_eq_false.2 ⟨k, List.mem_range.2 hk, by rw [h]; simp⟩]; simp
theorem fleet_end {l : List Ap} (h : (List.range l.length).all (okAp l) = true) : goodFl l = decide (l.length ≤ 12) := by unfold goodFl; rw [h]; simp
theorem okAp_bad {l : List Ap} {k : Nat} {a : Ap} (h : l[k]? = some a) (hg : goodAp a = false) : okAp l k = false := by unfold okAp; rw [h]; simp [hg]
theorem okAp_first {l : List Ap} {a : Ap} (h : l[0]? = some a) (hg : goodAp a = true) : okAp l 0 = true := by unfold okAp; rw [h]; simp [hg]
theorem okAp_next {l : List Ap} {k : Nat} {a p : Ap} (h : l[k + 1]? = some a) (hp : l[k]? = some p) (hg : goodAp a = true) : okAp l (k + 1) = !geS p.nm a.nm := by
  unfold okAp; rw [h]; simp [hg, hp]
theorem all_rng_succ {p : Nat → Bool} {k : Nat} (h : (List.range k).all p = true) (hp : p k = true) : (List.range (k + 1)).all p = true := by
  rw [List.range_succ, List.all_append, h]; simp [hp]
set_option maxHeartbeats 400000 in
theorem isState_c (n : Int) (w : World) : Calls Tryz.prog 74 #[.int .i64 n] w fun e w' => e = .returned (.bool (inB n 0 5)) ∧ w = w' := by
  go_enter Tryz.func74, Tryz.ntmps74
  go_wp2_with (go_at_call 49; refine (inside_c _ _ _ _).mono ?_; rintro e w' ⟨rfl, rfl⟩)
  go_ret
  exact ⟨rfl, rfl⟩
set_option maxHeartbeats 400000 in
theorem apState_c (n : Int) (w : World) : Calls Tryz.prog 92 #[.int .i64 n] w fun e w' => e = .returned (.bool (inB n 0 5)) ∧ w = w' := by
  go_enter Tryz.func92, Tryz.ntmps92
  go_wp2_with (go_at_call 42; refine (l1In_c _ _ _ _).mono ?_; rintro e w' ⟨rfl, rfl⟩)
  go_ret
  exact ⟨rfl, rfl⟩
set_option maxHeartbeats 400000 in
theorem apNode_c (n : Int) (w : World) : Calls Tryz.prog 91 #[.int .i64 n] w fun e w' => e = .returned (.bool (inB n 0 13)) ∧ w = w' := by
  go_enter Tryz.func91, Tryz.ntmps91
  go_wp2_with (go_at_call 42; refine (l1In_c _ _ _ _).mono ?_; rintro e w' ⟨rfl, rfl⟩)
  go_ret
  exact ⟨rfl, rfl⟩
set_option maxRecDepth 100000 in
set_option maxHeartbeats 2000000 in
theorem isAppliance_c (nm : ByteArray) (kd nd cr sv : Int) (w : World) (hs : nm.size ≤ 9223372036854775807) :
    Calls Tryz.prog 62 #[.agg #[.string nm, .int .i64 kd, .int .i64 nd, .int .i64 cr, .int .i64 sv]] w fun e w' => e = .returned (.bool (goodAp ⟨nm, kd, nd, cr, sv⟩)) ∧ Below w.heap.size w w' := by
  go_enter Tryz.func62, Tryz.ntmps62
  go_wp2_with fail
  (generalize hw1 : World.alloc w _ = w1; have k0 : w1.cell? ⟨w.heap.size, 0, none⟩ = some (.string nm) := (by subst hw1; simp [go_sem]); have k1 : w1.cell? ⟨w.heap.size, 1, none⟩ = some (.int .i64 kd) := (by subst hw1; simp [go_sem]); have k2 : w1.cell? ⟨w.heap.size, 2, none⟩ = some (.int .i64 nd) := (by subst hw1; simp [go_sem]); have k3 : w1.cell? ⟨w.heap.size, 3, none⟩ = some (.int .i64 cr) := (by subst hw1; simp [go_sem]); have k4 : w1.cell? ⟨w.heap.size, 4, none⟩ = some (.int .i64 sv) := (by subst hw1; simp [go_sem]); have hb0 : Below w.heap.size w w1 := (by subst hw1; exact bel_al (Below.refl _ _) _); have hsz1 : w.heap.size < w1.heap.size := (by subst hw1; simp); clear hw1)
  refine (isName_c nm _ hs).mono ?_; rintro e w2 ⟨rfl, hb1⟩
  have e1 := (hb1.cell (p := ⟨w.heap.size, 1, none⟩) (by show w.heap.size < _; omega)).trans k1
  have e2 := (hb1.cell (p := ⟨w.heap.size, 2, none⟩) (by show w.heap.size < _; omega)).trans k2
  have e3 := (hb1.cell (p := ⟨w.heap.size, 3, none⟩) (by show w.heap.size < _; omega)).trans k3
  have e4 := (hb1.cell (p := ⟨w.heap.size, 4, none⟩) (by show w.heap.size < _; omega)).trans k4
  have HB := Lib.hid (bel_then hb0 hb1)
  clear k0 k1 k2 k3 k4 hb0 hb1
  by_cases hn : nameB nm = true
  · rw [hn]
    have HN := Lib.hid hn
    clear hn
    go_wp2_with (first | (go_at_call 49; refine (inside_c _ _ _ _).mono ?_; rintro e w' ⟨rfl, rfl⟩) | (go_at_call 74; refine (isState_c _ _).mono ?_; rintro e w' ⟨rfl, rfl⟩))
    all_goals (go_ret; exact ⟨by simp_all [goodAp, HN.out], HB.out⟩)
  · have hn : nameB nm = false := by simpa using hn
    rw [hn]
    have HN := Lib.hid hn
    clear hn
    go_wp2
    go_ret
    exact ⟨by simp [goodAp, HN.out], HB.out⟩
set_option maxRecDepth 100000 in
set_option maxHeartbeats 2000000 in
theorem apGood_c (nm : ByteArray) (kd nd cr sv : Int) (w : World) (hs : nm.size ≤ 9223372036854775807) :
    Calls Tryz.prog 70 #[.agg #[.string nm, .int .i64 kd, .int .i64 nd, .int .i64 cr, .int .i64 sv]] w fun e w' => e = .returned (.bool (goodAp ⟨nm, kd, nd, cr, sv⟩)) ∧ Below w.heap.size w w' := by
  go_enter Tryz.func70, Tryz.ntmps70
  go_wp2_with fail
  (generalize hw1 : World.alloc w _ = w1; have k0 : w1.cell? ⟨w.heap.size, 0, none⟩ = some (.string nm) := (by subst hw1; simp [go_sem]); have k1 : w1.cell? ⟨w.heap.size, 1, none⟩ = some (.int .i64 kd) := (by subst hw1; simp [go_sem]); have k2 : w1.cell? ⟨w.heap.size, 2, none⟩ = some (.int .i64 nd) := (by subst hw1; simp [go_sem]); have k3 : w1.cell? ⟨w.heap.size, 3, none⟩ = some (.int .i64 cr) := (by subst hw1; simp [go_sem]); have k4 : w1.cell? ⟨w.heap.size, 4, none⟩ = some (.int .i64 sv) := (by subst hw1; simp [go_sem]); have hb0 : Below w.heap.size w w1 := (by subst hw1; exact bel_al (Below.refl _ _) _); have hsz1 : w.heap.size < w1.heap.size := (by subst hw1; simp); clear hw1)
  refine (apName_c nm _ hs).mono ?_; rintro e w2 ⟨rfl, hb1⟩
  have e1 := (hb1.cell (p := ⟨w.heap.size, 1, none⟩) (by show w.heap.size < _; omega)).trans k1
  have e2 := (hb1.cell (p := ⟨w.heap.size, 2, none⟩) (by show w.heap.size < _; omega)).trans k2
  have e3 := (hb1.cell (p := ⟨w.heap.size, 3, none⟩) (by show w.heap.size < _; omega)).trans k3
  have e4 := (hb1.cell (p := ⟨w.heap.size, 4, none⟩) (by show w.heap.size < _; omega)).trans k4
  have HB := Lib.hid (bel_then hb0 hb1)
  clear k0 k1 k2 k3 k4 hb0 hb1
  by_cases hn : nameB nm = true
  · rw [hn]
    have HN := Lib.hid hn
    clear hn
    go_wp2_with (first | (go_at_call 42; refine (l1In_c _ _ _ _).mono ?_; rintro e w' ⟨rfl, rfl⟩) | (go_at_call 91; refine (apNode_c _ _).mono ?_; rintro e w' ⟨rfl, rfl⟩) | (go_at_call 92; refine (apState_c _ _).mono ?_; rintro e w' ⟨rfl, rfl⟩))
    all_goals (go_ret; exact ⟨by simp_all [goodAp, HN.out], HB.out⟩)
  · have hn : nameB nm = false := by simpa using hn
    rw [hn]
    have HN := Lib.hid hn
    clear hn
    go_wp2
    go_ret
    exact ⟨by simp [goodAp, HN.out], HB.out⟩
set_option maxRecDepth 100000 in
set_option maxHeartbeats 4000000 in
theorem isFleet_c (v : Value) (l : List Ap) (w : World) (hz : ∀ x ∈ l, x.nm.size ≤ 9223372036854775807) (hr : Rd w v l.length (l.flatMap Ap.cells)) :
    Calls Tryz.prog 46 #[v] w fun e w' => e = .returned (.bool (goodFl l)) ∧ Below w.heap.size w w' := by
  obtain ⟨A, c, rfl, hc, hm, hr⟩ := hr
  rw [maxLen_eq] at hm
  have HZ := Lib.hid hz
  have HR := Lib.hid hr
  clear hz hr
  go_enter Tryz.func46, Tryz.ntmps46
  go_wp2_with fail
  go_loopw [7] (fun i wr => ∃ k : Nat, k ≤ l.length ∧ i = .int .i64 k ∧ Hid ((List.range k).all (okAp l) = true) ∧ Hid (Below w.heap.size w wr)) (fun i _ => l.length - (intOf i).toNat)
  case atStart => exact ⟨0, Nat.zero_le _, rfl, Lib.hid rfl, Lib.hid (Below.refl _ _)⟩
  case round =>
    obtain ⟨k, hk, rfl, HA, HB⟩ := hrel
    by_cases hlt : k < l.length
    · obtain ⟨b, off, rfl, hbl, hcell⟩ := HR.out (by omega)
      obtain ⟨nm, kd, nd, cr, sv, hx, c0, c1, c2, c3, c4⟩ := ap_at' hcell HB.out hbl hlt
      have HX := Lib.hid hx
      have hzk := HZ.out _ (List.mem_of_getElem? hx)
      dsimp only at hzk
      clear hx
      go_wp2_with fail
      (generalize hw1 : World.alloc wr _ = w1; have k0 : w1.cell? ⟨wr.heap.size, 0, none⟩ = some (.string nm) := (by subst hw1; simp [go_sem]); have k1 : w1.cell? ⟨wr.heap.size, 1, none⟩ = some (.int .i64 kd) := (by subst hw1; simp [go_sem]); have k2 : w1.cell? ⟨wr.heap.size, 2, none⟩ = some (.int .i64 nd) := (by subst hw1; simp [go_sem]); have k3 : w1.cell? ⟨wr.heap.size, 3, none⟩ = some (.int .i64 cr) := (by subst hw1; simp [go_sem]); have k4 : w1.cell? ⟨wr.heap.size, 4, none⟩ = some (.int .i64 sv) := (by subst hw1; simp [go_sem]); have hb0 : Below wr.heap.size wr w1 := (by subst hw1; exact bel_al (Below.refl _ _) _); have hsz1 : wr.heap.size < w1.heap.size := (by subst hw1; simp); clear hw1)
      have hbw := bel_then HB.out hb0
      have HBW := Lib.hid hbw
      have hbwr : b < wr.heap.size := Nat.lt_of_lt_of_le hbl HB.out.size
      by_cases hg : goodAp ⟨nm, kd, nd, cr, sv⟩ = true
      · rcases k with _ | kp
        · ((refine wp_region_held_drew (S := fun w' => w'.cell? ⟨wr.heap.size, 0, none⟩ = some (.string nm) ∧ w'.cell? ⟨wr.heap.size, 1, none⟩ = some (.int .i64 kd) ∧ w'.cell? ⟨wr.heap.size, 2, none⟩ = some (.int .i64 nd) ∧ w'.cell? ⟨wr.heap.size, 3, none⟩ = some (.int .i64 cr) ∧ w'.cell? ⟨wr.heap.size, 4, none⟩ = some (.int .i64 sv)) (by kernel_rfl) (by (try dsimp only); first | go_keep | (go_split_ands; refine ⟨?_, ?_, ?_, ?_, ?_⟩ <;> assumption)) (fun hHeld => ?_)); (refine wpAnyH_take (i := 0) (v := ?_) (arr_get g_z) (by kernel_rfl) (by kernel_rfl) (by kernel_rfl) (fun _ _ _ h => h) (Or.inl ⟨by rfl, ?_⟩) hHeld ?_; rotate_left; (focus (intro w hSw; (try dsimp only at hSw); go_simp; try (first | (with_reducible rfl) | (rw [if_neg (by (try simp only [ByteArray.size_append]); omega)])))); try simp only [Act.put, List.setIfInBounds_toArray, List.set_cons_zero, List.set_cons_succ]); (refine wpAnyH_ready (rs := [1]) (by kernel_rfl) (by simp) ?_); (refine AllReadyH.cons (i := 1) (arr_get (g_s g_z)) (fun K hK => ?_) AllReadyH.nil); (go_simp); ((go_at_call 62; refine (isAppliance_c nm kd nd cr sv _ hzk).mono ?_; rw [hg]; rintro e w' ⟨rfl, hb1⟩)); (try (go_wp2_with fail)); (refine hK.out _ _ (by (try dsimp only); (go_split_ands; refine ⟨?_, ?_, ?_, ?_, ?_⟩ <;> (rw [hb1.cell (by first | assumption | (simp; omega))]; assumption))) (fun hHeld2 => ?_)); (clear hHeld hK); (clear K); (have hHeld := hHeld2); (clear hHeld2); (try simp only [Act.put, List.setIfInBounds_toArray, List.set_cons_zero, List.set_cons_succ]); (refine wpAnyH_take (i := 2) (v := ?_) (arr_get (g_s (g_s g_z))) (by kernel_rfl) (by kernel_rfl) (by kernel_rfl) (fun _ _ _ h => h) (Or.inl ⟨by rfl, ?_⟩) hHeld ?_; rotate_left; (focus (intro w hSw; (try dsimp only at hSw); go_simp; try (first | (with_reducible rfl) | (rw [if_neg (by (try simp only [ByteArray.size_append]); omega)])))); try simp only [Act.put, List.setIfInBounds_toArray, List.set_cons_zero, List.set_cons_succ]); (refine wpAnyH_take (i := 3) (v := ?_) (arr_get (g_s (g_s (g_s g_z)))) (by kernel_rfl) (by kernel_rfl) (by kernel_rfl) (fun _ _ _ h => h) (Or.inl ⟨by rfl, ?_⟩) hHeld ?_; rotate_left; (focus (intro w hSw; (try dsimp only at hSw); go_simp; try (first | (with_reducible rfl) | (rw [if_neg (by (try simp only [ByteArray.size_append]); omega)])))); try simp only [Act.put, List.setIfInBounds_toArray, List.set_cons_zero, List.set_cons_succ]); (refine wpAnyH_take (i := 4) (v := ?_) (arr_get (g_s (g_s (g_s (g_s g_z))))) (by kernel_rfl) (by kernel_rfl) (by kernel_rfl) (fun _ _ _ h => h) (Or.inl ⟨by rfl, ?_⟩) hHeld ?_; rotate_left; (focus (intro w hSw; (try dsimp only at hSw); go_simp; try (first | (with_reducible rfl) | (rw [if_neg (by (try simp only [ByteArray.size_append]); omega)])))); try simp only [Act.put, List.setIfInBounds_toArray, List.set_cons_zero, List.set_cons_succ]); (refine wpAnyH_take (i := 5) (v := ?_) (arr_get (g_s (g_s (g_s (g_s (g_s g_z)))))) (by kernel_rfl) (by kernel_rfl) (by kernel_rfl) (fun _ _ _ h => h) (Or.inl ⟨by rfl, ?_⟩) hHeld ?_; rotate_left; (focus (intro w hSw; (try dsimp only at hSw); go_simp; try (first | (with_reducible rfl) | (rw [if_neg (by (try simp only [ByteArray.size_append]); omega)])))); try simp only [Act.put, List.setIfInBounds_toArray, List.set_cons_zero, List.set_cons_succ]); (refine wpAnyH_take (i := 6) (v := ?_) (arr_get (g_s (g_s (g_s (g_s (g_s (g_s g_z))))))) (by kernel_rfl) (by kernel_rfl) (by kernel_rfl) (fun _ _ _ h => h) (Or.inl ⟨by rfl, ?_⟩) hHeld ?_; rotate_left; (focus (intro w hSw; (try dsimp only at hSw); go_simp; try (first | (with_reducible rfl) | (rw [if_neg (by (try simp only [ByteArray.size_append]); omega)])))); try simp only [Act.put, List.setIfInBounds_toArray, List.set_cons_zero, List.set_cons_succ]); (refine wpAnyH_take (i := 7) (v := _) (arr_get (g_s (g_s (g_s (g_s (g_s (g_s (g_s g_z)))))))) (by kernel_rfl) (by kernel_rfl) (by kernel_rfl) (fun _ _ _ h => h) (Or.inr ⟨by rfl, rfl⟩) hHeld ?_; try simp only [Act.put, List.setIfInBounds_toArray, List.set_cons_zero, List.set_cons_succ]); (refine wpAnyH_take (i := 8) (v := _) (arr_get (g_s (g_s (g_s (g_s (g_s (g_s (g_s (g_s g_z))))))))) (by kernel_rfl) (by kernel_rfl) (by kernel_rfl) (fun _ _ _ h => h) (Or.inr ⟨by rfl, rfl⟩) hHeld ?_; try simp only [Act.put, List.setIfInBounds_toArray, List.set_cons_zero, List.set_cons_succ]); (refine wpAnyH_take (i := 9) (v := _) (arr_get (g_s (g_s (g_s (g_s (g_s (g_s (g_s (g_s (g_s g_z)))))))))) (by kernel_rfl) (by kernel_rfl) (by kernel_rfl) (fun _ _ _ h => h) (Or.inr ⟨by rfl, rfl⟩) hHeld ?_; try simp only [Act.put, List.setIfInBounds_toArray, List.set_cons_zero, List.set_cons_succ]); (refine wpAnyH_take (i := 10) (v := _) (arr_get (g_s (g_s (g_s (g_s (g_s (g_s (g_s (g_s (g_s (g_s g_z))))))))))) (by kernel_rfl) (by kernel_rfl) (by kernel_rfl) (fun _ _ _ h => h) (Or.inr ⟨by rfl, rfl⟩) hHeld ?_; try simp only [Act.put, List.setIfInBounds_toArray, List.set_cons_zero, List.set_cons_succ]); (refine wpAnyH_take (i := 11) (v := _) (arr_get (g_s (g_s (g_s (g_s (g_s (g_s (g_s (g_s (g_s (g_s (g_s g_z)))))))))))) (by kernel_rfl) (by kernel_rfl) (by kernel_rfl) (fun _ _ _ h => h) (Or.inr ⟨by rfl, rfl⟩) hHeld ?_; try simp only [Act.put, List.setIfInBounds_toArray, List.set_cons_zero, List.set_cons_succ]); (refine wpAnyH_take (i := 12) (v := _) (arr_get (g_s (g_s (g_s (g_s (g_s (g_s (g_s (g_s (g_s (g_s (g_s (g_s g_z))))))))))))) (by kernel_rfl) (by kernel_rfl) (by kernel_rfl) (fun _ _ _ h => h) (Or.inr ⟨by rfl, rfl⟩) hHeld ?_; try simp only [Act.put, List.setIfInBounds_toArray, List.set_cons_zero, List.set_cons_succ]); (refine wpAnyH_take (i := 13) (v := _) (arr_get (g_s (g_s (g_s (g_s (g_s (g_s (g_s (g_s (g_s (g_s (g_s (g_s (g_s g_z)))))))))))))) (by kernel_rfl) (by kernel_rfl) (by kernel_rfl) (fun _ _ _ h => h) (Or.inr ⟨by rfl, rfl⟩) hHeld ?_; try simp only [Act.put, List.setIfInBounds_toArray, List.set_cons_zero, List.set_cons_succ]); (refine wpAnyH_take (i := 14) (v := _) (arr_get (g_s (g_s (g_s (g_s (g_s (g_s (g_s (g_s (g_s (g_s (g_s (g_s (g_s (g_s g_z))))))))))))))) (by kernel_rfl) (by kernel_rfl) (by kernel_rfl) (fun _ _ _ h => h) (Or.inr ⟨by rfl, rfl⟩) hHeld ?_; try simp only [Act.put, List.setIfInBounds_toArray, List.set_cons_zero, List.set_cons_succ]); (refine wpAnyH_take (i := 15) (v := _) (arr_get (g_s (g_s (g_s (g_s (g_s (g_s (g_s (g_s (g_s (g_s (g_s (g_s (g_s (g_s (g_s g_z)))))))))))))))) (by kernel_rfl) (by kernel_rfl) (by kernel_rfl) (fun _ _ _ h => h) (Or.inr ⟨by rfl, rfl⟩) hHeld ?_; try simp only [Act.put, List.setIfInBounds_toArray, List.set_cons_zero, List.set_cons_succ]); (refine wpAnyH_take (i := 16) (v := ?_) (arr_get (g_s (g_s (g_s (g_s (g_s (g_s (g_s (g_s (g_s (g_s (g_s (g_s (g_s (g_s (g_s (g_s g_z))))))))))))))))) (by kernel_rfl) (by kernel_rfl) (by kernel_rfl) (fun _ _ _ h => h) (Or.inl ⟨by rfl, ?_⟩) hHeld ?_; rotate_left; (focus (intro w hSw; (try dsimp only at hSw); go_simp; try (first | (with_reducible rfl) | (rw [if_neg (by (try simp only [ByteArray.size_append]); omega)])))); try simp only [Act.put, List.setIfInBounds_toArray, List.set_cons_zero, List.set_cons_succ]); (refine wpAnyH_take (i := 17) (v := ?_) (arr_get (g_s (g_s (g_s (g_s (g_s (g_s (g_s (g_s (g_s (g_s (g_s (g_s (g_s (g_s (g_s (g_s (g_s g_z)))))))))))))))))) (by kernel_rfl) (by kernel_rfl) (by kernel_rfl) (fun _ _ _ h => h) (Or.inl ⟨by rfl, ?_⟩) hHeld ?_; rotate_left; (focus (intro w hSw; (try dsimp only at hSw); go_simp; try (first | (with_reducible rfl) | (rw [if_neg (by (try simp only [ByteArray.size_append]); omega)])))); try simp only [Act.put, List.setIfInBounds_toArray, List.set_cons_zero, List.set_cons_succ]); (refine wpAnyH_done (by kernel_rfl) ?_ _))
          have HB2 := Lib.hid (bel_then (bel_dr HBW.out) hb1)
          have HOK := Lib.hid (okAp_first HX.out hg)
          clear hb1 hbw hg
          go_wp2
          exact ⟨⟨1, by omega, by go_num, Lib.hid (all_rng_succ HA.out HOK.out), HB2⟩, by simp [intOf]; omega⟩
        · have hlt' : kp < l.length := by omega
          obtain ⟨nm', kd', nd', cr', sv', hx', d0, d1, d2, d3, d4⟩ := ap_at' hcell hbw hbl hlt'
          have HOK := Lib.hid (okAp_next HX.out hx' hg)
          clear hx'
          have y0 : (0 : Int) ≤ (kp : Int) := Int.natCast_nonneg _
          have y1 : (kp : Int) < (l.length : Int) := by omega
          have y2 : (0 : Int) < (kp : Int) + 1 := by omega
          have s3 : IntKind.i64.wrap (kp : Int) = (kp : Int) := by rw [IntKind.wrap_i64]; omega
          ((refine wp_region_held_drew (S := fun w' => w'.cell? ⟨wr.heap.size, 0, none⟩ = some (.string nm) ∧ w'.cell? ⟨wr.heap.size, 1, none⟩ = some (.int .i64 kd) ∧ w'.cell? ⟨wr.heap.size, 2, none⟩ = some (.int .i64 nd) ∧ w'.cell? ⟨wr.heap.size, 3, none⟩ = some (.int .i64 cr) ∧ w'.cell? ⟨wr.heap.size, 4, none⟩ = some (.int .i64 sv) ∧ w'.cell? ⟨b, off + kp * 5, none⟩ = some (.string nm')) (by kernel_rfl) (by (try dsimp only); first | go_keep | (go_split_ands; refine ⟨?_, ?_, ?_, ?_, ?_, ?_⟩ <;> assumption)) (fun hHeld => ?_)); (refine wpAnyH_take (i := 0) (v := ?_) (arr_get g_z) (by kernel_rfl) (by kernel_rfl) (by kernel_rfl) (fun _ _ _ h => h) (Or.inl ⟨by rfl, ?_⟩) hHeld ?_; rotate_left; (focus (intro w hSw; (try dsimp only at hSw); go_simp; try (first | (with_reducible rfl) | (rw [if_neg (by (try simp only [ByteArray.size_append]); omega)])))); try simp only [Act.put, List.setIfInBounds_toArray, List.set_cons_zero, List.set_cons_succ]); (refine wpAnyH_ready (rs := [1]) (by kernel_rfl) (by simp) ?_); (refine AllReadyH.cons (i := 1) (arr_get (g_s g_z)) (fun K hK => ?_) AllReadyH.nil); (go_simp); ((go_at_call 62; refine (isAppliance_c nm kd nd cr sv _ hzk).mono ?_; rw [hg]; rintro e w' ⟨rfl, hb1⟩)); (try (go_wp2_with fail)); (refine hK.out _ _ (by (try dsimp only); (go_split_ands; refine ⟨?_, ?_, ?_, ?_, ?_, ?_⟩ <;> (rw [hb1.cell (by first | assumption | (simp; omega))]; assumption))) (fun hHeld2 => ?_)); (clear hHeld hK); (clear K); (have hHeld := hHeld2); (clear hHeld2); (try simp only [Act.put, List.setIfInBounds_toArray, List.set_cons_zero, List.set_cons_succ]); (refine wpAnyH_take (i := 2) (v := ?_) (arr_get (g_s (g_s g_z))) (by kernel_rfl) (by kernel_rfl) (by kernel_rfl) (fun _ _ _ h => h) (Or.inl ⟨by rfl, ?_⟩) hHeld ?_; rotate_left; (focus (intro w hSw; (try dsimp only at hSw); go_simp; try (first | (with_reducible rfl) | (rw [if_neg (by (try simp only [ByteArray.size_append]); omega)])))); try simp only [Act.put, List.setIfInBounds_toArray, List.set_cons_zero, List.set_cons_succ]); (refine wpAnyH_take (i := 3) (v := ?_) (arr_get (g_s (g_s (g_s g_z)))) (by kernel_rfl) (by kernel_rfl) (by kernel_rfl) (fun _ _ _ h => h) (Or.inl ⟨by rfl, ?_⟩) hHeld ?_; rotate_left; (focus (intro w hSw; (try dsimp only at hSw); go_simp; try (first | (with_reducible rfl) | (rw [if_neg (by (try simp only [ByteArray.size_append]); omega)])))); try simp only [Act.put, List.setIfInBounds_toArray, List.set_cons_zero, List.set_cons_succ]); (refine wpAnyH_take (i := 4) (v := ?_) (arr_get (g_s (g_s (g_s (g_s g_z))))) (by kernel_rfl) (by kernel_rfl) (by kernel_rfl) (fun _ _ _ h => h) (Or.inl ⟨by rfl, ?_⟩) hHeld ?_; rotate_left; (focus (intro w hSw; (try dsimp only at hSw); go_simp; try (first | (with_reducible rfl) | (rw [if_neg (by (try simp only [ByteArray.size_append]); omega)])))); try simp only [Act.put, List.setIfInBounds_toArray, List.set_cons_zero, List.set_cons_succ]); (refine wpAnyH_take (i := 5) (v := ?_) (arr_get (g_s (g_s (g_s (g_s (g_s g_z)))))) (by kernel_rfl) (by kernel_rfl) (by kernel_rfl) (fun _ _ _ h => h) (Or.inl ⟨by rfl, ?_⟩) hHeld ?_; rotate_left; (focus (intro w hSw; (try dsimp only at hSw); go_simp; try (first | (with_reducible rfl) | (rw [if_neg (by (try simp only [ByteArray.size_append]); omega)])))); try simp only [Act.put, List.setIfInBounds_toArray, List.set_cons_zero, List.set_cons_succ]); (refine wpAnyH_take (i := 6) (v := ?_) (arr_get (g_s (g_s (g_s (g_s (g_s (g_s g_z))))))) (by kernel_rfl) (by kernel_rfl) (by kernel_rfl) (fun _ _ _ h => h) (Or.inl ⟨by rfl, ?_⟩) hHeld ?_; rotate_left; (focus (intro w hSw; (try dsimp only at hSw); go_simp; try (first | (with_reducible rfl) | (rw [if_neg (by (try simp only [ByteArray.size_append]); omega)])))); try simp only [Act.put, List.setIfInBounds_toArray, List.set_cons_zero, List.set_cons_succ]); (refine wpAnyH_take (i := 7) (v := ?_) (arr_get (g_s (g_s (g_s (g_s (g_s (g_s (g_s g_z)))))))) (by kernel_rfl) (by kernel_rfl) (by kernel_rfl) (fun _ _ _ h => h) (Or.inl ⟨by rfl, ?_⟩) hHeld ?_; rotate_left; (focus (intro w hSw; (try dsimp only at hSw); go_simp; try (first | (with_reducible rfl) | (rw [if_neg (by (try simp only [ByteArray.size_append]); omega)])))); try simp only [Act.put, List.setIfInBounds_toArray, List.set_cons_zero, List.set_cons_succ]); (refine wpAnyH_take (i := 8) (v := ?_) (arr_get (g_s (g_s (g_s (g_s (g_s (g_s (g_s (g_s g_z))))))))) (by kernel_rfl) (by kernel_rfl) (by kernel_rfl) (fun _ _ _ h => h) (Or.inl ⟨by rfl, ?_⟩) hHeld ?_; rotate_left; (focus (intro w hSw; (try dsimp only at hSw); go_simp; try (first | (with_reducible rfl) | (rw [if_neg (by (try simp only [ByteArray.size_append]); omega)])))); try simp only [Act.put, List.setIfInBounds_toArray, List.set_cons_zero, List.set_cons_succ]); (refine wpAnyH_take (i := 9) (v := ?_) (arr_get (g_s (g_s (g_s (g_s (g_s (g_s (g_s (g_s (g_s g_z)))))))))) (by kernel_rfl) (by kernel_rfl) (by kernel_rfl) (fun _ _ _ h => h) (Or.inl ⟨by rfl, ?_⟩) hHeld ?_; rotate_left; (focus (intro w hSw; (try dsimp only at hSw); go_simp; try (first | (with_reducible rfl) | (rw [if_neg (by (try simp only [ByteArray.size_append]); omega)])))); try simp only [Act.put, List.setIfInBounds_toArray, List.set_cons_zero, List.set_cons_succ]); (refine wpAnyH_take (i := 10) (v := ?_) (arr_get (g_s (g_s (g_s (g_s (g_s (g_s (g_s (g_s (g_s (g_s g_z))))))))))) (by kernel_rfl) (by kernel_rfl) (by kernel_rfl) (fun _ _ _ h => h) (Or.inl ⟨by rfl, ?_⟩) hHeld ?_; rotate_left; (focus (intro w hSw; (try dsimp only at hSw); go_simp; try (first | (with_reducible rfl) | (rw [if_neg (by (try simp only [ByteArray.size_append]); omega)])))); try simp only [Act.put, List.setIfInBounds_toArray, List.set_cons_zero, List.set_cons_succ]); (refine wpAnyH_take (i := 11) (v := ?_) (arr_get (g_s (g_s (g_s (g_s (g_s (g_s (g_s (g_s (g_s (g_s (g_s g_z)))))))))))) (by kernel_rfl) (by kernel_rfl) (by kernel_rfl) (fun _ _ _ h => h) (Or.inl ⟨by rfl, ?_⟩) hHeld ?_; rotate_left; (focus (intro w hSw; (try dsimp only at hSw); go_simp; try (first | (with_reducible rfl) | (rw [if_neg (by (try simp only [ByteArray.size_append]); omega)])))); try simp only [Act.put, List.setIfInBounds_toArray, List.set_cons_zero, List.set_cons_succ]); (refine wpAnyH_take (i := 12) (v := ?_) (arr_get (g_s (g_s (g_s (g_s (g_s (g_s (g_s (g_s (g_s (g_s (g_s (g_s g_z))))))))))))) (by kernel_rfl) (by kernel_rfl) (by kernel_rfl) (fun _ _ _ h => h) (Or.inl ⟨by rfl, ?_⟩) hHeld ?_; rotate_left; (focus (intro w hSw; (try dsimp only at hSw); go_simp; try (first | (with_reducible rfl) | (rw [if_neg (by (try simp only [ByteArray.size_append]); omega)])))); try simp only [Act.put, List.setIfInBounds_toArray, List.set_cons_zero, List.set_cons_succ]); (refine wpAnyH_take (i := 13) (v := ?_) (arr_get (g_s (g_s (g_s (g_s (g_s (g_s (g_s (g_s (g_s (g_s (g_s (g_s (g_s g_z)))))))))))))) (by kernel_rfl) (by kernel_rfl) (by kernel_rfl) (fun _ _ _ h => h) (Or.inl ⟨by rfl, ?_⟩) hHeld ?_; rotate_left; (focus (intro w hSw; (try dsimp only at hSw); go_simp; try (first | (with_reducible rfl) | (rw [if_neg (by (try simp only [ByteArray.size_append]); omega)])))); try simp only [Act.put, List.setIfInBounds_toArray, List.set_cons_zero, List.set_cons_succ]); (refine wpAnyH_take (i := 14) (v := ?_) (arr_get (g_s (g_s (g_s (g_s (g_s (g_s (g_s (g_s (g_s (g_s (g_s (g_s (g_s (g_s g_z))))))))))))))) (by kernel_rfl) (by kernel_rfl) (by kernel_rfl) (fun _ _ _ h => h) (Or.inl ⟨by rfl, ?_⟩) hHeld ?_; rotate_left; (focus (intro w hSw; (try dsimp only at hSw); go_simp; try (first | (with_reducible rfl) | (rw [if_neg (by (try simp only [ByteArray.size_append]); omega)])))); try simp only [Act.put, List.setIfInBounds_toArray, List.set_cons_zero, List.set_cons_succ]); (refine wpAnyH_take (i := 15) (v := ?_) (arr_get (g_s (g_s (g_s (g_s (g_s (g_s (g_s (g_s (g_s (g_s (g_s (g_s (g_s (g_s (g_s g_z)))))))))))))))) (by kernel_rfl) (by kernel_rfl) (by kernel_rfl) (fun _ _ _ h => h) (Or.inl ⟨by rfl, ?_⟩) hHeld ?_; rotate_left; (focus (intro w hSw; (try dsimp only at hSw); go_simp; try (first | (with_reducible rfl) | (rw [if_neg (by (try simp only [ByteArray.size_append]); omega)])))); try simp only [Act.put, List.setIfInBounds_toArray, List.set_cons_zero, List.set_cons_succ]); (refine wpAnyH_take (i := 16) (v := ?_) (arr_get (g_s (g_s (g_s (g_s (g_s (g_s (g_s (g_s (g_s (g_s (g_s (g_s (g_s (g_s (g_s (g_s g_z))))))))))))))))) (by kernel_rfl) (by kernel_rfl) (by kernel_rfl) (fun _ _ _ h => h) (Or.inl ⟨by rfl, ?_⟩) hHeld ?_; rotate_left; (focus (intro w hSw; (try dsimp only at hSw); go_simp; try (first | (with_reducible rfl) | (rw [if_neg (by (try simp only [ByteArray.size_append]); omega)])))); try simp only [Act.put, List.setIfInBounds_toArray, List.set_cons_zero, List.set_cons_succ]); (refine wpAnyH_take (i := 17) (v := ?_) (arr_get (g_s (g_s (g_s (g_s (g_s (g_s (g_s (g_s (g_s (g_s (g_s (g_s (g_s (g_s (g_s (g_s (g_s g_z)))))))))))))))))) (by kernel_rfl) (by kernel_rfl) (by kernel_rfl) (fun _ _ _ h => h) (Or.inl ⟨by rfl, ?_⟩) hHeld ?_; rotate_left; (focus (intro w hSw; (try dsimp only at hSw); go_simp; try (first | (with_reducible rfl) | (rw [if_neg (by (try simp only [ByteArray.size_append]); omega)])))); try simp only [Act.put, List.setIfInBounds_toArray, List.set_cons_zero, List.set_cons_succ]); (refine wpAnyH_done (by kernel_rfl) ?_ _))
          have HB2 := Lib.hid (bel_then (bel_dr HBW.out) hb1)
          clear s3 hb1 hbw hg
          go_wp2
          · go_ret
            have h : geS nm' nm = true := by unfold geS; simp_all
            refine ⟨?_, HB2.out⟩
            rw [fleet_no hlt (by rw [HOK.out, h]; rfl)]; rfl
          · have h : geS nm' nm = false := by unfold geS; simp_all
            exact ⟨⟨kp + 1 + 1, by omega, by go_num, Lib.hid (all_rng_succ HA.out (by rw [HOK.out, h]; rfl)), HB2⟩, by simp [intOf]; omega⟩
      · have hg : goodAp ⟨nm, kd, nd, cr, sv⟩ = false := by simpa using hg
        ((refine wp_region_held_drew (S := fun w' => w'.cell? ⟨wr.heap.size, 0, none⟩ = some (.string nm) ∧ w'.cell? ⟨wr.heap.size, 1, none⟩ = some (.int .i64 kd) ∧ w'.cell? ⟨wr.heap.size, 2, none⟩ = some (.int .i64 nd) ∧ w'.cell? ⟨wr.heap.size, 3, none⟩ = some (.int .i64 cr) ∧ w'.cell? ⟨wr.heap.size, 4, none⟩ = some (.int .i64 sv)) (by kernel_rfl) (by (try dsimp only); first | go_keep | (go_split_ands; refine ⟨?_, ?_, ?_, ?_, ?_⟩ <;> assumption)) (fun hHeld => ?_)); (refine wpAnyH_take (i := 0) (v := ?_) (arr_get g_z) (by kernel_rfl) (by kernel_rfl) (by kernel_rfl) (fun _ _ _ h => h) (Or.inl ⟨by rfl, ?_⟩) hHeld ?_; rotate_left; (focus (intro w hSw; (try dsimp only at hSw); go_simp; try (first | (with_reducible rfl) | (rw [if_neg (by (try simp only [ByteArray.size_append]); omega)])))); try simp only [Act.put, List.setIfInBounds_toArray, List.set_cons_zero, List.set_cons_succ]); (refine wpAnyH_ready (rs := [1]) (by kernel_rfl) (by simp) ?_); (refine AllReadyH.cons (i := 1) (arr_get (g_s g_z)) (fun K hK => ?_) AllReadyH.nil); (go_simp); ((go_at_call 62; refine (isAppliance_c nm kd nd cr sv _ hzk).mono ?_; rw [hg]; rintro e w' ⟨rfl, hb1⟩)); (try (go_wp2_with fail)); (refine hK.out _ _ (by (try dsimp only); (go_split_ands; refine ⟨?_, ?_, ?_, ?_, ?_⟩ <;> (rw [hb1.cell (by first | assumption | (simp; omega))]; assumption))) (fun hHeld2 => ?_)); (clear hHeld hK); (clear K); (have hHeld := hHeld2); (clear hHeld2); (try simp only [Act.put, List.setIfInBounds_toArray, List.set_cons_zero, List.set_cons_succ]); (refine wpAnyH_take (i := 2) (v := ?_) (arr_get (g_s (g_s g_z))) (by kernel_rfl) (by kernel_rfl) (by kernel_rfl) (fun _ _ _ h => h) (Or.inl ⟨by rfl, ?_⟩) hHeld ?_; rotate_left; (focus (intro w hSw; (try dsimp only at hSw); go_simp; try (first | (with_reducible rfl) | (rw [if_neg (by (try simp only [ByteArray.size_append]); omega)])))); try simp only [Act.put, List.setIfInBounds_toArray, List.set_cons_zero, List.set_cons_succ]); (refine wpAnyH_take (i := 3) (v := ?_) (arr_get (g_s (g_s (g_s g_z)))) (by kernel_rfl) (by kernel_rfl) (by kernel_rfl) (fun _ _ _ h => h) (Or.inl ⟨by rfl, ?_⟩) hHeld ?_; rotate_left; (focus (intro w hSw; (try dsimp only at hSw); go_simp; try (first | (with_reducible rfl) | (rw [if_neg (by (try simp only [ByteArray.size_append]); omega)])))); try simp only [Act.put, List.setIfInBounds_toArray, List.set_cons_zero, List.set_cons_succ]); (refine wpAnyH_take (i := 4) (v := _) (arr_get (g_s (g_s (g_s (g_s g_z))))) (by kernel_rfl) (by kernel_rfl) (by kernel_rfl) (fun _ _ _ h => h) (Or.inr ⟨by rfl, rfl⟩) hHeld ?_; try simp only [Act.put, List.setIfInBounds_toArray, List.set_cons_zero, List.set_cons_succ]); (refine wpAnyH_take (i := 5) (v := _) (arr_get (g_s (g_s (g_s (g_s (g_s g_z)))))) (by kernel_rfl) (by kernel_rfl) (by kernel_rfl) (fun _ _ _ h => h) (Or.inr ⟨by rfl, rfl⟩) hHeld ?_; try simp only [Act.put, List.setIfInBounds_toArray, List.set_cons_zero, List.set_cons_succ]); (refine wpAnyH_take (i := 6) (v := _) (arr_get (g_s (g_s (g_s (g_s (g_s (g_s g_z))))))) (by kernel_rfl) (by kernel_rfl) (by kernel_rfl) (fun _ _ _ h => h) (Or.inr ⟨by rfl, rfl⟩) hHeld ?_; try simp only [Act.put, List.setIfInBounds_toArray, List.set_cons_zero, List.set_cons_succ]); (refine wpAnyH_take (i := 7) (v := _) (arr_get (g_s (g_s (g_s (g_s (g_s (g_s (g_s g_z)))))))) (by kernel_rfl) (by kernel_rfl) (by kernel_rfl) (fun _ _ _ h => h) (Or.inr ⟨by rfl, rfl⟩) hHeld ?_; try simp only [Act.put, List.setIfInBounds_toArray, List.set_cons_zero, List.set_cons_succ]); (refine wpAnyH_take (i := 8) (v := _) (arr_get (g_s (g_s (g_s (g_s (g_s (g_s (g_s (g_s g_z))))))))) (by kernel_rfl) (by kernel_rfl) (by kernel_rfl) (fun _ _ _ h => h) (Or.inr ⟨by rfl, rfl⟩) hHeld ?_; try simp only [Act.put, List.setIfInBounds_toArray, List.set_cons_zero, List.set_cons_succ]); (refine wpAnyH_take (i := 9) (v := _) (arr_get (g_s (g_s (g_s (g_s (g_s (g_s (g_s (g_s (g_s g_z)))))))))) (by kernel_rfl) (by kernel_rfl) (by kernel_rfl) (fun _ _ _ h => h) (Or.inr ⟨by rfl, rfl⟩) hHeld ?_; try simp only [Act.put, List.setIfInBounds_toArray, List.set_cons_zero, List.set_cons_succ]); (refine wpAnyH_take (i := 10) (v := _) (arr_get (g_s (g_s (g_s (g_s (g_s (g_s (g_s (g_s (g_s (g_s g_z))))))))))) (by kernel_rfl) (by kernel_rfl) (by kernel_rfl) (fun _ _ _ h => h) (Or.inr ⟨by rfl, rfl⟩) hHeld ?_; try simp only [Act.put, List.setIfInBounds_toArray, List.set_cons_zero, List.set_cons_succ]); (refine wpAnyH_take (i := 11) (v := _) (arr_get (g_s (g_s (g_s (g_s (g_s (g_s (g_s (g_s (g_s (g_s (g_s g_z)))))))))))) (by kernel_rfl) (by kernel_rfl) (by kernel_rfl) (fun _ _ _ h => h) (Or.inr ⟨by rfl, rfl⟩) hHeld ?_; try simp only [Act.put, List.setIfInBounds_toArray, List.set_cons_zero, List.set_cons_succ]); (refine wpAnyH_take (i := 12) (v := _) (arr_get (g_s (g_s (g_s (g_s (g_s (g_s (g_s (g_s (g_s (g_s (g_s (g_s g_z))))))))))))) (by kernel_rfl) (by kernel_rfl) (by kernel_rfl) (fun _ _ _ h => h) (Or.inr ⟨by rfl, rfl⟩) hHeld ?_; try simp only [Act.put, List.setIfInBounds_toArray, List.set_cons_zero, List.set_cons_succ]); (refine wpAnyH_take (i := 13) (v := _) (arr_get (g_s (g_s (g_s (g_s (g_s (g_s (g_s (g_s (g_s (g_s (g_s (g_s (g_s g_z)))))))))))))) (by kernel_rfl) (by kernel_rfl) (by kernel_rfl) (fun _ _ _ h => h) (Or.inr ⟨by rfl, rfl⟩) hHeld ?_; try simp only [Act.put, List.setIfInBounds_toArray, List.set_cons_zero, List.set_cons_succ]); (refine wpAnyH_take (i := 14) (v := _) (arr_get (g_s (g_s (g_s (g_s (g_s (g_s (g_s (g_s (g_s (g_s (g_s (g_s (g_s (g_s g_z))))))))))))))) (by kernel_rfl) (by kernel_rfl) (by kernel_rfl) (fun _ _ _ h => h) (Or.inr ⟨by rfl, rfl⟩) hHeld ?_; try simp only [Act.put, List.setIfInBounds_toArray, List.set_cons_zero, List.set_cons_succ]); (refine wpAnyH_take (i := 15) (v := _) (arr_get (g_s (g_s (g_s (g_s (g_s (g_s (g_s (g_s (g_s (g_s (g_s (g_s (g_s (g_s (g_s g_z)))))))))))))))) (by kernel_rfl) (by kernel_rfl) (by kernel_rfl) (fun _ _ _ h => h) (Or.inr ⟨by rfl, rfl⟩) hHeld ?_; try simp only [Act.put, List.setIfInBounds_toArray, List.set_cons_zero, List.set_cons_succ]); (refine wpAnyH_take (i := 16) (v := _) (arr_get (g_s (g_s (g_s (g_s (g_s (g_s (g_s (g_s (g_s (g_s (g_s (g_s (g_s (g_s (g_s (g_s g_z))))))))))))))))) (by kernel_rfl) (by kernel_rfl) (by kernel_rfl) (fun _ _ _ h => h) (Or.inr ⟨by rfl, rfl⟩) hHeld ?_; try simp only [Act.put, List.setIfInBounds_toArray, List.set_cons_zero, List.set_cons_succ]); (refine wpAnyH_take (i := 17) (v := ?_) (arr_get (g_s (g_s (g_s (g_s (g_s (g_s (g_s (g_s (g_s (g_s (g_s (g_s (g_s (g_s (g_s (g_s (g_s g_z)))))))))))))))))) (by kernel_rfl) (by kernel_rfl) (by kernel_rfl) (fun _ _ _ h => h) (Or.inl ⟨by rfl, ?_⟩) hHeld ?_; rotate_left; (focus (intro w hSw; (try dsimp only at hSw); go_simp; try (first | (with_reducible rfl) | (rw [if_neg (by (try simp only [ByteArray.size_append]); omega)])))); try simp only [Act.put, List.setIfInBounds_toArray, List.set_cons_zero, List.set_cons_succ]); (refine wpAnyH_done (by kernel_rfl) ?_ _))
        have HB2 := Lib.hid (bel_then (bel_dr HBW.out) hb1)
        have HOK := Lib.hid (fleet_no hlt (okAp_bad HX.out hg))
        clear hb1 hbw hg
        go_wp2
        go_ret
        rw [HOK.out]
        exact ⟨rfl, HB2.out⟩
    · obtain rfl : k = l.length := by omega
      have HE := Lib.hid (fleet_end HA.out)
      go_wp2
      go_ret
      rw [HE.out]
      exact ⟨congrArg (fun b => Ending.returned (.bool b)) (by rw [decide_eq_decide]; omega), HB.out⟩
set_option maxRecDepth 100000 in
set_option maxHeartbeats 4000000 in
theorem apFleet_c (v : Value) (l : List Ap) (w : World) (hz : ∀ x ∈ l, x.nm.size ≤ 9223372036854775807) (hr : Rd w v l.length (l.flatMap Ap.cells)) :
    Calls Tryz.prog 57 #[v] w fun e w' => e = .returned (.bool (goodFl l)) ∧ Below w.heap.size w w' := by
  obtain ⟨A, c, rfl, hc, hm, hr⟩ := hr
  rw [maxLen_eq] at hm
  have HZ := Lib.hid hz
  have HR := Lib.hid hr
  clear hz hr
  go_enter Tryz.func57, Tryz.ntmps57
  go_wp2_with fail
  go_loopw [7] (fun i wr => ∃ k : Nat, k ≤ l.length ∧ i = .int .i64 k ∧ Hid ((List.range k).all (okAp l) = true) ∧ Hid (Below w.heap.size w wr)) (fun i _ => l.length - (intOf i).toNat)
  case atStart => exact ⟨0, Nat.zero_le _, rfl, Lib.hid rfl, Lib.hid (Below.refl _ _)⟩
  case round =>
    obtain ⟨k, hk, rfl, HA, HB⟩ := hrel
    by_cases hlt : k < l.length
    · obtain ⟨b, off, rfl, hbl, hcell⟩ := HR.out (by omega)
      obtain ⟨nm, kd, nd, cr, sv, hx, c0, c1, c2, c3, c4⟩ := ap_at' hcell HB.out hbl hlt
      have HX := Lib.hid hx
      have hzk := HZ.out _ (List.mem_of_getElem? hx)
      dsimp only at hzk
      clear hx
      go_wp2_with fail
      (generalize hw1 : World.alloc wr _ = w1; have k0 : w1.cell? ⟨wr.heap.size, 0, none⟩ = some (.string nm) := (by subst hw1; simp [go_sem]); have k1 : w1.cell? ⟨wr.heap.size, 1, none⟩ = some (.int .i64 kd) := (by subst hw1; simp [go_sem]); have k2 : w1.cell? ⟨wr.heap.size, 2, none⟩ = some (.int .i64 nd) := (by subst hw1; simp [go_sem]); have k3 : w1.cell? ⟨wr.heap.size, 3, none⟩ = some (.int .i64 cr) := (by subst hw1; simp [go_sem]); have k4 : w1.cell? ⟨wr.heap.size, 4, none⟩ = some (.int .i64 sv) := (by subst hw1; simp [go_sem]); have hb0 : Below wr.heap.size wr w1 := (by subst hw1; exact bel_al (Below.refl _ _) _); have hsz1 : wr.heap.size < w1.heap.size := (by subst hw1; simp); clear hw1)
      have hbw := bel_then HB.out hb0
      have HBW := Lib.hid hbw
      have hbwr : b < wr.heap.size := Nat.lt_of_lt_of_le hbl HB.out.size
      by_cases hg : goodAp ⟨nm, kd, nd, cr, sv⟩ = true
      · rcases k with _ | kp
        · ((refine wp_region_held_drew (S := fun w' => w'.cell? ⟨wr.heap.size, 0, none⟩ = some (.string nm) ∧ w'.cell? ⟨wr.heap.size, 1, none⟩ = some (.int .i64 kd) ∧ w'.cell? ⟨wr.heap.size, 2, none⟩ = some (.int .i64 nd) ∧ w'.cell? ⟨wr.heap.size, 3, none⟩ = some (.int .i64 cr) ∧ w'.cell? ⟨wr.heap.size, 4, none⟩ = some (.int .i64 sv)) (by kernel_rfl) (by (try dsimp only); first | go_keep | (go_split_ands; refine ⟨?_, ?_, ?_, ?_, ?_⟩ <;> assumption)) (fun hHeld => ?_)); (refine wpAnyH_take (i := 0) (v := ?_) (arr_get g_z) (by kernel_rfl) (by kernel_rfl) (by kernel_rfl) (fun _ _ _ h => h) (Or.inl ⟨by rfl, ?_⟩) hHeld ?_; rotate_left; (focus (intro w hSw; (try dsimp only at hSw); go_simp; try (first | (with_reducible rfl) | (rw [if_neg (by (try simp only [ByteArray.size_append]); omega)])))); try simp only [Act.put, List.setIfInBounds_toArray, List.set_cons_zero, List.set_cons_succ]); (refine wpAnyH_ready (rs := [1]) (by kernel_rfl) (by simp) ?_); (refine AllReadyH.cons (i := 1) (arr_get (g_s g_z)) (fun K hK => ?_) AllReadyH.nil); (go_simp); ((go_at_call 70; refine (apGood_c nm kd nd cr sv _ hzk).mono ?_; rw [hg]; rintro e w' ⟨rfl, hb1⟩)); (try (go_wp2_with fail)); (refine hK.out _ _ (by (try dsimp only); (go_split_ands; refine ⟨?_, ?_, ?_, ?_, ?_⟩ <;> (rw [hb1.cell (by first | assumption | (simp; omega))]; assumption))) (fun hHeld2 => ?_)); (clear hHeld hK); (clear K); (have hHeld := hHeld2); (clear hHeld2); (try simp only [Act.put, List.setIfInBounds_toArray, List.set_cons_zero, List.set_cons_succ]); (refine wpAnyH_take (i := 2) (v := ?_) (arr_get (g_s (g_s g_z))) (by kernel_rfl) (by kernel_rfl) (by kernel_rfl) (fun _ _ _ h => h) (Or.inl ⟨by rfl, ?_⟩) hHeld ?_; rotate_left; (focus (intro w hSw; (try dsimp only at hSw); go_simp; try (first | (with_reducible rfl) | (rw [if_neg (by (try simp only [ByteArray.size_append]); omega)])))); try simp only [Act.put, List.setIfInBounds_toArray, List.set_cons_zero, List.set_cons_succ]); (refine wpAnyH_take (i := 3) (v := ?_) (arr_get (g_s (g_s (g_s g_z)))) (by kernel_rfl) (by kernel_rfl) (by kernel_rfl) (fun _ _ _ h => h) (Or.inl ⟨by rfl, ?_⟩) hHeld ?_; rotate_left; (focus (intro w hSw; (try dsimp only at hSw); go_simp; try (first | (with_reducible rfl) | (rw [if_neg (by (try simp only [ByteArray.size_append]); omega)])))); try simp only [Act.put, List.setIfInBounds_toArray, List.set_cons_zero, List.set_cons_succ]); (refine wpAnyH_take (i := 4) (v := ?_) (arr_get (g_s (g_s (g_s (g_s g_z))))) (by kernel_rfl) (by kernel_rfl) (by kernel_rfl) (fun _ _ _ h => h) (Or.inl ⟨by rfl, ?_⟩) hHeld ?_; rotate_left; (focus (intro w hSw; (try dsimp only at hSw); go_simp; try (first | (with_reducible rfl) | (rw [if_neg (by (try simp only [ByteArray.size_append]); omega)])))); try simp only [Act.put, List.setIfInBounds_toArray, List.set_cons_zero, List.set_cons_succ]); (refine wpAnyH_take (i := 5) (v := ?_) (arr_get (g_s (g_s (g_s (g_s (g_s g_z)))))) (by kernel_rfl) (by kernel_rfl) (by kernel_rfl) (fun _ _ _ h => h) (Or.inl ⟨by rfl, ?_⟩) hHeld ?_; rotate_left; (focus (intro w hSw; (try dsimp only at hSw); go_simp; try (first | (with_reducible rfl) | (rw [if_neg (by (try simp only [ByteArray.size_append]); omega)])))); try simp only [Act.put, List.setIfInBounds_toArray, List.set_cons_zero, List.set_cons_succ]); (refine wpAnyH_take (i := 6) (v := ?_) (arr_get (g_s (g_s (g_s (g_s (g_s (g_s g_z))))))) (by kernel_rfl) (by kernel_rfl) (by kernel_rfl) (fun _ _ _ h => h) (Or.inl ⟨by rfl, ?_⟩) hHeld ?_; rotate_left; (focus (intro w hSw; (try dsimp only at hSw); go_simp; try (first | (with_reducible rfl) | (rw [if_neg (by (try simp only [ByteArray.size_append]); omega)])))); try simp only [Act.put, List.setIfInBounds_toArray, List.set_cons_zero, List.set_cons_succ]); (refine wpAnyH_take (i := 7) (v := _) (arr_get (g_s (g_s (g_s (g_s (g_s (g_s (g_s g_z)))))))) (by kernel_rfl) (by kernel_rfl) (by kernel_rfl) (fun _ _ _ h => h) (Or.inr ⟨by rfl, rfl⟩) hHeld ?_; try simp only [Act.put, List.setIfInBounds_toArray, List.set_cons_zero, List.set_cons_succ]); (refine wpAnyH_take (i := 8) (v := _) (arr_get (g_s (g_s (g_s (g_s (g_s (g_s (g_s (g_s g_z))))))))) (by kernel_rfl) (by kernel_rfl) (by kernel_rfl) (fun _ _ _ h => h) (Or.inr ⟨by rfl, rfl⟩) hHeld ?_; try simp only [Act.put, List.setIfInBounds_toArray, List.set_cons_zero, List.set_cons_succ]); (refine wpAnyH_take (i := 9) (v := _) (arr_get (g_s (g_s (g_s (g_s (g_s (g_s (g_s (g_s (g_s g_z)))))))))) (by kernel_rfl) (by kernel_rfl) (by kernel_rfl) (fun _ _ _ h => h) (Or.inr ⟨by rfl, rfl⟩) hHeld ?_; try simp only [Act.put, List.setIfInBounds_toArray, List.set_cons_zero, List.set_cons_succ]); (refine wpAnyH_take (i := 10) (v := _) (arr_get (g_s (g_s (g_s (g_s (g_s (g_s (g_s (g_s (g_s (g_s g_z))))))))))) (by kernel_rfl) (by kernel_rfl) (by kernel_rfl) (fun _ _ _ h => h) (Or.inr ⟨by rfl, rfl⟩) hHeld ?_; try simp only [Act.put, List.setIfInBounds_toArray, List.set_cons_zero, List.set_cons_succ]); (refine wpAnyH_take (i := 11) (v := _) (arr_get (g_s (g_s (g_s (g_s (g_s (g_s (g_s (g_s (g_s (g_s (g_s g_z)))))))))))) (by kernel_rfl) (by kernel_rfl) (by kernel_rfl) (fun _ _ _ h => h) (Or.inr ⟨by rfl, rfl⟩) hHeld ?_; try simp only [Act.put, List.setIfInBounds_toArray, List.set_cons_zero, List.set_cons_succ]); (refine wpAnyH_take (i := 12) (v := _) (arr_get (g_s (g_s (g_s (g_s (g_s (g_s (g_s (g_s (g_s (g_s (g_s (g_s g_z))))))))))))) (by kernel_rfl) (by kernel_rfl) (by kernel_rfl) (fun _ _ _ h => h) (Or.inr ⟨by rfl, rfl⟩) hHeld ?_; try simp only [Act.put, List.setIfInBounds_toArray, List.set_cons_zero, List.set_cons_succ]); (refine wpAnyH_take (i := 13) (v := _) (arr_get (g_s (g_s (g_s (g_s (g_s (g_s (g_s (g_s (g_s (g_s (g_s (g_s (g_s g_z)))))))))))))) (by kernel_rfl) (by kernel_rfl) (by kernel_rfl) (fun _ _ _ h => h) (Or.inr ⟨by rfl, rfl⟩) hHeld ?_; try simp only [Act.put, List.setIfInBounds_toArray, List.set_cons_zero, List.set_cons_succ]); (refine wpAnyH_take (i := 14) (v := _) (arr_get (g_s (g_s (g_s (g_s (g_s (g_s (g_s (g_s (g_s (g_s (g_s (g_s (g_s (g_s g_z))))))))))))))) (by kernel_rfl) (by kernel_rfl) (by kernel_rfl) (fun _ _ _ h => h) (Or.inr ⟨by rfl, rfl⟩) hHeld ?_; try simp only [Act.put, List.setIfInBounds_toArray, List.set_cons_zero, List.set_cons_succ]); (refine wpAnyH_take (i := 15) (v := _) (arr_get (g_s (g_s (g_s (g_s (g_s (g_s (g_s (g_s (g_s (g_s (g_s (g_s (g_s (g_s (g_s g_z)))))))))))))))) (by kernel_rfl) (by kernel_rfl) (by kernel_rfl) (fun _ _ _ h => h) (Or.inr ⟨by rfl, rfl⟩) hHeld ?_; try simp only [Act.put, List.setIfInBounds_toArray, List.set_cons_zero, List.set_cons_succ]); (refine wpAnyH_take (i := 16) (v := ?_) (arr_get (g_s (g_s (g_s (g_s (g_s (g_s (g_s (g_s (g_s (g_s (g_s (g_s (g_s (g_s (g_s (g_s g_z))))))))))))))))) (by kernel_rfl) (by kernel_rfl) (by kernel_rfl) (fun _ _ _ h => h) (Or.inl ⟨by rfl, ?_⟩) hHeld ?_; rotate_left; (focus (intro w hSw; (try dsimp only at hSw); go_simp; try (first | (with_reducible rfl) | (rw [if_neg (by (try simp only [ByteArray.size_append]); omega)])))); try simp only [Act.put, List.setIfInBounds_toArray, List.set_cons_zero, List.set_cons_succ]); (refine wpAnyH_take (i := 17) (v := ?_) (arr_get (g_s (g_s (g_s (g_s (g_s (g_s (g_s (g_s (g_s (g_s (g_s (g_s (g_s (g_s (g_s (g_s (g_s g_z)))))))))))))))))) (by kernel_rfl) (by kernel_rfl) (by kernel_rfl) (fun _ _ _ h => h) (Or.inl ⟨by rfl, ?_⟩) hHeld ?_; rotate_left; (focus (intro w hSw; (try dsimp only at hSw); go_simp; try (first | (with_reducible rfl) | (rw [if_neg (by (try simp only [ByteArray.size_append]); omega)])))); try simp only [Act.put, List.setIfInBounds_toArray, List.set_cons_zero, List.set_cons_succ]); (refine wpAnyH_done (by kernel_rfl) ?_ _))
          have HB2 := Lib.hid (bel_then (bel_dr HBW.out) hb1)
          have HOK := Lib.hid (okAp_first HX.out hg)
          clear hb1 hbw hg
          go_wp2
          exact ⟨⟨1, by omega, by go_num, Lib.hid (all_rng_succ HA.out HOK.out), HB2⟩, by simp [intOf]; omega⟩
        · have hlt' : kp < l.length := by omega
          obtain ⟨nm', kd', nd', cr', sv', hx', d0, d1, d2, d3, d4⟩ := ap_at' hcell hbw hbl hlt'
          have HOK := Lib.hid (okAp_next HX.out hx' hg)
          clear hx'
          have y0 : (0 : Int) ≤ (kp : Int) := Int.natCast_nonneg _
          have y1 : (kp : Int) < (l.length : Int) := by omega
          have y2 : (0 : Int) < (kp : Int) + 1 := by omega
          have s3 : IntKind.i64.wrap (kp : Int) = (kp : Int) := by rw [IntKind.wrap_i64]; omega
          ((refine wp_region_held_drew (S := fun w' => w'.cell? ⟨wr.heap.size, 0, none⟩ = some (.string nm) ∧ w'.cell? ⟨wr.heap.size, 1, none⟩ = some (.int .i64 kd) ∧ w'.cell? ⟨wr.heap.size, 2, none⟩ = some (.int .i64 nd) ∧ w'.cell? ⟨wr.heap.size, 3, none⟩ = some (.int .i64 cr) ∧ w'.cell? ⟨wr.heap.size, 4, none⟩ = some (.int .i64 sv) ∧ w'.cell? ⟨b, off + kp * 5, none⟩ = some (.string nm')) (by kernel_rfl) (by (try dsimp only); first | go_keep | (go_split_ands; refine ⟨?_, ?_, ?_, ?_, ?_, ?_⟩ <;> assumption)) (fun hHeld => ?_)); (refine wpAnyH_take (i := 0) (v := ?_) (arr_get g_z) (by kernel_rfl) (by kernel_rfl) (by kernel_rfl) (fun _ _ _ h => h) (Or.inl ⟨by rfl, ?_⟩) hHeld ?_; rotate_left; (focus (intro w hSw; (try dsimp only at hSw); go_simp; try (first | (with_reducible rfl) | (rw [if_neg (by (try simp only [ByteArray.size_append]); omega)])))); try simp only [Act.put, List.setIfInBounds_toArray, List.set_cons_zero, List.set_cons_succ]); (refine wpAnyH_ready (rs := [1]) (by kernel_rfl) (by simp) ?_); (refine AllReadyH.cons (i := 1) (arr_get (g_s g_z)) (fun K hK => ?_) AllReadyH.nil); (go_simp); ((go_at_call 70; refine (apGood_c nm kd nd cr sv _ hzk).mono ?_; rw [hg]; rintro e w' ⟨rfl, hb1⟩)); (try (go_wp2_with fail)); (refine hK.out _ _ (by (try dsimp only); (go_split_ands; refine ⟨?_, ?_, ?_, ?_, ?_, ?_⟩ <;> (rw [hb1.cell (by first | assumption | (simp; omega))]; assumption))) (fun hHeld2 => ?_)); (clear hHeld hK); (clear K); (have hHeld := hHeld2); (clear hHeld2); (try simp only [Act.put, List.setIfInBounds_toArray, List.set_cons_zero, List.set_cons_succ]); (refine wpAnyH_take (i := 2) (v := ?_) (arr_get (g_s (g_s g_z))) (by kernel_rfl) (by kernel_rfl) (by kernel_rfl) (fun _ _ _ h => h) (Or.inl ⟨by rfl, ?_⟩) hHeld ?_; rotate_left; (focus (intro w hSw; (try dsimp only at hSw); go_simp; try (first | (with_reducible rfl) | (rw [if_neg (by (try simp only [ByteArray.size_append]); omega)])))); try simp only [Act.put, List.setIfInBounds_toArray, List.set_cons_zero, List.set_cons_succ]); (refine wpAnyH_take (i := 3) (v := ?_) (arr_get (g_s (g_s (g_s g_z)))) (by kernel_rfl) (by kernel_rfl) (by kernel_rfl) (fun _ _ _ h => h) (Or.inl ⟨by rfl, ?_⟩) hHeld ?_; rotate_left; (focus (intro w hSw; (try dsimp only at hSw); go_simp; try (first | (with_reducible rfl) | (rw [if_neg (by (try simp only [ByteArray.size_append]); omega)])))); try simp only [Act.put, List.setIfInBounds_toArray, List.set_cons_zero, List.set_cons_succ]); (refine wpAnyH_take (i := 4) (v := ?_) (arr_get (g_s (g_s (g_s (g_s g_z))))) (by kernel_rfl) (by kernel_rfl) (by kernel_rfl) (fun _ _ _ h => h) (Or.inl ⟨by rfl, ?_⟩) hHeld ?_; rotate_left; (focus (intro w hSw; (try dsimp only at hSw); go_simp; try (first | (with_reducible rfl) | (rw [if_neg (by (try simp only [ByteArray.size_append]); omega)])))); try simp only [Act.put, List.setIfInBounds_toArray, List.set_cons_zero, List.set_cons_succ]); (refine wpAnyH_take (i := 5) (v := ?_) (arr_get (g_s (g_s (g_s (g_s (g_s g_z)))))) (by kernel_rfl) (by kernel_rfl) (by kernel_rfl) (fun _ _ _ h => h) (Or.inl ⟨by rfl, ?_⟩) hHeld ?_; rotate_left; (focus (intro w hSw; (try dsimp only at hSw); go_simp; try (first | (with_reducible rfl) | (rw [if_neg (by (try simp only [ByteArray.size_append]); omega)])))); try simp only [Act.put, List.setIfInBounds_toArray, List.set_cons_zero, List.set_cons_succ]); (refine wpAnyH_take (i := 6) (v := ?_) (arr_get (g_s (g_s (g_s (g_s (g_s (g_s g_z))))))) (by kernel_rfl) (by kernel_rfl) (by kernel_rfl) (fun _ _ _ h => h) (Or.inl ⟨by rfl, ?_⟩) hHeld ?_; rotate_left; (focus (intro w hSw; (try dsimp only at hSw); go_simp; try (first | (with_reducible rfl) | (rw [if_neg (by (try simp only [ByteArray.size_append]); omega)])))); try simp only [Act.put, List.setIfInBounds_toArray, List.set_cons_zero, List.set_cons_succ]); (refine wpAnyH_take (i := 7) (v := ?_) (arr_get (g_s (g_s (g_s (g_s (g_s (g_s (g_s g_z)))))))) (by kernel_rfl) (by kernel_rfl) (by kernel_rfl) (fun _ _ _ h => h) (Or.inl ⟨by rfl, ?_⟩) hHeld ?_; rotate_left; (focus (intro w hSw; (try dsimp only at hSw); go_simp; try (first | (with_reducible rfl) | (rw [if_neg (by (try simp only [ByteArray.size_append]); omega)])))); try simp only [Act.put, List.setIfInBounds_toArray, List.set_cons_zero, List.set_cons_succ]); (refine wpAnyH_take (i := 8) (v := ?_) (arr_get (g_s (g_s (g_s (g_s (g_s (g_s (g_s (g_s g_z))))))))) (by kernel_rfl) (by kernel_rfl) (by kernel_rfl) (fun _ _ _ h => h) (Or.inl ⟨by rfl, ?_⟩) hHeld ?_; rotate_left; (focus (intro w hSw; (try dsimp only at hSw); go_simp; try (first | (with_reducible rfl) | (rw [if_neg (by (try simp only [ByteArray.size_append]); omega)])))); try simp only [Act.put, List.setIfInBounds_toArray, List.set_cons_zero, List.set_cons_succ]); (refine wpAnyH_take (i := 9) (v := ?_) (arr_get (g_s (g_s (g_s (g_s (g_s (g_s (g_s (g_s (g_s g_z)))))))))) (by kernel_rfl) (by kernel_rfl) (by kernel_rfl) (fun _ _ _ h => h) (Or.inl ⟨by rfl, ?_⟩) hHeld ?_; rotate_left; (focus (intro w hSw; (try dsimp only at hSw); go_simp; try (first | (with_reducible rfl) | (rw [if_neg (by (try simp only [ByteArray.size_append]); omega)])))); try simp only [Act.put, List.setIfInBounds_toArray, List.set_cons_zero, List.set_cons_succ]); (refine wpAnyH_take (i := 10) (v := ?_) (arr_get (g_s (g_s (g_s (g_s (g_s (g_s (g_s (g_s (g_s (g_s g_z))))))))))) (by kernel_rfl) (by kernel_rfl) (by kernel_rfl) (fun _ _ _ h => h) (Or.inl ⟨by rfl, ?_⟩) hHeld ?_; rotate_left; (focus (intro w hSw; (try dsimp only at hSw); go_simp; try (first | (with_reducible rfl) | (rw [if_neg (by (try simp only [ByteArray.size_append]); omega)])))); try simp only [Act.put, List.setIfInBounds_toArray, List.set_cons_zero, List.set_cons_succ]); (refine wpAnyH_take (i := 11) (v := ?_) (arr_get (g_s (g_s (g_s (g_s (g_s (g_s (g_s (g_s (g_s (g_s (g_s g_z)))))))))))) (by kernel_rfl) (by kernel_rfl) (by kernel_rfl) (fun _ _ _ h => h) (Or.inl ⟨by rfl, ?_⟩) hHeld ?_; rotate_left; (focus (intro w hSw; (try dsimp only at hSw); go_simp; try (first | (with_reducible rfl) | (rw [if_neg (by (try simp only [ByteArray.size_append]); omega)])))); try simp only [Act.put, List.setIfInBounds_toArray, List.set_cons_zero, List.set_cons_succ]); (refine wpAnyH_take (i := 12) (v := ?_) (arr_get (g_s (g_s (g_s (g_s (g_s (g_s (g_s (g_s (g_s (g_s (g_s (g_s g_z))))))))))))) (by kernel_rfl) (by kernel_rfl) (by kernel_rfl) (fun _ _ _ h => h) (Or.inl ⟨by rfl, ?_⟩) hHeld ?_; rotate_left; (focus (intro w hSw; (try dsimp only at hSw); go_simp; try (first | (with_reducible rfl) | (rw [if_neg (by (try simp only [ByteArray.size_append]); omega)])))); try simp only [Act.put, List.setIfInBounds_toArray, List.set_cons_zero, List.set_cons_succ]); (refine wpAnyH_take (i := 13) (v := ?_) (arr_get (g_s (g_s (g_s (g_s (g_s (g_s (g_s (g_s (g_s (g_s (g_s (g_s (g_s g_z)))))))))))))) (by kernel_rfl) (by kernel_rfl) (by kernel_rfl) (fun _ _ _ h => h) (Or.inl ⟨by rfl, ?_⟩) hHeld ?_; rotate_left; (focus (intro w hSw; (try dsimp only at hSw); go_simp; try (first | (with_reducible rfl) | (rw [if_neg (by (try simp only [ByteArray.size_append]); omega)])))); try simp only [Act.put, List.setIfInBounds_toArray, List.set_cons_zero, List.set_cons_succ]); (refine wpAnyH_take (i := 14) (v := ?_) (arr_get (g_s (g_s (g_s (g_s (g_s (g_s (g_s (g_s (g_s (g_s (g_s (g_s (g_s (g_s g_z))))))))))))))) (by kernel_rfl) (by kernel_rfl) (by kernel_rfl) (fun _ _ _ h => h) (Or.inl ⟨by rfl, ?_⟩) hHeld ?_; rotate_left; (focus (intro w hSw; (try dsimp only at hSw); go_simp; try (first | (with_reducible rfl) | (rw [if_neg (by (try simp only [ByteArray.size_append]); omega)])))); try simp only [Act.put, List.setIfInBounds_toArray, List.set_cons_zero, List.set_cons_succ]); (refine wpAnyH_take (i := 15) (v := ?_) (arr_get (g_s (g_s (g_s (g_s (g_s (g_s (g_s (g_s (g_s (g_s (g_s (g_s (g_s (g_s (g_s g_z)))))))))))))))) (by kernel_rfl) (by kernel_rfl) (by kernel_rfl) (fun _ _ _ h => h) (Or.inl ⟨by rfl, ?_⟩) hHeld ?_; rotate_left; (focus (intro w hSw; (try dsimp only at hSw); go_simp; try (first | (with_reducible rfl) | (rw [if_neg (by (try simp only [ByteArray.size_append]); omega)])))); try simp only [Act.put, List.setIfInBounds_toArray, List.set_cons_zero, List.set_cons_succ]); (refine wpAnyH_take (i := 16) (v := ?_) (arr_get (g_s (g_s (g_s (g_s (g_s (g_s (g_s (g_s (g_s (g_s (g_s (g_s (g_s (g_s (g_s (g_s g_z))))))))))))))))) (by kernel_rfl) (by kernel_rfl) (by kernel_rfl) (fun _ _ _ h => h) (Or.inl ⟨by rfl, ?_⟩) hHeld ?_; rotate_left; (focus (intro w hSw; (try dsimp only at hSw); go_simp; try (first | (with_reducible rfl) | (rw [if_neg (by (try simp only [ByteArray.size_append]); omega)])))); try simp only [Act.put, List.setIfInBounds_toArray, List.set_cons_zero, List.set_cons_succ]); (refine wpAnyH_take (i := 17) (v := ?_) (arr_get (g_s (g_s (g_s (g_s (g_s (g_s (g_s (g_s (g_s (g_s (g_s (g_s (g_s (g_s (g_s (g_s (g_s g_z)))))))))))))))))) (by kernel_rfl) (by kernel_rfl) (by kernel_rfl) (fun _ _ _ h => h) (Or.inl ⟨by rfl, ?_⟩) hHeld ?_; rotate_left; (focus (intro w hSw; (try dsimp only at hSw); go_simp; try (first | (with_reducible rfl) | (rw [if_neg (by (try simp only [ByteArray.size_append]); omega)])))); try simp only [Act.put, List.setIfInBounds_toArray, List.set_cons_zero, List.set_cons_succ]); (refine wpAnyH_done (by kernel_rfl) ?_ _))
          have HB2 := Lib.hid (bel_then (bel_dr HBW.out) hb1)
          clear s3 hb1 hbw hg
          go_wp2
          · go_ret
            have h : geS nm' nm = true := by unfold geS; simp_all
            refine ⟨?_, HB2.out⟩
            rw [fleet_no hlt (by rw [HOK.out, h]; rfl)]; rfl
          · have h : geS nm' nm = false := by unfold geS; simp_all
            exact ⟨⟨kp + 1 + 1, by omega, by go_num, Lib.hid (all_rng_succ HA.out (by rw [HOK.out, h]; rfl)), HB2⟩, by simp [intOf]; omega⟩
      · have hg : goodAp ⟨nm, kd, nd, cr, sv⟩ = false := by simpa using hg
        ((refine wp_region_held_drew (S := fun w' => w'.cell? ⟨wr.heap.size, 0, none⟩ = some (.string nm) ∧ w'.cell? ⟨wr.heap.size, 1, none⟩ = some (.int .i64 kd) ∧ w'.cell? ⟨wr.heap.size, 2, none⟩ = some (.int .i64 nd) ∧ w'.cell? ⟨wr.heap.size, 3, none⟩ = some (.int .i64 cr) ∧ w'.cell? ⟨wr.heap.size, 4, none⟩ = some (.int .i64 sv)) (by kernel_rfl) (by (try dsimp only); first | go_keep | (go_split_ands; refine ⟨?_, ?_, ?_, ?_, ?_⟩ <;> assumption)) (fun hHeld => ?_)); (refine wpAnyH_take (i := 0) (v := ?_) (arr_get g_z) (by kernel_rfl) (by kernel_rfl) (by kernel_rfl) (fun _ _ _ h => h) (Or.inl ⟨by rfl, ?_⟩) hHeld ?_; rotate_left; (focus (intro w hSw; (try dsimp only at hSw); go_simp; try (first | (with_reducible rfl) | (rw [if_neg (by (try simp only [ByteArray.size_append]); omega)])))); try simp only [Act.put, List.setIfInBounds_toArray, List.set_cons_zero, List.set_cons_succ]); (refine wpAnyH_ready (rs := [1]) (by kernel_rfl) (by simp) ?_); (refine AllReadyH.cons (i := 1) (arr_get (g_s g_z)) (fun K hK => ?_) AllReadyH.nil); (go_simp); ((go_at_call 70; refine (apGood_c nm kd nd cr sv _ hzk).mono ?_; rw [hg]; rintro e w' ⟨rfl, hb1⟩)); (try (go_wp2_with fail)); (refine hK.out _ _ (by (try dsimp only); (go_split_ands; refine ⟨?_, ?_, ?_, ?_, ?_⟩ <;> (rw [hb1.cell (by first | assumption | (simp; omega))]; assumption))) (fun hHeld2 => ?_)); (clear hHeld hK); (clear K); (have hHeld := hHeld2); (clear hHeld2); (try simp only [Act.put, List.setIfInBounds_toArray, List.set_cons_zero, List.set_cons_succ]); (refine wpAnyH_take (i := 2) (v := ?_) (arr_get (g_s (g_s g_z))) (by kernel_rfl) (by kernel_rfl) (by kernel_rfl) (fun _ _ _ h => h) (Or.inl ⟨by rfl, ?_⟩) hHeld ?_; rotate_left; (focus (intro w hSw; (try dsimp only at hSw); go_simp; try (first | (with_reducible rfl) | (rw [if_neg (by (try simp only [ByteArray.size_append]); omega)])))); try simp only [Act.put, List.setIfInBounds_toArray, List.set_cons_zero, List.set_cons_succ]); (refine wpAnyH_take (i := 3) (v := ?_) (arr_get (g_s (g_s (g_s g_z)))) (by kernel_rfl) (by kernel_rfl) (by kernel_rfl) (fun _ _ _ h => h) (Or.inl ⟨by rfl, ?_⟩) hHeld ?_; rotate_left; (focus (intro w hSw; (try dsimp only at hSw); go_simp; try (first | (with_reducible rfl) | (rw [if_neg (by (try simp only [ByteArray.size_append]); omega)])))); try simp only [Act.put, List.setIfInBounds_toArray, List.set_cons_zero, List.set_cons_succ]); (refine wpAnyH_take (i := 4) (v := _) (arr_get (g_s (g_s (g_s (g_s g_z))))) (by kernel_rfl) (by kernel_rfl) (by kernel_rfl) (fun _ _ _ h => h) (Or.inr ⟨by rfl, rfl⟩) hHeld ?_; try simp only [Act.put, List.setIfInBounds_toArray, List.set_cons_zero, List.set_cons_succ]); (refine wpAnyH_take (i := 5) (v := _) (arr_get (g_s (g_s (g_s (g_s (g_s g_z)))))) (by kernel_rfl) (by kernel_rfl) (by kernel_rfl) (fun _ _ _ h => h) (Or.inr ⟨by rfl, rfl⟩) hHeld ?_; try simp only [Act.put, List.setIfInBounds_toArray, List.set_cons_zero, List.set_cons_succ]); (refine wpAnyH_take (i := 6) (v := _) (arr_get (g_s (g_s (g_s (g_s (g_s (g_s g_z))))))) (by kernel_rfl) (by kernel_rfl) (by kernel_rfl) (fun _ _ _ h => h) (Or.inr ⟨by rfl, rfl⟩) hHeld ?_; try simp only [Act.put, List.setIfInBounds_toArray, List.set_cons_zero, List.set_cons_succ]); (refine wpAnyH_take (i := 7) (v := _) (arr_get (g_s (g_s (g_s (g_s (g_s (g_s (g_s g_z)))))))) (by kernel_rfl) (by kernel_rfl) (by kernel_rfl) (fun _ _ _ h => h) (Or.inr ⟨by rfl, rfl⟩) hHeld ?_; try simp only [Act.put, List.setIfInBounds_toArray, List.set_cons_zero, List.set_cons_succ]); (refine wpAnyH_take (i := 8) (v := _) (arr_get (g_s (g_s (g_s (g_s (g_s (g_s (g_s (g_s g_z))))))))) (by kernel_rfl) (by kernel_rfl) (by kernel_rfl) (fun _ _ _ h => h) (Or.inr ⟨by rfl, rfl⟩) hHeld ?_; try simp only [Act.put, List.setIfInBounds_toArray, List.set_cons_zero, List.set_cons_succ]); (refine wpAnyH_take (i := 9) (v := _) (arr_get (g_s (g_s (g_s (g_s (g_s (g_s (g_s (g_s (g_s g_z)))))))))) (by kernel_rfl) (by kernel_rfl) (by kernel_rfl) (fun _ _ _ h => h) (Or.inr ⟨by rfl, rfl⟩) hHeld ?_; try simp only [Act.put, List.setIfInBounds_toArray, List.set_cons_zero, List.set_cons_succ]); (refine wpAnyH_take (i := 10) (v := _) (arr_get (g_s (g_s (g_s (g_s (g_s (g_s (g_s (g_s (g_s (g_s g_z))))))))))) (by kernel_rfl) (by kernel_rfl) (by kernel_rfl) (fun _ _ _ h => h) (Or.inr ⟨by rfl, rfl⟩) hHeld ?_; try simp only [Act.put, List.setIfInBounds_toArray, List.set_cons_zero, List.set_cons_succ]); (refine wpAnyH_take (i := 11) (v := _) (arr_get (g_s (g_s (g_s (g_s (g_s (g_s (g_s (g_s (g_s (g_s (g_s g_z)))))))))))) (by kernel_rfl) (by kernel_rfl) (by kernel_rfl) (fun _ _ _ h => h) (Or.inr ⟨by rfl, rfl⟩) hHeld ?_; try simp only [Act.put, List.setIfInBounds_toArray, List.set_cons_zero, List.set_cons_succ]); (refine wpAnyH_take (i := 12) (v := _) (arr_get (g_s (g_s (g_s (g_s (g_s (g_s (g_s (g_s (g_s (g_s (g_s (g_s g_z))))))))))))) (by kernel_rfl) (by kernel_rfl) (by kernel_rfl) (fun _ _ _ h => h) (Or.inr ⟨by rfl, rfl⟩) hHeld ?_; try simp only [Act.put, List.setIfInBounds_toArray, List.set_cons_zero, List.set_cons_succ]); (refine wpAnyH_take (i := 13) (v := _) (arr_get (g_s (g_s (g_s (g_s (g_s (g_s (g_s (g_s (g_s (g_s (g_s (g_s (g_s g_z)))))))))))))) (by kernel_rfl) (by kernel_rfl) (by kernel_rfl) (fun _ _ _ h => h) (Or.inr ⟨by rfl, rfl⟩) hHeld ?_; try simp only [Act.put, List.setIfInBounds_toArray, List.set_cons_zero, List.set_cons_succ]); (refine wpAnyH_take (i := 14) (v := _) (arr_get (g_s (g_s (g_s (g_s (g_s (g_s (g_s (g_s (g_s (g_s (g_s (g_s (g_s (g_s g_z))))))))))))))) (by kernel_rfl) (by kernel_rfl) (by kernel_rfl) (fun _ _ _ h => h) (Or.inr ⟨by rfl, rfl⟩) hHeld ?_; try simp only [Act.put, List.setIfInBounds_toArray, List.set_cons_zero, List.set_cons_succ]); (refine wpAnyH_take (i := 15) (v := _) (arr_get (g_s (g_s (g_s (g_s (g_s (g_s (g_s (g_s (g_s (g_s (g_s (g_s (g_s (g_s (g_s g_z)))))))))))))))) (by kernel_rfl) (by kernel_rfl) (by kernel_rfl) (fun _ _ _ h => h) (Or.inr ⟨by rfl, rfl⟩) hHeld ?_; try simp only [Act.put, List.setIfInBounds_toArray, List.set_cons_zero, List.set_cons_succ]); (refine wpAnyH_take (i := 16) (v := _) (arr_get (g_s (g_s (g_s (g_s (g_s (g_s (g_s (g_s (g_s (g_s (g_s (g_s (g_s (g_s (g_s (g_s g_z))))))))))))))))) (by kernel_rfl) (by kernel_rfl) (by kernel_rfl) (fun _ _ _ h => h) (Or.inr ⟨by rfl, rfl⟩) hHeld ?_; try simp only [Act.put, List.setIfInBounds_toArray, List.set_cons_zero, List.set_cons_succ]); (refine wpAnyH_take (i := 17) (v := ?_) (arr_get (g_s (g_s (g_s (g_s (g_s (g_s (g_s (g_s (g_s (g_s (g_s (g_s (g_s (g_s (g_s (g_s (g_s g_z)))))))))))))))))) (by kernel_rfl) (by kernel_rfl) (by kernel_rfl) (fun _ _ _ h => h) (Or.inl ⟨by rfl, ?_⟩) hHeld ?_; rotate_left; (focus (intro w hSw; (try dsimp only at hSw); go_simp; try (first | (with_reducible rfl) | (rw [if_neg (by (try simp only [ByteArray.size_append]); omega)])))); try simp only [Act.put, List.setIfInBounds_toArray, List.set_cons_zero, List.set_cons_succ]); (refine wpAnyH_done (by kernel_rfl) ?_ _))
        have HB2 := Lib.hid (bel_then (bel_dr HBW.out) hb1)
        have HOK := Lib.hid (fleet_no hlt (okAp_bad HX.out hg))
        clear hb1 hbw hg
        go_wp2
        go_ret
        rw [HOK.out]
        exact ⟨rfl, HB2.out⟩
    · obtain rfl : k = l.length := by omega
      have HE := Lib.hid (fleet_end HA.out)
      go_wp2
      go_ret
      rw [HE.out]
      exact ⟨congrArg (fun b => Ending.returned (.bool b)) (by rw [decide_eq_decide]; omega), HB.out⟩
end Go.Proofs.YtddccjdppbcnbaaGreat

namespace Go.Proofs.YtddccjdppbcnbaaGreat
set_option linter.unusedVariables false
set_option linter.unusedSimpArgs false
open Go.RowKit

def strs (l : List ByteArray) : List Value := l.map Value.string
theorem strs_len (l : List ByteArray) : (strs l).length = l.length := by simp [strs]
theorem strs_get {l : List ByteArray} {k : Nat} {x : ByteArray} (h : l[k]? = some x) : (strs l)[k]? = some (.string x) := by simp [strs, h]
def RdS (w : World) (v : Value) (l : List ByteArray) : Prop := Rd w v l.length (strs l)
def OwnSt (l : List ByteArray) (w : World) (e : Ending) (w' : World) : Prop := ∃ v, e = .returned v ∧ w'.ownsRow w.heap.size 9 1 v l.length (strs l) ∧ Below w.heap.size w w'
theorem Tryz.infoStr : (Tryz.prog.info? 9).map (fun i => (i.zero, i.size, i.bytes)) = some (some (.string ⟨#[]⟩), 1, 16) := by kernel_rfl
def sone (x : ByteArray) : List Value := [.string x]
theorem sone_len (x : ByteArray) : (sone x).length = 1 := rfl
theorem flat_sone (l : List ByteArray) : l.flatMap sone = strs l := by
  induction l with
  | nil => rfl
  | cons x l ih => rw [List.flatMap_cons, ih]; rfl
def szone : List Value := [.string ⟨#[]⟩]
set_option maxRecDepth 100000 in
set_option maxHeartbeats 1000000 in
theorem eqStringS_c (v v' : Value) (l l' : List ByteArray) (w : World) (hr : RdS w v l) (hr' : RdS w v' l') :
    Calls Tryz.prog 12 #[v, v'] w fun en w' => en = .returned (.bool (decide (l = l'))) ∧ Below w.heap.size w w' := by
  obtain ⟨A, c, rfl, hc, hm, hr⟩ := hr
  obtain ⟨A', c', rfl, hc', hm', hr'⟩ := hr'
  rw [maxLen_eq] at hm hm'
  by_cases hlen : l.length = l'.length
  · have hlb : ((l.length : Int) != l'.length) = false := by rw [hlen]; simp
    have HL := Lib.hid hlen
    clear hlen
    go_enter Tryz.func12, Tryz.ntmps12
    go_wp2
    go_loopw [5] (fun i wr => ∃ k : Nat, k ≤ l.length ∧ i = .int .i64 k ∧ Hid (l.take k = l'.take k) ∧ Hid (Below w.heap.size w wr)) (fun i _ => l.length - (intOf i).toNat)
    case atStart => exact ⟨0, Nat.zero_le _, rfl, Lib.hid rfl, Lib.hid (Below.refl _ _)⟩
    case round =>
      obtain ⟨k, hk, rfl, HP, HB⟩ := hrel
      by_cases hlt : k < l.length
      · have hlt' : k < l'.length := by have := HL.out; omega
        obtain ⟨b, off, rfl, hbl, hcell⟩ := hr (by omega)
        obtain ⟨b', off', rfl, hbl', hcell'⟩ := hr' (by omega)
        obtain ⟨t, hx⟩ : ∃ t, l[k]? = some t := ⟨_, List.getElem?_eq_getElem hlt⟩
        obtain ⟨t', hx'⟩ : ∃ t', l'[k]? = some t' := ⟨_, List.getElem?_eq_getElem hlt'⟩
        have c0 := cell_at hcell HB.out hbl (strs_get hx)
        have d0 := cell_at hcell' HB.out hbl' (strs_get hx')
        have i0 : (0 : Int) ≤ (k : Int) := Int.natCast_nonneg _
        have i1 : (k : Int) < (l.length : Int) := by omega
        have i2 : (k : Int) < (l'.length : Int) := by omega
        have HX := Lib.hid hx
        have HX' := Lib.hid hx'
        clear hx hx'
        by_cases ht : t = t'
        · have HTT := Lib.hid ht
          subst ht
          go_wp2_with fail
          go_quiet (fail)
          go_wp2
          refine ⟨⟨k + 1, by omega, by go_num, Lib.hid ?_, Lib.hid (below_drewN HB.out _)⟩, by simp [intOf]; omega⟩
          rw [take_succ_of HX.out, take_succ_of HX'.out, HP.out]
        · have hbl2 : (t.toList == t'.toList) = false := beq_false_of_ne (fun h => ht ((bl_iff _ _).1 h))
          have HNE : Hid (l ≠ l') := Lib.hid (fun e => by
            have h1 := HX.out
            have h2 := HX'.out
            rw [e, h2] at h1
            exact ht (Option.some.inj h1).symm)
          go_wp2_with fail
          go_quiet (fail)
          go_wp2
          go_ret
          rw [decide_eq_false HNE.out]
          exact ⟨rfl, below_drewN HB.out _⟩
      · go_wp2
        go_ret
        refine ⟨?_, HB.out⟩
        have e := HP.out
        rw [List.take_of_length_le (by omega), List.take_of_length_le (by have := HL.out; omega)] at e
        rw [decide_eq_true e]; rfl
  · have hlb : ((l.length : Int) != l'.length) = true := by simp; omega
    have HNE : Hid (l ≠ l') := Lib.hid (fun e => hlen (by rw [e]))
    clear hlen
    go_enter Tryz.func12, Tryz.ntmps12
    go_wp2
    go_ret
    rw [decide_eq_false HNE.out]
    exact ⟨rfl, Below.refl _ _⟩
end Go.Proofs.YtddccjdppbcnbaaGreat

namespace Go.Proofs.YtddccjdppbcnbaaGreat
set_option linter.unusedVariables false
set_option linter.unusedSimpArgs false
open Go.RowKit

def okNm (q : List ByteArray) (i : Nat) : Bool := match q[i]? with
  | none => true
  | some a => decide (i = 0) || match q[i - 1]? with | none => true | some p => !geS p a
def namesB (q : List ByteArray) : Bool := (List.range q.length).all (okNm q)
theorem okNm_first {q : List ByteArray} {a : ByteArray} (h : q[0]? = some a) : okNm q 0 = true := by unfold okNm; rw [h]; simp
theorem okNm_next {q : List ByteArray} {k : Nat} {a p : ByteArray} (h : q[k + 1]? = some a) (hp : q[k]? = some p) : okNm q (k + 1) = !geS p a := by
  unfold okNm; rw [h]; simp [hp]
theorem names_no {q : List ByteArray} {k : Nat} (hk : k < q.length) (h : okNm q k = false) : namesB q = false := List.all_eq_false.2 ⟨k, List.mem_range.2 hk, by rw [h]; simp⟩
end Go.Proofs.YtddccjdppbcnbaaGreat
