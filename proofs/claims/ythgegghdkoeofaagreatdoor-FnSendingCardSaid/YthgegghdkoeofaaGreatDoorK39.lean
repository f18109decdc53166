/-
  ChoiceText: both sides (printed by gen_chtext.py). (joined by pack.py: ChText)
-/
import Derived.Test.YthgegghdkoeofaaGreatDoorK38
import Derived.Test.YthgegghdkoeofaaGreatDoorK6
import Derived.Test.YthgegghdkoeofaaGreatDoorK3
namespace Go.Proofs.YthgegghdkoeofaaGreatDoor
set_option linter.unusedVariables false
set_option linter.unusedSimpArgs false
open Go.RowKit

def okCh (c : Ch) : Bool := nameB c.cn && inB c.cs 0 36000
def chOne (c : Ch) : ByteArray := c.cn ++ ⟨#[64]⟩ ++ numT c.cs.toNat ++ ⟨#[59]⟩
def chTextT (l : List Ch) (k : Nat) : ByteArray := (l.take k).foldl (fun s c => s ++ chOne c) ⟨#[]⟩
theorem chTextT_succ {l : List Ch} {k : Nat} {c : Ch} (h : l[k]? = some c) : chTextT l (k + 1) = chTextT l k ++ chOne c := by
  unfold chTextT
  rw [take_succ_of h, List.foldl_append]; rfl
def choiceTextV (l : List Ch) : ByteArray × Bool := if decide (l.length ≤ 12) && l.all okCh then (chTextT l l.length, true) else (⟨#[]⟩, false)
theorem chText_no1 {l : List Ch} (h : ¬ l.length ≤ 12) : choiceTextV l = (⟨#[]⟩, false) := by
  unfold choiceTextV; rw [decide_eq_false h]; rfl
theorem chText_no2 {l : List Ch} {k : Nat} {c : Ch} (h : l[k]? = some c) (hc : okCh c = false) : choiceTextV l = (⟨#[]⟩, false) := by
  unfold choiceTextV
  rw [List.all_eq_false.2 ⟨c, List.mem_of_getElem? h, by rw [hc]; simp⟩]; simp
theorem chText_yes {l : List Ch} (h : l.length ≤ 12) (hc : (l.take l.length).all okCh = true) : choiceTextV l = (chTextT l l.length, true) := by
  rw [List.take_length] at hc
  unfold choiceTextV
  rw [decide_eq_true h, hc]; rfl
theorem okCh_all {l : List Ch} {k : Nat} {c : Ch} (h : l[k]? = some c) (hc : okCh c = true) (ha : (l.take k).all okCh = true) : (l.take (k + 1)).all okCh = true := by
  rw [take_succ_of h, List.all_append, ha]; simp [hc]
/-- What ChoiceText hands back. -/
def ChTextIs (r : ByteArray × Bool) (w : World) (e : Ending) (w' : World) : Prop := e = .returned (.tuple #[.string r.1, .bool r.2]) ∧ Below w.heap.size w w'
set_option maxHeartbeats 400000 in
theorem dsLimitT_c (n : Int) (w : World) : Calls Tryz.prog 105 #[.int .i64 n] w fun e w' => e = .returned (.bool (inB n 0 36000)) ∧ w = w' := by
  go_enter Tryz.func105, Tryz.ntmps105
  go_wp2_with (go_at_call 66; refine (l1In_c _ _ _ _).mono ?_; rintro e w' ⟨rfl, rfl⟩)
  go_ret
  exact ⟨rfl, rfl⟩

set_option maxRecDepth 100000 in
set_option maxHeartbeats 2000000 in
theorem choiceTextS_c (v : Value) (l : List Ch) (w : World) (hz : ∀ x ∈ l, x.cn.size ≤ 9223372036854775807) (hr : Rd w v l.length (l.flatMap Ch.cells)) :
    Calls Tryz.prog 48 #[v] w (ChTextIs (choiceTextV l) w) := by
  obtain ⟨A, c, rfl, hc, hm, hr⟩ := hr
  rw [maxLen_eq] at hm
  have HZ := Lib.hid hz
  have HR := Lib.hid hr
  clear hz hr
  have q64 : (⟨#[64]⟩ : ByteArray).size = 1 := rfl
  have q59 : (⟨#[59]⟩ : ByteArray).size = 1 := rfl
  by_cases h12 : l.length ≤ 12
  · have i12 : (l.length : Int) ≤ 12 := by omega
    go_enter Tryz.func48, Tryz.ntmps48
    go_wp2_with fail
    go_loopw [4, 12] (fun vo vi wr => ∃ (k : Nat) (S : ByteArray), k ≤ l.length ∧ S.size ≤ 40 * k ∧ vi = .int .i64 k ∧ vo = .string S ∧ Hid (chTextT l k = S) ∧ Hid ((l.take k).all okCh = true) ∧ Hid (Below w.heap.size w wr)) (fun _ vi _ => l.length - (intOf vi).toNat)
    case atStart => exact ⟨0, ⟨#[]⟩, Nat.zero_le _, Nat.le_refl _, rfl, rfl, Lib.hid rfl, Lib.hid rfl, Lib.hid (Below.refl _ _)⟩
    case round =>
      obtain ⟨k, S, hk, hS, rfl, rfl, HS, HA, HB⟩ := hrel
      by_cases hlt : k < l.length
      · obtain ⟨b, off, rfl, hbl, hcell⟩ := HR.out (by omega)
        obtain ⟨cn, cs, hx, c0, c1⟩ := ch_at' hcell HB.out hbl hlt
        have HX := Lib.hid hx
        have hzk := HZ.out _ (List.mem_of_getElem? hx)
        dsimp only at hzk
        clear hx hcell
        go_wp2_with fail
        (generalize hw1 : World.alloc wr _ = w1; have k0 : w1.cell? ⟨wr.heap.size, 0, none⟩ = some (.string cn) := (by subst hw1; simp [go_sem]); have k1 : w1.cell? ⟨wr.heap.size, 1, none⟩ = some (.int .i64 cs) := (by subst hw1; simp [go_sem]); have hb0 : Below wr.heap.size wr w1 := (by subst hw1; exact bel_al (Below.refl _ _) _); have hsz1 : wr.heap.size < w1.heap.size := (by subst hw1; simp); clear hw1)
        have HBW := Lib.hid (bel_then HB.out hb0)
        refine (apName_c cn _ hzk).mono ?_; rintro e w2 ⟨rfl, hb1⟩
        have e0 := (hb1.cell (p := ⟨wr.heap.size, 0, none⟩) (by show wr.heap.size < _; omega)).trans k0
        have e1 := (hb1.cell (p := ⟨wr.heap.size, 1, none⟩) (by show wr.heap.size < _; omega)).trans k1
        have hsz2 : wr.heap.size < w2.heap.size := Nat.lt_of_lt_of_le hsz1 hb1.size
        have HB2 := Lib.hid (bel_then HBW.out hb1)
        clear k0 k1 hb0 hb1
        by_cases hn : nameB cn = true
        · have HN := Lib.hid hn
          rw [hn]
          have hn6 := nameB_size hn
          clear hn
          by_cases hl : inB cs 0 36000 = true
          · obtain ⟨hl0, hl1⟩ := inB_true hl
            obtain ⟨n, rfl⟩ := Int.eq_ofNat_of_zero_le hl0
            have hn36 : n ≤ 36000 := by omega
            have zn := numT_size n hn36
            have HOK := Lib.hid (okCh_all HX.out (show okCh ⟨cn, (n : Int)⟩ = true by unfold okCh; rw [HN.out, hl]; rfl) HA.out)
            have HT := Lib.hid (chTextT_succ HX.out)
            have HL := Lib.hid hl
            clear hl
            go_wp2_with (go_at_call 105; refine (dsLimitT_c _ _).mono ?_; rw [HL.out]; rintro e w' ⟨rfl, rfl⟩)
            have z1 : (cn ++ ⟨#[64]⟩).size ≤ 7 := by rw [ByteArray.size_append]; omega
            have z2 : (cn ++ ⟨#[64]⟩ ++ numT n).size ≤ 28 := by rw [ByteArray.size_append]; omega
            have z3 : (cn ++ ⟨#[64]⟩ ++ numT n ++ ⟨#[59]⟩).size ≤ 29 := by rw [ByteArray.size_append]; omega
            ((refine wp_region_held_drew (S := fun w' => w'.cell? ⟨wr.heap.size, 0, none⟩ = some (.string cn) ∧ w'.cell? ⟨wr.heap.size, 1, none⟩ = some (.int .i64 n)) (by kernel_rfl) (by (try dsimp only); first | go_keep | (go_split_ands; refine ⟨?_, ?_⟩ <;> assumption)) (fun hHeld => ?_)); (refine wpAnyH_take (i := 0) (v := ?_) (arr_get g_z) (by kernel_rfl) (by kernel_rfl) (by kernel_rfl) (fun _ _ _ h => h) (Or.inl ⟨by rfl, ?_⟩) hHeld ?_; rotate_left; (focus (intro w hSw; (try dsimp only at hSw); go_simp; try (first | (with_reducible rfl) | (rw [if_neg (by (try simp only [ByteArray.size_append]); omega)])))); try simp only [Act.put, List.setIfInBounds_toArray, List.set_cons_zero, List.set_cons_succ]); (refine wpAnyH_take (i := 1) (v := ?_) (arr_get (g_s g_z)) (by kernel_rfl) (by kernel_rfl) (by kernel_rfl) (fun _ _ _ h => h) (Or.inl ⟨by rfl, ?_⟩) hHeld ?_; rotate_left; (focus (intro w hSw; (try dsimp only at hSw); go_simp; try (first | (with_reducible rfl) | (rw [if_neg (by (try simp only [ByteArray.size_append]); omega)])))); try simp only [Act.put, List.setIfInBounds_toArray, List.set_cons_zero, List.set_cons_succ]); (refine wpAnyH_take (i := 2) (v := ?_) (arr_get (g_s (g_s g_z))) (by kernel_rfl) (by kernel_rfl) (by kernel_rfl) (fun _ _ _ h => h) (Or.inl ⟨by rfl, ?_⟩) hHeld ?_; rotate_left; (focus (intro w hSw; (try dsimp only at hSw); go_simp; try (first | (with_reducible rfl) | (rw [if_neg (by (try simp only [ByteArray.size_append]); omega)])))); try simp only [Act.put, List.setIfInBounds_toArray, List.set_cons_zero, List.set_cons_succ]); (refine wpAnyH_take (i := 3) (v := ?_) (arr_get (g_s (g_s (g_s g_z)))) (by kernel_rfl) (by kernel_rfl) (by kernel_rfl) (fun _ _ _ h => h) (Or.inl ⟨by rfl, ?_⟩) hHeld ?_; rotate_left; (focus (intro w hSw; (try dsimp only at hSw); go_simp; try (first | (with_reducible rfl) | (rw [if_neg (by (try simp only [ByteArray.size_append]); omega)])))); try simp only [Act.put, List.setIfInBounds_toArray, List.set_cons_zero, List.set_cons_succ]); (refine wpAnyH_take (i := 4) (v := ?_) (arr_get (g_s (g_s (g_s (g_s g_z))))) (by kernel_rfl) (by kernel_rfl) (by kernel_rfl) (fun _ _ _ h => h) (Or.inl ⟨by rfl, ?_⟩) hHeld ?_; rotate_left; (focus (intro w hSw; (try dsimp only at hSw); go_simp; try (first | (with_reducible rfl) | (rw [if_neg (by (try simp only [ByteArray.size_append]); omega)])))); try simp only [Act.put, List.setIfInBounds_toArray, List.set_cons_zero, List.set_cons_succ]); (refine wpAnyH_take (i := 5) (v := ?_) (arr_get (g_s (g_s (g_s (g_s (g_s g_z)))))) (by kernel_rfl) (by kernel_rfl) (by kernel_rfl) (fun _ _ _ h => h) (Or.inl ⟨by rfl, ?_⟩) hHeld ?_; rotate_left; (focus (intro w hSw; (try dsimp only at hSw); go_simp; try (first | (with_reducible rfl) | (rw [if_neg (by (try simp only [ByteArray.size_append]); omega)])))); try simp only [Act.put, List.setIfInBounds_toArray, List.set_cons_zero, List.set_cons_succ]); (refine wpAnyH_ready (rs := [6]) (by kernel_rfl) (by simp) ?_); (refine AllReadyH.cons (i := 6) (arr_get (g_s (g_s (g_s (g_s (g_s (g_s g_z))))))) (fun K hK => ?_) AllReadyH.nil); (go_simp); ((go_at_call 112; refine (l1NumG_c n _ hn36).mono ?_; rintro e w' ⟨rfl, hb1⟩)); (try (go_wp2_with fail)); (refine hK.out _ _ (by (try dsimp only); (go_split_ands; refine ⟨?_, ?_⟩ <;> (rw [hb1.cell (by first | assumption | (simp; omega))]; assumption))) (fun hHeld2 => ?_)); (clear hHeld hK); (clear K); (have hHeld := hHeld2); (clear hHeld2); (try simp only [Act.put, List.setIfInBounds_toArray, List.set_cons_zero, List.set_cons_succ]); (refine wpAnyH_take (i := 7) (v := ?_) (arr_get (g_s (g_s (g_s (g_s (g_s (g_s (g_s g_z)))))))) (by kernel_rfl) (by kernel_rfl) (by kernel_rfl) (fun _ _ _ h => h) (Or.inl ⟨by rfl, ?_⟩) hHeld ?_; rotate_left; (focus (intro w hSw; (try dsimp only at hSw); go_simp; try (first | (with_reducible rfl) | (rw [if_neg (by (try simp only [ByteArray.size_append]); omega)])))); try simp only [Act.put, List.setIfInBounds_toArray, List.set_cons_zero, List.set_cons_succ]); (refine wpAnyH_take (i := 8) (v := ?_) (arr_get (g_s (g_s (g_s (g_s (g_s (g_s (g_s (g_s g_z))))))))) (by kernel_rfl) (by kernel_rfl) (by kernel_rfl) (fun _ _ _ h => h) (Or.inl ⟨by rfl, ?_⟩) hHeld ?_; rotate_left; (focus (intro w hSw; (try dsimp only at hSw); go_simp; try (first | (with_reducible rfl) | (rw [if_neg (by (try simp only [ByteArray.size_append]); omega)])))); try simp only [Act.put, List.setIfInBounds_toArray, List.set_cons_zero, List.set_cons_succ]); (refine wpAnyH_take (i := 9) (v := ?_) (arr_get (g_s (g_s (g_s (g_s (g_s (g_s (g_s (g_s (g_s g_z)))))))))) (by kernel_rfl) (by kernel_rfl) (by kernel_rfl) (fun _ _ _ h => h) (Or.inl ⟨by rfl, ?_⟩) hHeld ?_; rotate_left; (focus (intro w hSw; (try dsimp only at hSw); go_simp; try (first | (with_reducible rfl) | (rw [if_neg (by (try simp only [ByteArray.size_append]); omega)])))); try simp only [Act.put, List.setIfInBounds_toArray, List.set_cons_zero, List.set_cons_succ]); (refine wpAnyH_take (i := 10) (v := ?_) (arr_get (g_s (g_s (g_s (g_s (g_s (g_s (g_s (g_s (g_s (g_s g_z))))))))))) (by kernel_rfl) (by kernel_rfl) (by kernel_rfl) (fun _ _ _ h => h) (Or.inl ⟨by rfl, ?_⟩) hHeld ?_; rotate_left; (focus (intro w hSw; (try dsimp only at hSw); go_simp; try (first | (with_reducible rfl) | (rw [if_neg (by (try simp only [ByteArray.size_append]); omega)])))); try simp only [Act.put, List.setIfInBounds_toArray, List.set_cons_zero, List.set_cons_succ]); (refine wpAnyH_done (by kernel_rfl) ?_ _))
            have HB3 := Lib.hid (bel_then (bel_dr HB2.out) hb1)
            clear hb1
            go_wp2
            refine ⟨⟨k + 1, _, by omega, ?_, by go_num, rfl, Lib.hid (by rw [HT.out, HS.out]; rfl), HOK, HB3⟩, by simp [intOf]; omega⟩
            rw [ByteArray.size_append]; omega
          · have hl : inB cs 0 36000 = false := by simpa using hl
            have HV := Lib.hid (chText_no2 HX.out (show okCh ⟨cn, cs⟩ = false by unfold okCh; rw [hl]; simp))
            go_wp2_with (go_at_call 105; refine (dsLimitT_c _ _).mono ?_; rw [hl]; rintro e w' ⟨rfl, rfl⟩)
            go_ret2
            unfold ChTextIs
            rw [HV.out]
            exact ⟨rfl, HB2.out⟩
        · have hn : nameB cn = false := by simpa using hn
          have HV := Lib.hid (chText_no2 HX.out (show okCh ⟨cn, cs⟩ = false by unfold okCh; rw [hn]; rfl))
          rw [hn]
          go_wp2
          go_ret2
          unfold ChTextIs
          rw [HV.out]
          exact ⟨rfl, HB2.out⟩
      · obtain rfl : k = l.length := by omega
        have HV := Lib.hid (chText_yes h12 HA.out)
        go_wp2
        go_ret2
        unfold ChTextIs
        rw [HV.out, HS.out]
        exact ⟨rfl, HB.out⟩
  · have i12 : (12 : Int) < (l.length : Int) := by omega
    have HV := Lib.hid (chText_no1 h12)
    go_enter Tryz.func48, Tryz.ntmps48
    go_wp2
    go_ret2
    unfold ChTextIs
    rw [HV.out]
    exact ⟨rfl, Below.refl _ _⟩

set_option maxRecDepth 100000 in
set_option maxHeartbeats 2000000 in
theorem choiceTextI_c (v : Value) (l : List Ch) (w : World) (hz : ∀ x ∈ l, x.cn.size ≤ 9223372036854775807) (hr : Rd w v l.length (l.flatMap Ch.cells)) (ht : PowTab w) :
    Calls Tryz.prog 47 #[v] w (ChTextIs (choiceTextV l) w) := by
  obtain ⟨A, c, rfl, hc, hm, hr⟩ := hr
  rw [maxLen_eq] at hm
  have HZ := Lib.hid hz
  have HR := Lib.hid hr
  have HT0 := Lib.hid ht
  clear ht
  clear hz hr
  have q64 : (⟨#[64]⟩ : ByteArray).size = 1 := rfl
  have q59 : (⟨#[59]⟩ : ByteArray).size = 1 := rfl
  by_cases h12 : l.length ≤ 12
  · have i12 : (l.length : Int) ≤ 12 := by omega
    go_enter Tryz.func47, Tryz.ntmps47
    go_wp2_with fail
    go_loopw [4, 12] (fun vo vi wr => ∃ (k : Nat) (S : ByteArray), k ≤ l.length ∧ S.size ≤ 40 * k ∧ vi = .int .i64 k ∧ vo = .string S ∧ Hid (chTextT l k = S) ∧ Hid ((l.take k).all okCh = true) ∧ Hid (Below w.heap.size w wr)) (fun _ vi _ => l.length - (intOf vi).toNat)
    case atStart => exact ⟨0, ⟨#[]⟩, Nat.zero_le _, Nat.le_refl _, rfl, rfl, Lib.hid rfl, Lib.hid rfl, Lib.hid (Below.refl _ _)⟩
    case round =>
      obtain ⟨k, S, hk, hS, rfl, rfl, HS, HA, HB⟩ := hrel
      by_cases hlt : k < l.length
      · obtain ⟨b, off, rfl, hbl, hcell⟩ := HR.out (by omega)
        obtain ⟨cn, cs, hx, c0, c1⟩ := ch_at' hcell HB.out hbl hlt
        have HX := Lib.hid hx
        have hzk := HZ.out _ (List.mem_of_getElem? hx)
        dsimp only at hzk
        clear hx hcell
        go_wp2_with fail
        (generalize hw1 : World.alloc wr _ = w1; have k0 : w1.cell? ⟨wr.heap.size, 0, none⟩ = some (.string cn) := (by subst hw1; simp [go_sem]); have k1 : w1.cell? ⟨wr.heap.size, 1, none⟩ = some (.int .i64 cs) := (by subst hw1; simp [go_sem]); have hb0 : Below wr.heap.size wr w1 := (by subst hw1; exact bel_al (Below.refl _ _) _); have hsz1 : wr.heap.size < w1.heap.size := (by subst hw1; simp); clear hw1)
        have HBW := Lib.hid (bel_then HB.out hb0)
        refine (isName_c cn _ hzk).mono ?_; rintro e w2 ⟨rfl, hb1⟩
        have e0 := (hb1.cell (p := ⟨wr.heap.size, 0, none⟩) (by show wr.heap.size < _; omega)).trans k0
        have e1 := (hb1.cell (p := ⟨wr.heap.size, 1, none⟩) (by show wr.heap.size < _; omega)).trans k1
        have hsz2 : wr.heap.size < w2.heap.size := Nat.lt_of_lt_of_le hsz1 hb1.size
        have HB2 := Lib.hid (bel_then HBW.out hb1)
        clear k0 k1 hb0 hb1
        by_cases hn : nameB cn = true
        · have HN := Lib.hid hn
          rw [hn]
          have hn6 := nameB_size hn
          clear hn
          by_cases hl : inB cs 0 36000 = true
          · obtain ⟨hl0, hl1⟩ := inB_true hl
            obtain ⟨n, rfl⟩ := Int.eq_ofNat_of_zero_le hl0
            have hn36 : n ≤ 36000 := by omega
            have zn := numT_size n hn36
            have HOK := Lib.hid (okCh_all HX.out (show okCh ⟨cn, (n : Int)⟩ = true by unfold okCh; rw [HN.out, hl]; rfl) HA.out)
            have HT := Lib.hid (chTextT_succ HX.out)
            have HL := Lib.hid hl
            clear hl
            go_wp2_with (go_at_call 64; refine (inside_c _ _ _ _).mono ?_; rw [HL.out]; rintro e w' ⟨rfl, rfl⟩)
            have z1 : (cn ++ ⟨#[64]⟩).size ≤ 7 := by rw [ByteArray.size_append]; omega
            have z2 : (cn ++ ⟨#[64]⟩ ++ numT n).size ≤ 28 := by rw [ByteArray.size_append]; omega
            have z3 : (cn ++ ⟨#[64]⟩ ++ numT n ++ ⟨#[59]⟩).size ≤ 29 := by rw [ByteArray.size_append]; omega
            ((refine wp_region_held_drew (S := fun w' => w'.cell? ⟨wr.heap.size, 0, none⟩ = some (.string cn) ∧ w'.cell? ⟨wr.heap.size, 1, none⟩ = some (.int .i64 n)) (by kernel_rfl) (by (try dsimp only); first | go_keep | (go_split_ands; refine ⟨?_, ?_⟩ <;> assumption)) (fun hHeld => ?_)); (refine wpAnyH_take (i := 0) (v := ?_) (arr_get g_z) (by kernel_rfl) (by kernel_rfl) (by kernel_rfl) (fun _ _ _ h => h) (Or.inl ⟨by rfl, ?_⟩) hHeld ?_; rotate_left; (focus (intro w hSw; (try dsimp only at hSw); go_simp; try (first | (with_reducible rfl) | (rw [if_neg (by (try simp only [ByteArray.size_append]); omega)])))); try simp only [Act.put, List.setIfInBounds_toArray, List.set_cons_zero, List.set_cons_succ]); (refine wpAnyH_take (i := 1) (v := ?_) (arr_get (g_s g_z)) (by kernel_rfl) (by kernel_rfl) (by kernel_rfl) (fun _ _ _ h => h) (Or.inl ⟨by rfl, ?_⟩) hHeld ?_; rotate_left; (focus (intro w hSw; (try dsimp only at hSw); go_simp; try (first | (with_reducible rfl) | (rw [if_neg (by (try simp only [ByteArray.size_append]); omega)])))); try simp only [Act.put, List.setIfInBounds_toArray, List.set_cons_zero, List.set_cons_succ]); (refine wpAnyH_take (i := 2) (v := ?_) (arr_get (g_s (g_s g_z))) (by kernel_rfl) (by kernel_rfl) (by kernel_rfl) (fun _ _ _ h => h) (Or.inl ⟨by rfl, ?_⟩) hHeld ?_; rotate_left; (focus (intro w hSw; (try dsimp only at hSw); go_simp; try (first | (with_reducible rfl) | (rw [if_neg (by (try simp only [ByteArray.size_append]); omega)])))); try simp only [Act.put, List.setIfInBounds_toArray, List.set_cons_zero, List.set_cons_succ]); (refine wpAnyH_take (i := 3) (v := ?_) (arr_get (g_s (g_s (g_s g_z)))) (by kernel_rfl) (by kernel_rfl) (by kernel_rfl) (fun _ _ _ h => h) (Or.inl ⟨by rfl, ?_⟩) hHeld ?_; rotate_left; (focus (intro w hSw; (try dsimp only at hSw); go_simp; try (first | (with_reducible rfl) | (rw [if_neg (by (try simp only [ByteArray.size_append]); omega)])))); try simp only [Act.put, List.setIfInBounds_toArray, List.set_cons_zero, List.set_cons_succ]); (refine wpAnyH_take (i := 4) (v := ?_) (arr_get (g_s (g_s (g_s (g_s g_z))))) (by kernel_rfl) (by kernel_rfl) (by kernel_rfl) (fun _ _ _ h => h) (Or.inl ⟨by rfl, ?_⟩) hHeld ?_; rotate_left; (focus (intro w hSw; (try dsimp only at hSw); go_simp; try (first | (with_reducible rfl) | (rw [if_neg (by (try simp only [ByteArray.size_append]); omega)])))); try simp only [Act.put, List.setIfInBounds_toArray, List.set_cons_zero, List.set_cons_succ]); (refine wpAnyH_take (i := 5) (v := ?_) (arr_get (g_s (g_s (g_s (g_s (g_s g_z)))))) (by kernel_rfl) (by kernel_rfl) (by kernel_rfl) (fun _ _ _ h => h) (Or.inl ⟨by rfl, ?_⟩) hHeld ?_; rotate_left; (focus (intro w hSw; (try dsimp only at hSw); go_simp; try (first | (with_reducible rfl) | (rw [if_neg (by (try simp only [ByteArray.size_append]); omega)])))); try simp only [Act.put, List.setIfInBounds_toArray, List.set_cons_zero, List.set_cons_succ]); (refine wpAnyH_ready (rs := [6]) (by kernel_rfl) (by simp) ?_); (refine AllReadyH.cons (i := 6) (arr_get (g_s (g_s (g_s (g_s (g_s (g_s g_z))))))) (fun K hK => ?_) AllReadyH.nil); (go_simp); ((go_at_call 110; refine (itoaG_c n _ hn36 (powTab_below HT0.out (bel_dr HB2.out))).mono ?_; rintro e w' ⟨rfl, hb1⟩)); (try (go_wp2_with fail)); (refine hK.out _ _ (by (try dsimp only); (go_split_ands; refine ⟨?_, ?_⟩ <;> (rw [hb1.cell (by first | assumption | (simp; omega))]; assumption))) (fun hHeld2 => ?_)); (clear hHeld hK); (clear K); (have hHeld := hHeld2); (clear hHeld2); (try simp only [Act.put, List.setIfInBounds_toArray, List.set_cons_zero, List.set_cons_succ]); (refine wpAnyH_take (i := 7) (v := ?_) (arr_get (g_s (g_s (g_s (g_s (g_s (g_s (g_s g_z)))))))) (by kernel_rfl) (by kernel_rfl) (by kernel_rfl) (fun _ _ _ h => h) (Or.inl ⟨by rfl, ?_⟩) hHeld ?_; rotate_left; (focus (intro w hSw; (try dsimp only at hSw); go_simp; try (first | (with_reducible rfl) | (rw [if_neg (by (try simp only [ByteArray.size_append]); omega)])))); try simp only [Act.put, List.setIfInBounds_toArray, List.set_cons_zero, List.set_cons_succ]); (refine wpAnyH_take (i := 8) (v := ?_) (arr_get (g_s (g_s (g_s (g_s (g_s (g_s (g_s (g_s g_z))))))))) (by kernel_rfl) (by kernel_rfl) (by kernel_rfl) (fun _ _ _ h => h) (Or.inl ⟨by rfl, ?_⟩) hHeld ?_; rotate_left; (focus (intro w hSw; (try dsimp only at hSw); go_simp; try (first | (with_reducible rfl) | (rw [if_neg (by (try simp only [ByteArray.size_append]); omega)])))); try simp only [Act.put, List.setIfInBounds_toArray, List.set_cons_zero, List.set_cons_succ]); (refine wpAnyH_take (i := 9) (v := ?_) (arr_get (g_s (g_s (g_s (g_s (g_s (g_s (g_s (g_s (g_s g_z)))))))))) (by kernel_rfl) (by kernel_rfl) (by kernel_rfl) (fun _ _ _ h => h) (Or.inl ⟨by rfl, ?_⟩) hHeld ?_; rotate_left; (focus (intro w hSw; (try dsimp only at hSw); go_simp; try (first | (with_reducible rfl) | (rw [if_neg (by (try simp only [ByteArray.size_append]); omega)])))); try simp only [Act.put, List.setIfInBounds_toArray, List.set_cons_zero, List.set_cons_succ]); (refine wpAnyH_take (i := 10) (v := ?_) (arr_get (g_s (g_s (g_s (g_s (g_s (g_s (g_s (g_s (g_s (g_s g_z))))))))))) (by kernel_rfl) (by kernel_rfl) (by kernel_rfl) (fun _ _ _ h => h) (Or.inl ⟨by rfl, ?_⟩) hHeld ?_; rotate_left; (focus (intro w hSw; (try dsimp only at hSw); go_simp; try (first | (with_reducible rfl) | (rw [if_neg (by (try simp only [ByteArray.size_append]); omega)])))); try simp only [Act.put, List.setIfInBounds_toArray, List.set_cons_zero, List.set_cons_succ]); (refine wpAnyH_done (by kernel_rfl) ?_ _))
            have HB3 := Lib.hid (bel_then (bel_dr HB2.out) hb1)
            clear hb1
            go_wp2
            refine ⟨⟨k + 1, _, by omega, ?_, by go_num, rfl, Lib.hid (by rw [HT.out, HS.out]; rfl), HOK, HB3⟩, by simp [intOf]; omega⟩
            rw [ByteArray.size_append]; omega
          · have hl : inB cs 0 36000 = false := by simpa using hl
            have HV := Lib.hid (chText_no2 HX.out (show okCh ⟨cn, cs⟩ = false by unfold okCh; rw [hl]; simp))
            go_wp2_with (go_at_call 64; refine (inside_c _ _ _ _).mono ?_; rw [hl]; rintro e w' ⟨rfl, rfl⟩)
            go_ret2
            unfold ChTextIs
            rw [HV.out]
            exact ⟨rfl, HB2.out⟩
        · have hn : nameB cn = false := by simpa using hn
          have HV := Lib.hid (chText_no2 HX.out (show okCh ⟨cn, cs⟩ = false by unfold okCh; rw [hn]; rfl))
          rw [hn]
          go_wp2
          go_ret2
          unfold ChTextIs
          rw [HV.out]
          exact ⟨rfl, HB2.out⟩
      · obtain rfl : k = l.length := by omega
        have HV := Lib.hid (chText_yes h12 HA.out)
        go_wp2
        go_ret2
        unfold ChTextIs
        rw [HV.out, HS.out]
        exact ⟨rfl, HB.out⟩
  · have i12 : (12 : Int) < (l.length : Int) := by omega
    have HV := Lib.hid (chText_no1 h12)
    go_enter Tryz.func47, Tryz.ntmps47
    go_wp2
    go_ret2
    unfold ChTextIs
    rw [HV.out]
    exact ⟨rfl, Below.refl _ _⟩
end Go.Proofs.YthgegghdkoeofaaGreatDoor
