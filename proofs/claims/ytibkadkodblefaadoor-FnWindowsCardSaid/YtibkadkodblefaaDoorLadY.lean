/-
  ReachedFrom on both sides.
-/
import Derived.Test.YtibkadkodblefaaDoorLadX
namespace Go.Proofs.YtibkadkodblefaaDoor
open Go.RowKit Go.Maps

set_option maxHeartbeats 400000 in
theorem laWall_c (n : Int) (w : World) : Calls Tryd.prog 64 #[.int .i64 n] w fun e w' => e = .returned (.bool (inB n 0 200)) ∧ w = w' := by
  go_enter Tryd.func64, Tryd.ntmps64
  go_wp2_with (go_at_call 54; refine (l1In_c _ _ _ _).mono ?_; rintro e w' ⟨rfl, rfl⟩)
  go_ret
  exact ⟨rfl, rfl⟩
noncomputable def reachedFromV (b l o s m wall place : Int) (ws : List Wn) : List Int × Bool := if ladOk b l o s m = true ∧ inB wall 0 200 = true ∧ inB place 0 600 = true ∧ wnOk ws = true then (selD (winP (ptAll b o l.toNat s.toNat m.toNat) wall place ws) ws.length, true) else ([], false)
theorem reachedFromV_no0 {b l o s m wall place : Int} {ws : List Wn} (h : ladOk b l o s m = false) : reachedFromV b l o s m wall place ws = ([], false) := by unfold reachedFromV; rw [if_neg (fun k => by have := k.1; rw [h] at this; simp at this)]
theorem reachedFromV_no1 {b l o s m wall place : Int} {ws : List Wn} (h : inB wall 0 200 = false) : reachedFromV b l o s m wall place ws = ([], false) := by unfold reachedFromV; rw [if_neg (fun k => by have := k.2.1; rw [h] at this; simp at this)]
theorem reachedFromV_no2 {b l o s m wall place : Int} {ws : List Wn} (h : inB place 0 600 = false) : reachedFromV b l o s m wall place ws = ([], false) := by unfold reachedFromV; rw [if_neg (fun k => by have := k.2.2.1; rw [h] at this; simp at this)]
theorem reachedFromV_no9 {b l o s m wall place : Int} {ws : List Wn} (h : wnOk ws = false) : reachedFromV b l o s m wall place ws = ([], false) := by unfold reachedFromV; rw [if_neg (fun k => by have := k.2.2.2; rw [h] at this; simp at this)]
theorem reachedFromV_yes {b o wall place : Int} {L S M : Nat} {ws : List Wn} (h : ladOk b L o S M = true) (k0 : inB wall 0 200 = true) (k1 : inB place 0 600 = true) (hw : wnOk ws = true) : reachedFromV b L o S M wall place ws = (selD (winP (ptAll b o L S M) wall place ws) ws.length, true) := by unfold reachedFromV; rw [if_pos ⟨h, k0, k1, hw⟩]; simp only [Int.toNat_natCast]
theorem reachedFromV_len (b l o s m wall place : Int) (ws : List Wn) : (reachedFromV b l o s m wall place ws).1.length ≤ 1000000 := by
  unfold reachedFromV
  split
  · rename_i h
    have h1 := (wnOk_true h.2.2.2).2
    have h2 := selD_len (winP (ptAll b o l.toNat s.toNat m.toNat) wall place ws) ws.length
    dsimp only; omega
  · dsimp only; simp
set_option maxRecDepth 100000 in
set_option maxHeartbeats 2000000 in
theorem reachedFromS_c (b l o s m wall place : Int) (v : Value) (ws : List Wn) (w : World) (hr : Rd w v ws.length (ws.flatMap Wn.cells)) :
    Calls Tryd.prog 31 #[ldV b l o s m, .int .i64 wall, .int .i64 place, v] w (OwnIB (reachedFromV b l o s m wall place ws) w) := by
  have HV : ∀ r, reachedFromV b l o s m wall place ws = r → Hid (reachedFromV b l o s m wall place ws = r) := fun r h => Lib.hid h
  have HRW := Lib.hid hr
  obtain ⟨A, c, rfl, hc9, hm9, _⟩ := hr
  rw [maxLen_eq] at hm9
  cases hok : ladOk b l o s m with
  | false =>
    have hv := HV _ (reachedFromV_no0 hok)
    go_enter Tryd.func31, Tryd.ntmps31
    go_wp2_with (first | (go_at_call 53; refine (laGood_c _ _ _ _ _ _).mono ?_; rintro e w' ⟨rfl, hb1⟩; have hz1 : w.heap.size < w'.heap.size := Nat.lt_of_lt_of_le (by first | assumption | (simp; done) | (simp; assumption)) hb1.size; have k0 : w'.cell? ⟨w.heap.size, 0, none⟩ = some (.int .i64 b) := (hb1.cell (by first | assumption | (simp; done) | (simp; assumption))).trans (by first | assumption | (simp [go_sem]; done)); have k1 : w'.cell? ⟨w.heap.size, 1, none⟩ = some (.int .i64 l) := (hb1.cell (by first | assumption | (simp; done) | (simp; assumption))).trans (by first | assumption | (simp [go_sem]; done)); have k2 : w'.cell? ⟨w.heap.size, 2, none⟩ = some (.int .i64 o) := (hb1.cell (by first | assumption | (simp; done) | (simp; assumption))).trans (by first | assumption | (simp [go_sem]; done)); have k3 : w'.cell? ⟨w.heap.size, 3, none⟩ = some (.int .i64 s) := (hb1.cell (by first | assumption | (simp; done) | (simp; assumption))).trans (by first | assumption | (simp [go_sem]; done)); have k4 : w'.cell? ⟨w.heap.size, 4, none⟩ = some (.int .i64 m) := (hb1.cell (by first | assumption | (simp; done) | (simp; assumption))).trans (by first | assumption | (simp [go_sem]; done))) | (go_at_call 59; refine (laPoint_c _ _).mono ?_; rintro e w' ⟨rfl, rfl⟩) | (go_at_call 64; refine (laWall_c _ _).mono ?_; rintro e w' ⟨rfl, rfl⟩))
    go_ret2
    rw [hv.out]
    exact ⟨_, rfl, World.ownsRow_nil _ _ _ _, (by repeat (first | exact Below.refl _ _ | assumption | refine bel_al ?_ _ | refine bel_dr ?_ | refine below_drewN ?_ _ | refine bel_then ?_ (by assumption)))⟩
  | true =>
    obtain ⟨b0, b1, l0, l1, o0, o1, s0, s1, m1⟩ := ladOk_true hok
    cases hp0 : inB wall 0 200 with
    | false =>
      have hv := HV _ (reachedFromV_no1 hp0)
      go_enter Tryd.func31, Tryd.ntmps31
      go_wp2_with (first | (go_at_call 53; refine (laGood_c _ _ _ _ _ _).mono ?_; rintro e w' ⟨rfl, hb1⟩; have hz1 : w.heap.size < w'.heap.size := Nat.lt_of_lt_of_le (by first | assumption | (simp; done) | (simp; assumption)) hb1.size; have k0 : w'.cell? ⟨w.heap.size, 0, none⟩ = some (.int .i64 b) := (hb1.cell (by first | assumption | (simp; done) | (simp; assumption))).trans (by first | assumption | (simp [go_sem]; done)); have k1 : w'.cell? ⟨w.heap.size, 1, none⟩ = some (.int .i64 l) := (hb1.cell (by first | assumption | (simp; done) | (simp; assumption))).trans (by first | assumption | (simp [go_sem]; done)); have k2 : w'.cell? ⟨w.heap.size, 2, none⟩ = some (.int .i64 o) := (hb1.cell (by first | assumption | (simp; done) | (simp; assumption))).trans (by first | assumption | (simp [go_sem]; done)); have k3 : w'.cell? ⟨w.heap.size, 3, none⟩ = some (.int .i64 s) := (hb1.cell (by first | assumption | (simp; done) | (simp; assumption))).trans (by first | assumption | (simp [go_sem]; done)); have k4 : w'.cell? ⟨w.heap.size, 4, none⟩ = some (.int .i64 m) := (hb1.cell (by first | assumption | (simp; done) | (simp; assumption))).trans (by first | assumption | (simp [go_sem]; done))) | (go_at_call 59; refine (laPoint_c _ _).mono ?_; rintro e w' ⟨rfl, rfl⟩) | (go_at_call 64; refine (laWall_c _ _).mono ?_; rintro e w' ⟨rfl, rfl⟩))
      go_ret2
      rw [hv.out]
      exact ⟨_, rfl, World.ownsRow_nil _ _ _ _, (by repeat (first | exact Below.refl _ _ | assumption | refine bel_al ?_ _ | refine bel_dr ?_ | refine below_drewN ?_ _ | refine bel_then ?_ (by assumption)))⟩
    | true =>
      have hq0 := inB_true hp0
      cases hp1 : inB place 0 600 with
      | false =>
        have hv := HV _ (reachedFromV_no2 hp1)
        go_enter Tryd.func31, Tryd.ntmps31
        go_wp2_with (first | (go_at_call 53; refine (laGood_c _ _ _ _ _ _).mono ?_; rintro e w' ⟨rfl, hb1⟩; have hz1 : w.heap.size < w'.heap.size := Nat.lt_of_lt_of_le (by first | assumption | (simp; done) | (simp; assumption)) hb1.size; have k0 : w'.cell? ⟨w.heap.size, 0, none⟩ = some (.int .i64 b) := (hb1.cell (by first | assumption | (simp; done) | (simp; assumption))).trans (by first | assumption | (simp [go_sem]; done)); have k1 : w'.cell? ⟨w.heap.size, 1, none⟩ = some (.int .i64 l) := (hb1.cell (by first | assumption | (simp; done) | (simp; assumption))).trans (by first | assumption | (simp [go_sem]; done)); have k2 : w'.cell? ⟨w.heap.size, 2, none⟩ = some (.int .i64 o) := (hb1.cell (by first | assumption | (simp; done) | (simp; assumption))).trans (by first | assumption | (simp [go_sem]; done)); have k3 : w'.cell? ⟨w.heap.size, 3, none⟩ = some (.int .i64 s) := (hb1.cell (by first | assumption | (simp; done) | (simp; assumption))).trans (by first | assumption | (simp [go_sem]; done)); have k4 : w'.cell? ⟨w.heap.size, 4, none⟩ = some (.int .i64 m) := (hb1.cell (by first | assumption | (simp; done) | (simp; assumption))).trans (by first | assumption | (simp [go_sem]; done))) | (go_at_call 59; refine (laPoint_c _ _).mono ?_; rintro e w' ⟨rfl, rfl⟩) | (go_at_call 64; refine (laWall_c _ _).mono ?_; rintro e w' ⟨rfl, rfl⟩))
        go_ret2
        rw [hv.out]
        exact ⟨_, rfl, World.ownsRow_nil _ _ _ _, (by repeat (first | exact Below.refl _ _ | assumption | refine bel_al ?_ _ | refine bel_dr ?_ | refine below_drewN ?_ _ | refine bel_then ?_ (by assumption)))⟩
      | true =>
        have hq1 := inB_true hp1
        obtain ⟨L, rfl⟩ : ∃ L : Nat, l = (L : Int) := ⟨l.toNat, by omega⟩
        obtain ⟨S, rfl⟩ : ∃ S : Nat, s = (S : Int) := ⟨s.toNat, by omega⟩
        obtain ⟨M, rfl⟩ : ∃ M : Nat, m = (M : Int) := ⟨m.toNat, by omega⟩
        have HWV : ∀ r, wnOk ws = r → Hid (wnOk ws = r) := fun r h => Lib.hid h
        go_enter Tryd.func31, Tryd.ntmps31
        go_wp2_with (first | (go_at_call 53; refine (laGood_c _ _ _ _ _ _).mono ?_; rintro e w' ⟨rfl, hb1⟩; have hz1 : w.heap.size < w'.heap.size := Nat.lt_of_lt_of_le (by first | assumption | (simp; done) | (simp; assumption)) hb1.size; have k0 : w'.cell? ⟨w.heap.size, 0, none⟩ = some (.int .i64 b) := (hb1.cell (by first | assumption | (simp; done) | (simp; assumption))).trans (by first | assumption | (simp [go_sem]; done)); have k1 : w'.cell? ⟨w.heap.size, 1, none⟩ = some (.int .i64 (L : Int)) := (hb1.cell (by first | assumption | (simp; done) | (simp; assumption))).trans (by first | assumption | (simp [go_sem]; done)); have k2 : w'.cell? ⟨w.heap.size, 2, none⟩ = some (.int .i64 o) := (hb1.cell (by first | assumption | (simp; done) | (simp; assumption))).trans (by first | assumption | (simp [go_sem]; done)); have k3 : w'.cell? ⟨w.heap.size, 3, none⟩ = some (.int .i64 (S : Int)) := (hb1.cell (by first | assumption | (simp; done) | (simp; assumption))).trans (by first | assumption | (simp [go_sem]; done)); have k4 : w'.cell? ⟨w.heap.size, 4, none⟩ = some (.int .i64 (M : Int)) := (hb1.cell (by first | assumption | (simp; done) | (simp; assumption))).trans (by first | assumption | (simp [go_sem]; done))) | (go_at_call 59; refine (laPoint_c _ _).mono ?_; rintro e w' ⟨rfl, rfl⟩) | (go_at_call 64; refine (laWall_c _ _).mono ?_; rintro e w' ⟨rfl, rfl⟩))
        have HBX : Hid (Below w.heap.size w w') := Lib.hid (bel_then (bel_al (Below.refl _ _) _) hb1)
        obtain ⟨wX, rfl⟩ : ∃ wX : World, wX = w' := ⟨_, rfl⟩
        refine (laWindows_c _ ws _ (rd_below HRW.out HBX.out)).mono ?_; rintro e w3 ⟨rfl, hb3⟩
        have j0 := (hb3.cell (p := ⟨w.heap.size, 0, none⟩) (by show w.heap.size < _; omega)).trans k0
        have j1 := (hb3.cell (p := ⟨w.heap.size, 1, none⟩) (by show w.heap.size < _; omega)).trans k1
        have j2 := (hb3.cell (p := ⟨w.heap.size, 2, none⟩) (by show w.heap.size < _; omega)).trans k2
        have j3 := (hb3.cell (p := ⟨w.heap.size, 3, none⟩) (by show w.heap.size < _; omega)).trans k3
        have j4 := (hb3.cell (p := ⟨w.heap.size, 4, none⟩) (by show w.heap.size < _; omega)).trans k4
        have HB3 := Lib.hid (bel_then HBX.out hb3)
        have hs3 : w.heap.size < w3.heap.size := World.block_lt_of_cell? w3 _ j0
        clear k0 k1 k2 k3 k4 hb1 hz1 HBX hb3
        cases hwn : wnOk ws with
        | false =>
          have hv := HV _ (reachedFromV_no9 hwn)
          go_wp2
          go_ret2
          rw [hv.out]
          exact ⟨_, rfl, World.ownsRow_nil _ _ _ _, HB3.out⟩
        | true =>
          have HWN := Lib.hid hwn
          have hv := HV _ (reachedFromV_yes hok hp0 hp1 hwn)
          clear HV hwn
          go_wp2_with fail
          refine (laFrom_c b o L S M wall place _ ws _ ⟨b0, b1⟩ (by omega) ⟨o0, o1⟩ (by omega) (by omega) hq0 hq1 HWN.out (rd_below HRW.out HB3.out)).mono ?_; rintro e w4 ⟨x, rfl, ho, hb4⟩
          have HB4 := Lib.hid (bel_then HB3.out hb4)
          have HO4 := Lib.hid (own_base ho (show w.heap.size ≤ w3.heap.size by omega))
          clear ho hb4
          go_wp2
          go_ret2
          rw [hv.out]
          exact ⟨_, rfl, HO4.out, HB4.out⟩
set_option maxRecDepth 100000 in
set_option maxHeartbeats 2000000 in
theorem reachedFromI_c (b l o s m wall place : Int) (v : Value) (ws : List Wn) (w : World) (hr : Rd w v ws.length (ws.flatMap Wn.cells)) (ht : SinTab w) :
    Calls Tryd.prog 33 #[ldV b l o s m, .int .i64 wall, .int .i64 place, v] w (OwnIB (reachedFromV b l o s m wall place ws) w) := by
  have HV : ∀ r, reachedFromV b l o s m wall place ws = r → Hid (reachedFromV b l o s m wall place ws = r) := fun r h => Lib.hid h
  have HRW := Lib.hid hr
  obtain ⟨A, c, rfl, hc9, hm9, _⟩ := hr
  rw [maxLen_eq] at hm9
  cases hok : ladOk b l o s m with
  | false =>
    have hv := HV _ (reachedFromV_no0 hok)
    go_enter Tryd.func33, Tryd.ntmps33
    go_wp2_with (first | (go_at_call 56; refine (isLadder_c _ _ _ _ _ _).mono ?_; rintro e w' ⟨rfl, hb1⟩; have hz1 : w.heap.size < w'.heap.size := Nat.lt_of_lt_of_le (by first | assumption | (simp; done) | (simp; assumption)) hb1.size; have k0 : w'.cell? ⟨w.heap.size, 0, none⟩ = some (.int .i64 b) := (hb1.cell (by first | assumption | (simp; done) | (simp; assumption))).trans (by first | assumption | (simp [go_sem]; done)); have k1 : w'.cell? ⟨w.heap.size, 1, none⟩ = some (.int .i64 l) := (hb1.cell (by first | assumption | (simp; done) | (simp; assumption))).trans (by first | assumption | (simp [go_sem]; done)); have k2 : w'.cell? ⟨w.heap.size, 2, none⟩ = some (.int .i64 o) := (hb1.cell (by first | assumption | (simp; done) | (simp; assumption))).trans (by first | assumption | (simp [go_sem]; done)); have k3 : w'.cell? ⟨w.heap.size, 3, none⟩ = some (.int .i64 s) := (hb1.cell (by first | assumption | (simp; done) | (simp; assumption))).trans (by first | assumption | (simp [go_sem]; done)); have k4 : w'.cell? ⟨w.heap.size, 4, none⟩ = some (.int .i64 m) := (hb1.cell (by first | assumption | (simp; done) | (simp; assumption))).trans (by first | assumption | (simp [go_sem]; done))) | (go_at_call 57; refine (inside_c _ _ _ _).mono ?_; rintro e w' ⟨rfl, rfl⟩))
    go_ret2
    rw [hv.out]
    exact ⟨_, rfl, World.ownsRow_nil _ _ _ _, (by repeat (first | exact Below.refl _ _ | assumption | refine bel_al ?_ _ | refine bel_dr ?_ | refine below_drewN ?_ _ | refine bel_then ?_ (by assumption)))⟩
  | true =>
    obtain ⟨b0, b1, l0, l1, o0, o1, s0, s1, m1⟩ := ladOk_true hok
    cases hp0 : inB wall 0 200 with
    | false =>
      have hv := HV _ (reachedFromV_no1 hp0)
      go_enter Tryd.func33, Tryd.ntmps33
      go_wp2_with (first | (go_at_call 56; refine (isLadder_c _ _ _ _ _ _).mono ?_; rintro e w' ⟨rfl, hb1⟩; have hz1 : w.heap.size < w'.heap.size := Nat.lt_of_lt_of_le (by first | assumption | (simp; done) | (simp; assumption)) hb1.size; have k0 : w'.cell? ⟨w.heap.size, 0, none⟩ = some (.int .i64 b) := (hb1.cell (by first | assumption | (simp; done) | (simp; assumption))).trans (by first | assumption | (simp [go_sem]; done)); have k1 : w'.cell? ⟨w.heap.size, 1, none⟩ = some (.int .i64 l) := (hb1.cell (by first | assumption | (simp; done) | (simp; assumption))).trans (by first | assumption | (simp [go_sem]; done)); have k2 : w'.cell? ⟨w.heap.size, 2, none⟩ = some (.int .i64 o) := (hb1.cell (by first | assumption | (simp; done) | (simp; assumption))).trans (by first | assumption | (simp [go_sem]; done)); have k3 : w'.cell? ⟨w.heap.size, 3, none⟩ = some (.int .i64 s) := (hb1.cell (by first | assumption | (simp; done) | (simp; assumption))).trans (by first | assumption | (simp [go_sem]; done)); have k4 : w'.cell? ⟨w.heap.size, 4, none⟩ = some (.int .i64 m) := (hb1.cell (by first | assumption | (simp; done) | (simp; assumption))).trans (by first | assumption | (simp [go_sem]; done))) | (go_at_call 57; refine (inside_c _ _ _ _).mono ?_; rintro e w' ⟨rfl, rfl⟩))
      go_ret2
      rw [hv.out]
      exact ⟨_, rfl, World.ownsRow_nil _ _ _ _, (by repeat (first | exact Below.refl _ _ | assumption | refine bel_al ?_ _ | refine bel_dr ?_ | refine below_drewN ?_ _ | refine bel_then ?_ (by assumption)))⟩
    | true =>
      have hq0 := inB_true hp0
      cases hp1 : inB place 0 600 with
      | false =>
        have hv := HV _ (reachedFromV_no2 hp1)
        go_enter Tryd.func33, Tryd.ntmps33
        go_wp2_with (first | (go_at_call 56; refine (isLadder_c _ _ _ _ _ _).mono ?_; rintro e w' ⟨rfl, hb1⟩; have hz1 : w.heap.size < w'.heap.size := Nat.lt_of_lt_of_le (by first | assumption | (simp; done) | (simp; assumption)) hb1.size; have k0 : w'.cell? ⟨w.heap.size, 0, none⟩ = some (.int .i64 b) := (hb1.cell (by first | assumption | (simp; done) | (simp; assumption))).trans (by first | assumption | (simp [go_sem]; done)); have k1 : w'.cell? ⟨w.heap.size, 1, none⟩ = some (.int .i64 l) := (hb1.cell (by first | assumption | (simp; done) | (simp; assumption))).trans (by first | assumption | (simp [go_sem]; done)); have k2 : w'.cell? ⟨w.heap.size, 2, none⟩ = some (.int .i64 o) := (hb1.cell (by first | assumption | (simp; done) | (simp; assumption))).trans (by first | assumption | (simp [go_sem]; done)); have k3 : w'.cell? ⟨w.heap.size, 3, none⟩ = some (.int .i64 s) := (hb1.cell (by first | assumption | (simp; done) | (simp; assumption))).trans (by first | assumption | (simp [go_sem]; done)); have k4 : w'.cell? ⟨w.heap.size, 4, none⟩ = some (.int .i64 m) := (hb1.cell (by first | assumption | (simp; done) | (simp; assumption))).trans (by first | assumption | (simp [go_sem]; done))) | (go_at_call 57; refine (inside_c _ _ _ _).mono ?_; rintro e w' ⟨rfl, rfl⟩))
        go_ret2
        rw [hv.out]
        exact ⟨_, rfl, World.ownsRow_nil _ _ _ _, (by repeat (first | exact Below.refl _ _ | assumption | refine bel_al ?_ _ | refine bel_dr ?_ | refine below_drewN ?_ _ | refine bel_then ?_ (by assumption)))⟩
      | true =>
        have hq1 := inB_true hp1
        obtain ⟨L, rfl⟩ : ∃ L : Nat, l = (L : Int) := ⟨l.toNat, by omega⟩
        obtain ⟨S, rfl⟩ : ∃ S : Nat, s = (S : Int) := ⟨s.toNat, by omega⟩
        obtain ⟨M, rfl⟩ : ∃ M : Nat, m = (M : Int) := ⟨m.toNat, by omega⟩
        have HT := Lib.hid ht
        clear ht
        have HWV : ∀ r, wnOk ws = r → Hid (wnOk ws = r) := fun r h => Lib.hid h
        go_enter Tryd.func33, Tryd.ntmps33
        go_wp2_with (first | (go_at_call 56; refine (isLadder_c _ _ _ _ _ _).mono ?_; rintro e w' ⟨rfl, hb1⟩; have hz1 : w.heap.size < w'.heap.size := Nat.lt_of_lt_of_le (by first | assumption | (simp; done) | (simp; assumption)) hb1.size; have k0 : w'.cell? ⟨w.heap.size, 0, none⟩ = some (.int .i64 b) := (hb1.cell (by first | assumption | (simp; done) | (simp; assumption))).trans (by first | assumption | (simp [go_sem]; done)); have k1 : w'.cell? ⟨w.heap.size, 1, none⟩ = some (.int .i64 (L : Int)) := (hb1.cell (by first | assumption | (simp; done) | (simp; assumption))).trans (by first | assumption | (simp [go_sem]; done)); have k2 : w'.cell? ⟨w.heap.size, 2, none⟩ = some (.int .i64 o) := (hb1.cell (by first | assumption | (simp; done) | (simp; assumption))).trans (by first | assumption | (simp [go_sem]; done)); have k3 : w'.cell? ⟨w.heap.size, 3, none⟩ = some (.int .i64 (S : Int)) := (hb1.cell (by first | assumption | (simp; done) | (simp; assumption))).trans (by first | assumption | (simp [go_sem]; done)); have k4 : w'.cell? ⟨w.heap.size, 4, none⟩ = some (.int .i64 (M : Int)) := (hb1.cell (by first | assumption | (simp; done) | (simp; assumption))).trans (by first | assumption | (simp [go_sem]; done))) | (go_at_call 57; refine (inside_c _ _ _ _).mono ?_; rintro e w' ⟨rfl, rfl⟩))
        have HBX : Hid (Below w.heap.size w w') := Lib.hid (bel_then (bel_al (Below.refl _ _) _) hb1)
        obtain ⟨wX, rfl⟩ : ∃ wX : World, wX = w' := ⟨_, rfl⟩
        refine (areWindows_c _ ws _ (rd_below HRW.out HBX.out)).mono ?_; rintro e w3 ⟨rfl, hb3⟩
        have j0 := (hb3.cell (p := ⟨w.heap.size, 0, none⟩) (by show w.heap.size < _; omega)).trans k0
        have j1 := (hb3.cell (p := ⟨w.heap.size, 1, none⟩) (by show w.heap.size < _; omega)).trans k1
        have j2 := (hb3.cell (p := ⟨w.heap.size, 2, none⟩) (by show w.heap.size < _; omega)).trans k2
        have j3 := (hb3.cell (p := ⟨w.heap.size, 3, none⟩) (by show w.heap.size < _; omega)).trans k3
        have j4 := (hb3.cell (p := ⟨w.heap.size, 4, none⟩) (by show w.heap.size < _; omega)).trans k4
        have HB3 := Lib.hid (bel_then HBX.out hb3)
        have hs3 : w.heap.size < w3.heap.size := World.block_lt_of_cell? w3 _ j0
        clear k0 k1 k2 k3 k4 hb1 hz1 HBX hb3
        cases hwn : wnOk ws with
        | false =>
          have hv := HV _ (reachedFromV_no9 hwn)
          go_wp2
          go_ret2
          rw [hv.out]
          exact ⟨_, rfl, World.ownsRow_nil _ _ _ _, HB3.out⟩
        | true =>
          have HWN := Lib.hid hwn
          have hv := HV _ (reachedFromV_yes hok hp0 hp1 hwn)
          clear HV hwn
          go_wp2_with fail
          refine (reach_c b o L S M _ ⟨b0, b1⟩ (by omega) ⟨o0, o1⟩ (by omega) (by omega) (sinTab_below HT.out HB3.out)).mono ?_; rintro e w4 ⟨B, n, D, rfl, hB, hn, hM, hD, hb4⟩
          have HB4 := Lib.hid (bel_then HB3.out hb4)
          have HM := Lib.hid hM
          have HD := Lib.hid hD
          have hs4 := hb4.size
          clear hM hD hb4
          go_wp2_with fail
          refine (reachedFrom_c B n D _ wall place _ ws _ HM.out HD.out hq0 hq1 HWN.out (rd_below HRW.out HB4.out)).mono ?_; rintro e w5 ⟨x, rfl, ho, hb5⟩
          have HB5 := Lib.hid (bel_then HB4.out hb5)
          have HO5 := Lib.hid (own_base ho (show w.heap.size ≤ w4.heap.size by omega))
          clear ho hb5
          go_wp2
          go_ret2
          rw [hv.out]
          exact ⟨_, rfl, HO5.out, HB5.out⟩
end Go.Proofs.YtibkadkodblefaaDoor
