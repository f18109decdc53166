/-
  FewestPlaces on both sides.
-/
import Derived.Test.YtibkadkodblefaaDoorLadY
import Derived.Test.YtibkadkodblefaaDoorLadT
namespace Go.Proofs.YtibkadkodblefaaDoor
open Go.RowKit Go.Maps

noncomputable def rowsP (F : Pts) (wall : Int) (ws : List Wn) (k : Nat) : List (List Int) := (List.range k).map fun j : Nat => selD (winP F wall (50 * (j : Int)) ws) ws.length
theorem rowsP_snoc (F : Pts) (wall : Int) (ws : List Wn) (k : Nat) : rowsP F wall ws (k + 1) = rowsP F wall ws k ++ [selD (winP F wall (50 * (k : Int)) ws) ws.length] := by
  unfold rowsP; rw [List.range_succ, List.map_append]; rfl
theorem rowsP_len (F : Pts) (wall : Int) (ws : List Wn) (k : Nat) : (rowsP F wall ws k).length = k := by simp [rowsP]
def allN (n : Nat) : List Int := selD (fun _ => !false) n
theorem few_both (F : Pts) (wall : Int) (ws : List Wn) : firstSome (fun n => covS (rowsP F wall ws 13) n 0 (allN ws.length)) 4 = firstSome (fun n => srchS (mskL F wall ws 13) (2 ^ ws.length - 1) n 0 0) 4 := by
  refine fewest_law (h := fun k => winP F wall (50 * (k : Int)) ws) (nW := ws.length) (M := mskL F wall ws 13) (ls := rowsP F wall ws 13) (fun k hk => ?_) (by rw [rowsP_len, mskL_len]) (fun k hk => ?_) 4
  · rw [mskL_len] at hk
    rw [mskL_get hk]
    exact maskL_of _ _
  · rw [mskL_len] at hk
    unfold rowsP
    simp [List.getD, hk]
theorem firstSome_len {f : Nat → Option (List Int)} {T : List Int} (hf : ∀ n T, f n = some T → T.length = n) : ∀ {n : Nat}, firstSome f n = some T → T.length ≤ n := by
  intro n
  induction n with
  | zero => intro h; cases h
  | succ n ih =>
    intro h
    simp only [firstSome] at h
    cases hk : firstSome f n with
    | some T' => rw [hk] at h; obtain rfl := Option.some.inj h; have := ih hk; omega
    | none => rw [hk] at h; have := hf n T h; omega
theorem allW_snoc (k : Nat) : allN (k + 1) = allN k ++ [(k : Int)] := selD_yes rfl
theorem allW_len : ∀ k, (allN k).length = k := by
  intro k
  induction k with
  | zero => rfl
  | succ k ih => rw [allW_snoc, List.length_append, ih]; rfl
noncomputable def fewestPlacesV (b l o s m wall : Int) (ws : List Wn) : List Int × Bool := if ladOk b l o s m = true ∧ inB wall 0 200 = true ∧ wnOk ws = true then optL (firstSome (fun n => srchS (mskL (ptAll b o l.toNat s.toNat m.toNat) wall ws 13) (2 ^ ws.length - 1) n 0 0) 4) else ([], false)
theorem fewestPlacesV_no0 {b l o s m wall : Int} {ws : List Wn} (h : ladOk b l o s m = false) : fewestPlacesV b l o s m wall ws = ([], false) := by unfold fewestPlacesV; rw [if_neg (fun k => by have := k.1; rw [h] at this; simp at this)]
theorem fewestPlacesV_no1 {b l o s m wall : Int} {ws : List Wn} (h : inB wall 0 200 = false) : fewestPlacesV b l o s m wall ws = ([], false) := by unfold fewestPlacesV; rw [if_neg (fun k => by have := k.2.1; rw [h] at this; simp at this)]
theorem fewestPlacesV_no9 {b l o s m wall : Int} {ws : List Wn} (h : wnOk ws = false) : fewestPlacesV b l o s m wall ws = ([], false) := by unfold fewestPlacesV; rw [if_neg (fun k => by have := k.2.2; rw [h] at this; simp at this)]
theorem fewestPlacesV_yes {b o wall : Int} {L S M : Nat} {ws : List Wn} (h : ladOk b L o S M = true) (k0 : inB wall 0 200 = true) (hw : wnOk ws = true) : fewestPlacesV b L o S M wall ws = optL (firstSome (fun n => srchS (mskL (ptAll b o L S M) wall ws 13) (2 ^ ws.length - 1) n 0 0) 4) := by unfold fewestPlacesV; rw [if_pos ⟨h, k0, hw⟩]; simp only [Int.toNat_natCast]
theorem fewestPlacesV_len (b l o s m wall : Int) (ws : List Wn) : (fewestPlacesV b l o s m wall ws).1.length ≤ 1000000 := by
  unfold fewestPlacesV
  split
  · cases h : firstSome (fun n => srchS (mskL (ptAll b o l.toNat s.toNat m.toNat) wall ws 13) (2 ^ ws.length - 1) n 0 0) 4 with
    | none => simp [optL]
    | some T =>
      have := firstSome_len (fun n T h => srchS_len _ _ n 0 0 T h) h
      simp only [optL]; omega
  · dsimp only; simp
set_option maxRecDepth 100000 in
set_option maxHeartbeats 2000000 in
theorem fewestPlacesI_c (b l o s m wall : Int) (v : Value) (ws : List Wn) (w : World) (hr : Rd w v ws.length (ws.flatMap Wn.cells)) (ht : SinTab w) :
    Calls Tryd.prog 46 #[ldV b l o s m, .int .i64 wall, v] w (OwnIB (fewestPlacesV b l o s m wall ws) w) := by
  have HV : ∀ r, fewestPlacesV b l o s m wall ws = r → Hid (fewestPlacesV b l o s m wall ws = r) := fun r h => Lib.hid h
  have HRW := Lib.hid hr
  obtain ⟨A, c, rfl, hc9, hm9, _⟩ := hr
  rw [maxLen_eq] at hm9
  cases hok : ladOk b l o s m with
  | false =>
    have hv := HV _ (fewestPlacesV_no0 hok)
    go_enter Tryd.func46, Tryd.ntmps46
    go_wp2_with (first | (go_at_call 56; refine (isLadder_c _ _ _ _ _ _).mono ?_; rintro e w' ⟨rfl, hb1⟩; have hz1 : w.heap.size < w'.heap.size := Nat.lt_of_lt_of_le (by first | assumption | (simp; done) | (simp; assumption)) hb1.size; have k0 : w'.cell? ⟨w.heap.size, 0, none⟩ = some (.int .i64 b) := (hb1.cell (by first | assumption | (simp; done) | (simp; assumption))).trans (by first | assumption | (simp [go_sem]; done)); have k1 : w'.cell? ⟨w.heap.size, 1, none⟩ = some (.int .i64 l) := (hb1.cell (by first | assumption | (simp; done) | (simp; assumption))).trans (by first | assumption | (simp [go_sem]; done)); have k2 : w'.cell? ⟨w.heap.size, 2, none⟩ = some (.int .i64 o) := (hb1.cell (by first | assumption | (simp; done) | (simp; assumption))).trans (by first | assumption | (simp [go_sem]; done)); have k3 : w'.cell? ⟨w.heap.size, 3, none⟩ = some (.int .i64 s) := (hb1.cell (by first | assumption | (simp; done) | (simp; assumption))).trans (by first | assumption | (simp [go_sem]; done)); have k4 : w'.cell? ⟨w.heap.size, 4, none⟩ = some (.int .i64 m) := (hb1.cell (by first | assumption | (simp; done) | (simp; assumption))).trans (by first | assumption | (simp [go_sem]; done))) | (go_at_call 57; refine (inside_c _ _ _ _).mono ?_; rintro e w' ⟨rfl, rfl⟩))
    go_ret2
    rw [hv.out]
    exact ⟨_, rfl, World.ownsRow_nil _ _ _ _, (by repeat (first | exact Below.refl _ _ | assumption | refine bel_al ?_ _ | refine bel_dr ?_ | refine below_drewN ?_ _ | refine bel_then ?_ (by assumption)))⟩
  | true =>
    obtain ⟨b0, b1, l0, l1, o0, o1, s0, s1, m1⟩ := ladOk_true hok
    cases hp0 : inB wall 0 200 with
    | false =>
      have hv := HV _ (fewestPlacesV_no1 hp0)
      go_enter Tryd.func46, Tryd.ntmps46
      go_wp2_with (first | (go_at_call 56; refine (isLadder_c _ _ _ _ _ _).mono ?_; rintro e w' ⟨rfl, hb1⟩; have hz1 : w.heap.size < w'.heap.size := Nat.lt_of_lt_of_le (by first | assumption | (simp; done) | (simp; assumption)) hb1.size; have k0 : w'.cell? ⟨w.heap.size, 0, none⟩ = some (.int .i64 b) := (hb1.cell (by first | assumption | (simp; done) | (simp; assumption))).trans (by first | assumption | (simp [go_sem]; done)); have k1 : w'.cell? ⟨w.heap.size, 1, none⟩ = some (.int .i64 l) := (hb1.cell (by first | assumption | (simp; done) | (simp; assumption))).trans (by first | assumption | (simp [go_sem]; done)); have k2 : w'.cell? ⟨w.heap.size, 2, none⟩ = some (.int .i64 o) := (hb1.cell (by first | assumption | (simp; done) | (simp; assumption))).trans (by first | assumption | (simp [go_sem]; done)); have k3 : w'.cell? ⟨w.heap.size, 3, none⟩ = some (.int .i64 s) := (hb1.cell (by first | assumption | (simp; done) | (simp; assumption))).trans (by first | assumption | (simp [go_sem]; done)); have k4 : w'.cell? ⟨w.heap.size, 4, none⟩ = some (.int .i64 m) := (hb1.cell (by first | assumption | (simp; done) | (simp; assumption))).trans (by first | assumption | (simp [go_sem]; done))) | (go_at_call 57; refine (inside_c _ _ _ _).mono ?_; rintro e w' ⟨rfl, rfl⟩))
      go_ret2
      rw [hv.out]
      exact ⟨_, rfl, World.ownsRow_nil _ _ _ _, (by repeat (first | exact Below.refl _ _ | assumption | refine bel_al ?_ _ | refine bel_dr ?_ | refine below_drewN ?_ _ | refine bel_then ?_ (by assumption)))⟩
    | true =>
      have hq0 := inB_true hp0
      obtain ⟨L, rfl⟩ : ∃ L : Nat, l = (L : Int) := ⟨l.toNat, by omega⟩
      obtain ⟨S, rfl⟩ : ∃ S : Nat, s = (S : Int) := ⟨s.toNat, by omega⟩
      obtain ⟨M, rfl⟩ : ∃ M : Nat, m = (M : Int) := ⟨m.toNat, by omega⟩
      have HT := Lib.hid ht
      clear ht
      have HWV : ∀ r, wnOk ws = r → Hid (wnOk ws = r) := fun r h => Lib.hid h
      go_enter Tryd.func46, Tryd.ntmps46
      go_wp2_with (first | (go_at_call 56; refine (isLadder_c _ _ _ _ _ _).mono ?_; rintro e w' ⟨rfl, hb1⟩; have hz1 : w.heap.size < w'.heap.size := Nat.lt_of_lt_of_le (by first | assumption | (simp; done) | (simp; assumption)) hb1.size; have k0 : w'.cell? ⟨w.heap.size, 0, none⟩ = some (.int .i64 b) := (hb1.cell (by first | assumption | (simp; done) | (simp; assumption))).trans (by first | assumption | (simp [go_sem]; done)); have k1 : w'.cell? ⟨w.heap.size, 1, none⟩ = some (.int .i64 (L : Int)) := (hb1.cell (by first | assumption | (simp; done) | (simp; assumption))).trans (by first | assumption | (simp [go_sem]; done)); have k2 : w'.cell? ⟨w.heap.size, 2, none⟩ = some (.int .i64 o) := (hb1.cell (by first | assumption | (simp; done) | (simp; assumption))).trans (by first | assumption | (simp [go_sem]; done)); have k3 : w'.cell? ⟨w.heap.size, 3, none⟩ = some (.int .i64 (S : Int)) := (hb1.cell (by first | assumption | (simp; done) | (simp; assumption))).trans (by first | assumption | (simp [go_sem]; done)); have k4 : w'.cell? ⟨w.heap.size, 4, none⟩ = some (.int .i64 (M : Int)) := (hb1.cell (by first | assumption | (simp; done) | (simp; assumption))).trans (by first | assumption | (simp [go_sem]; done))) | (go_at_call 57; refine (inside_c _ _ _ _).mono ?_; rintro e w' ⟨rfl, rfl⟩))
      have HBX : Hid (Below w.heap.size w w') := Lib.hid (bel_then (bel_al (Below.refl _ _) _) hb1)
      obtain ⟨wX, rfl⟩ : ∃ wX : World, wX = w' := ⟨_, rfl⟩
      refine (areWindows_c _ ws _ (rd_below HRW.out HBX.out)).mono ?_; rintro e w3 ⟨rfl, hb3⟩
      have j0 := (hb3.cell (p := ⟨w.heap.size, 0, none⟩) (by show w.heap.size < _; omega)).trans k0
      have j1 := (hb3.cell (p := ⟨w.heap.size, 1, none⟩) (by show w.heap.size < _; omega)).trans k1
      have j2 := (hb3.cell (p := ⟨w.heap.size, 2, none⟩) (by show w.heap.size < _; omega)).trans k2
      have j3 := (hb3.cell (p := ⟨w.heap.size, 3, none⟩) (by show w.heap.size < _; omega)).trans k3
      have j4 := (hb3.cell (p := ⟨w.heap.size, 4, none⟩) (by show w.heap.size < _; omega)).trans k4
      have HB3 := Lib.hid (bel_then HBX.out hb3)
      have hs3 : w.heap.size < w3.heap.size := World.block_lt_of_cell? w3 _ j0
      clear k0 k1 k2 k3 k4 hb1 hz1 HBX hb3
      cases hwn : wnOk ws with
      | false =>
        have hv := HV _ (fewestPlacesV_no9 hwn)
        go_wp2
        go_ret2
        rw [hv.out]
        exact ⟨_, rfl, World.ownsRow_nil _ _ _ _, HB3.out⟩
      | true =>
        have HWN := Lib.hid hwn
        have hv := HV _ (fewestPlacesV_yes hok hp0 hwn)
        clear HV hwn
        go_wp2_with fail
        refine (reach_c b o L S M _ ⟨b0, b1⟩ (by omega) ⟨o0, o1⟩ (by omega) (by omega) (sinTab_below HT.out HB3.out)).mono ?_; rintro e w4 ⟨B, n, D, rfl, hB, hn, hM, hD, hb4⟩
        have HB4 := Lib.hid (bel_then HB3.out hb4)
        have HM := Lib.hid hM
        have HD := Lib.hid hD
        have hs4 := hb4.size
        clear hM hD hb4
        obtain ⟨R, hR⟩ : ∃ R, firstSome (fun n => srchS (mskL (ptAll b o L S M) wall ws 13) (2 ^ ws.length - 1) n 0 0) 4 = R := ⟨_, rfl⟩
        have hfp := fewestPlaces_c B n D _ wall _ ws _ HM.out HD.out hq0 HWN.out (rd_below HRW.out HB4.out)
        rw [hR] at hfp hv
        have HFP := Lib.hid hfp
        clear hfp hR
        go_wp2_with fail
        refine HFP.out.mono ?_; intro e w5 hh; obtain ⟨x, rfl, ho, hb5⟩ := ownIB_open hh; clear hh
        have HB5 := Lib.hid (bel_then HB4.out hb5)
        have HO5 := Lib.hid (own_base ho (show w.heap.size ≤ w4.heap.size by omega))
        clear ho hb5
        go_wp2
        go_ret2
        rw [hv.out]
        exact ⟨_, rfl, HO5.out, HB5.out⟩
set_option maxRecDepth 100000 in
set_option maxHeartbeats 2000000 in
theorem fewestPlacesS_c (b l o s m wall : Int) (v : Value) (ws : List Wn) (w : World) (hr : Rd w v ws.length (ws.flatMap Wn.cells)) :
    Calls Tryd.prog 45 #[ldV b l o s m, .int .i64 wall, v] w (OwnIB (fewestPlacesV b l o s m wall ws) w) := by
  have HV : ∀ r, fewestPlacesV b l o s m wall ws = r → Hid (fewestPlacesV b l o s m wall ws = r) := fun r h => Lib.hid h
  have HRW := Lib.hid hr
  obtain ⟨A, c, rfl, hc9, hm9, _⟩ := hr
  rw [maxLen_eq] at hm9
  cases hok : ladOk b l o s m with
  | false =>
    have hv := HV _ (fewestPlacesV_no0 hok)
    go_enter Tryd.func45, Tryd.ntmps45
    go_wp2_with (first | (go_at_call 53; refine (laGood_c _ _ _ _ _ _).mono ?_; rintro e w' ⟨rfl, hb1⟩; have hz1 : w.heap.size < w'.heap.size := Nat.lt_of_lt_of_le (by first | assumption | (simp; done) | (simp; assumption)) hb1.size; have k0 : w'.cell? ⟨w.heap.size, 0, none⟩ = some (.int .i64 b) := (hb1.cell (by first | assumption | (simp; done) | (simp; assumption))).trans (by first | assumption | (simp [go_sem]; done)); have k1 : w'.cell? ⟨w.heap.size, 1, none⟩ = some (.int .i64 l) := (hb1.cell (by first | assumption | (simp; done) | (simp; assumption))).trans (by first | assumption | (simp [go_sem]; done)); have k2 : w'.cell? ⟨w.heap.size, 2, none⟩ = some (.int .i64 o) := (hb1.cell (by first | assumption | (simp; done) | (simp; assumption))).trans (by first | assumption | (simp [go_sem]; done)); have k3 : w'.cell? ⟨w.heap.size, 3, none⟩ = some (.int .i64 s) := (hb1.cell (by first | assumption | (simp; done) | (simp; assumption))).trans (by first | assumption | (simp [go_sem]; done)); have k4 : w'.cell? ⟨w.heap.size, 4, none⟩ = some (.int .i64 m) := (hb1.cell (by first | assumption | (simp; done) | (simp; assumption))).trans (by first | assumption | (simp [go_sem]; done))) | (go_at_call 59; refine (laPoint_c _ _).mono ?_; rintro e w' ⟨rfl, rfl⟩) | (go_at_call 64; refine (laWall_c _ _).mono ?_; rintro e w' ⟨rfl, rfl⟩))
    go_ret2
    rw [hv.out]
    exact ⟨_, rfl, World.ownsRow_nil _ _ _ _, (by repeat (first | exact Below.refl _ _ | assumption | refine bel_al ?_ _ | refine bel_dr ?_ | refine below_drewN ?_ _ | refine bel_then ?_ (by assumption)))⟩
  | true =>
    obtain ⟨b0, b1, l0, l1, o0, o1, s0, s1, m1⟩ := ladOk_true hok
    cases hp0 : inB wall 0 200 with
    | false =>
      have hv := HV _ (fewestPlacesV_no1 hp0)
      go_enter Tryd.func45, Tryd.ntmps45
      go_wp2_with (first | (go_at_call 53; refine (laGood_c _ _ _ _ _ _).mono ?_; rintro e w' ⟨rfl, hb1⟩; have hz1 : w.heap.size < w'.heap.size := Nat.lt_of_lt_of_le (by first | assumption | (simp; done) | (simp; assumption)) hb1.size; have k0 : w'.cell? ⟨w.heap.size, 0, none⟩ = some (.int .i64 b) := (hb1.cell (by first | assumption | (simp; done) | (simp; assumption))).trans (by first | assumption | (simp [go_sem]; done)); have k1 : w'.cell? ⟨w.heap.size, 1, none⟩ = some (.int .i64 l) := (hb1.cell (by first | assumption | (simp; done) | (simp; assumption))).trans (by first | assumption | (simp [go_sem]; done)); have k2 : w'.cell? ⟨w.heap.size, 2, none⟩ = some (.int .i64 o) := (hb1.cell (by first | assumption | (simp; done) | (simp; assumption))).trans (by first | assumption | (simp [go_sem]; done)); have k3 : w'.cell? ⟨w.heap.size, 3, none⟩ = some (.int .i64 s) := (hb1.cell (by first | assumption | (simp; done) | (simp; assumption))).trans (by first | assumption | (simp [go_sem]; done)); have k4 : w'.cell? ⟨w.heap.size, 4, none⟩ = some (.int .i64 m) := (hb1.cell (by first | assumption | (simp; done) | (simp; assumption))).trans (by first | assumption | (simp [go_sem]; done))) | (go_at_call 59; refine (laPoint_c _ _).mono ?_; rintro e w' ⟨rfl, rfl⟩) | (go_at_call 64; refine (laWall_c _ _).mono ?_; rintro e w' ⟨rfl, rfl⟩))
      go_ret2
      rw [hv.out]
      exact ⟨_, rfl, World.ownsRow_nil _ _ _ _, (by repeat (first | exact Below.refl _ _ | assumption | refine bel_al ?_ _ | refine bel_dr ?_ | refine below_drewN ?_ _ | refine bel_then ?_ (by assumption)))⟩
    | true =>
      have hq0 := inB_true hp0
      obtain ⟨L, rfl⟩ : ∃ L : Nat, l = (L : Int) := ⟨l.toNat, by omega⟩
      obtain ⟨S, rfl⟩ : ∃ S : Nat, s = (S : Int) := ⟨s.toNat, by omega⟩
      obtain ⟨M, rfl⟩ : ∃ M : Nat, m = (M : Int) := ⟨m.toNat, by omega⟩
      have HWV : ∀ r, wnOk ws = r → Hid (wnOk ws = r) := fun r h => Lib.hid h
      go_enter Tryd.func45, Tryd.ntmps45
      go_wp2_with (first | (go_at_call 53; refine (laGood_c _ _ _ _ _ _).mono ?_; rintro e w' ⟨rfl, hb1⟩; have hz1 : w.heap.size < w'.heap.size := Nat.lt_of_lt_of_le (by first | assumption | (simp; done) | (simp; assumption)) hb1.size; have k0 : w'.cell? ⟨w.heap.size, 0, none⟩ = some (.int .i64 b) := (hb1.cell (by first | assumption | (simp; done) | (simp; assumption))).trans (by first | assumption | (simp [go_sem]; done)); have k1 : w'.cell? ⟨w.heap.size, 1, none⟩ = some (.int .i64 (L : Int)) := (hb1.cell (by first | assumption | (simp; done) | (simp; assumption))).trans (by first | assumption | (simp [go_sem]; done)); have k2 : w'.cell? ⟨w.heap.size, 2, none⟩ = some (.int .i64 o) := (hb1.cell (by first | assumption | (simp; done) | (simp; assumption))).trans (by first | assumption | (simp [go_sem]; done)); have k3 : w'.cell? ⟨w.heap.size, 3, none⟩ = some (.int .i64 (S : Int)) := (hb1.cell (by first | assumption | (simp; done) | (simp; assumption))).trans (by first | assumption | (simp [go_sem]; done)); have k4 : w'.cell? ⟨w.heap.size, 4, none⟩ = some (.int .i64 (M : Int)) := (hb1.cell (by first | assumption | (simp; done) | (simp; assumption))).trans (by first | assumption | (simp [go_sem]; done))) | (go_at_call 59; refine (laPoint_c _ _).mono ?_; rintro e w' ⟨rfl, rfl⟩) | (go_at_call 64; refine (laWall_c _ _).mono ?_; rintro e w' ⟨rfl, rfl⟩))
      have HBX : Hid (Below w.heap.size w w') := Lib.hid (bel_then (bel_al (Below.refl _ _) _) hb1)
      obtain ⟨wX, rfl⟩ : ∃ wX : World, wX = w' := ⟨_, rfl⟩
      refine (laWindows_c _ ws _ (rd_below HRW.out HBX.out)).mono ?_; rintro e w3 ⟨rfl, hb3⟩
      have j0 := (hb3.cell (p := ⟨w.heap.size, 0, none⟩) (by show w.heap.size < _; omega)).trans k0
      have j1 := (hb3.cell (p := ⟨w.heap.size, 1, none⟩) (by show w.heap.size < _; omega)).trans k1
      have j2 := (hb3.cell (p := ⟨w.heap.size, 2, none⟩) (by show w.heap.size < _; omega)).trans k2
      have j3 := (hb3.cell (p := ⟨w.heap.size, 3, none⟩) (by show w.heap.size < _; omega)).trans k3
      have j4 := (hb3.cell (p := ⟨w.heap.size, 4, none⟩) (by show w.heap.size < _; omega)).trans k4
      have HB3 := Lib.hid (bel_then HBX.out hb3)
      have hs3 : w.heap.size < w3.heap.size := World.block_lt_of_cell? w3 _ j0
      clear k0 k1 k2 k3 k4 hb1 hz1 HBX hb3
      cases hwn : wnOk ws with
      | false =>
        have hv := HV _ (fewestPlacesV_no9 hwn)
        go_wp2
        go_ret2
        rw [hv.out]
        exact ⟨_, rfl, World.ownsRow_nil _ _ _ _, HB3.out⟩
      | true =>
        have HWN := Lib.hid hwn
        have hv := HV _ (fewestPlacesV_yes hok hp0 hwn)
        clear HV hwn
        obtain ⟨F, hF⟩ : ∃ F, ptAll b o L S M = F := ⟨_, rfl⟩
        rw [hF, ← few_both] at hv
        have HF := Lib.hid hF
        clear hF
        obtain ⟨i0, hi, hz0, hz1, hz2⟩ := info_parts Tryd.infoInt
        obtain ⟨iS, hiS, hzS0, hzS1, hzS2⟩ := info_parts Tryd.infoSS
        have hl12 := (wnOk_true HWN.out).2
        go_wp2_with fail
        go_loopw [8, 9] (fun v8 v9 wr => ∃ (k : Nat) (vs : List Value) (ls : List (List Int)), k ≤ 13 ∧ ls.length = k ∧ v9 = .int .i64 (50 * (k : Int)) ∧ Hid (rowsP F wall ws k = ls) ∧ Hid (SSv wr w3.heap.size v8 vs ls) ∧ Hid (Below w3.heap.size w3 wr)) (fun _ v9 _ => (700 - intOf v9).toNat)
        case atStart => exact ⟨0, [], [], Nat.zero_le _, rfl, rfl, Lib.hid rfl, Lib.hid (SSv.nil _ _), Lib.hid (Below.refl _ _)⟩
        case round =>
         obtain ⟨k, vs, ls, hk, hLk, rfl, HLS, HSV, HB⟩ := hrel
         obtain ⟨wA, rfl⟩ : ∃ wA : World, wA = wr := ⟨_, rfl⟩
         obtain ⟨AV, cV, hxV, hcV, hmV, _⟩ := own_rd HSV.out.outer
         rw [maxLen_eq] at hmV
         have hsA := HB.out.size
         have HBB := Lib.hid (bel_then HB3.out HB.out)
         have HLL := Lib.hid hLk
         have hl13 : ls.length ≤ 13 := by omega
         clear hLk
         by_cases hlt : k < 13
         · have hle : 50 * (k : Int) ≤ 600 := by omega
           have eK : IntKind.i64.wrap (50 * (k : Int) + 50) = 50 * ((k + 1 : Nat) : Int) := by rw [IntWalk.i64_in _ (by omega)]; omega
           have HI : Hid ((700 - intOf (.int .i64 (50 * ((k + 1 : Nat) : Int)))).toNat < (700 - intOf (.int .i64 (50 * (k : Int)))).toNat) := Lib.hid (by simp [intOf]; omega)
           have HI1 : Hid (k + 1 ≤ 13) := Lib.hid (by omega)
           have r0 := (HB.out.cell (p := ⟨w.heap.size, 0, none⟩) (by show w.heap.size < _; omega)).trans j0
           have r1 := (HB.out.cell (p := ⟨w.heap.size, 1, none⟩) (by show w.heap.size < _; omega)).trans j1
           have r2 := (HB.out.cell (p := ⟨w.heap.size, 2, none⟩) (by show w.heap.size < _; omega)).trans j2
           have r3 := (HB.out.cell (p := ⟨w.heap.size, 3, none⟩) (by show w.heap.size < _; omega)).trans j3
           have r4 := (HB.out.cell (p := ⟨w.heap.size, 4, none⟩) (by show w.heap.size < _; omega)).trans j4
           have hfr := laFrom_c b o L S M wall (50 * (k : Int)) _ ws _ ⟨b0, b1⟩ (by omega) ⟨o0, o1⟩ (by omega) (by omega) hq0 (by omega) HWN.out (rd_below HRW.out HBB.out)
           rw [HF.out] at hfr
           obtain ⟨R, hR⟩ : ∃ R, selD (winP F wall (50 * (k : Int)) ws) ws.length = R := ⟨_, rfl⟩
           have HLN : Hid (rowsP F wall ws (k + 1) = ls ++ [R]) := Lib.hid (by rw [rowsP_snoc, HLS.out, hR])
           rw [hR] at hfr
           have HFR := Lib.hid hfr
           clear hfr hR
           subst hxV
           go_wp2_with fail
           refine HFR.out.mono ?_; rintro e w5 ⟨x, rfl, ho, hb5⟩
           obtain ⟨A3, c3, hx3, hc3, hm3, _⟩ := own_rd ho
           subst hx3
           rw [maxLen_eq] at hm3
           have HO5 := Lib.hid ho
           have HSV5 := Lib.hid (HSV.out.below hb5)
           have HB5 := Lib.hid (bel_then HB.out hb5)
           have hs5 := hb5.size
           have HLT := Lib.hid HSV.out.lt
           clear ho hb5 r0 r1 r2 r3 r4
           go_wp2_with (at_builtin; refine wpList_app_rd _ rfl _ _ 96 rfl w3.heap.size 22 iS (.slice none 0 0) 1 24 Tryd.underlying96 hiS hzS0 hzS1 hzS2 rfl (by decide) _ _ _ rfl (HSV5.out.outer.alloc _) _ 1 [.slice A3 R.length c3] rfl (rd_new _ rfl (Nat.le_refl _) (by rw [maxLen_eq]; omega)) rfl (by simp [Value.oneCell']) (by rw [maxLen_eq]; omega) (by omega) (by simp; omega) ?_; intro v' w7 hown' hgrow he)
           have hal := bel_al (Below.refl w5.heap.size w5) (.cells #[.slice A3 R.length c3] 22)
           have HPU : Hid (SSv w7 w3.heap.size v' (vs ++ [.slice A3 R.length c3]) (ls ++ [R])) := Lib.hid (by
             refine (HSV5.out.below hal).push (own_base (own_below HO5.out hal) (by omega)) (fun q q' e1 e2 => ?_) (fun i z hz q q' e1 e2 => ?_) hown' hgrow he
             · have h1 := (HLT.out.1 q e1).2
               have h2 := (HO5.out.lt q' e2).1
               omega
             · have h1 := (HLT.out.2 i z hz q e1).2
               have h2 := (HO5.out.lt q' e2).1
               omega)
           exact ⟨⟨k + 1, _, ls ++ [R], HI1.out, by rw [List.length_append, HLL.out]; rfl, by first | rfl | go_num, HLN, HPU, Lib.hid (bel_grown (bel_al HB5.out _) hgrow (fun q e => (HSV5.out.lt.1 q e).1))⟩, HI.out⟩
         · obtain rfl : k = 13 := by omega
           subst hxV
           have h650 : (50 * ((13 : Nat) : Int)) = 650 := by omega
           rw [h650]
           clear h650
           rw [HLS.out] at hv
           have HSS := Lib.hid HSV.out.rd
           go_wp2_with fail
           go_loopw [10, 42] (fun v10 v42 wr => ∃ (j : Nat), j ≤ ws.length ∧ v42 = .int .i64 j ∧ Hid (wr.ownsRow wA.heap.size 3 1 v10 j (ints (allN j))) ∧ Hid (Below wA.heap.size wA wr)) (fun _ v42 _ => ws.length - (intOf v42).toNat)
           case atStart => exact ⟨0, Nat.zero_le _, rfl, Lib.hid (show wA.ownsRow wA.heap.size 3 1 (.slice none 0 0) 0 [] from World.ownsRow_nil _ _ _ _), Lib.hid (Below.refl _ _)⟩
           case round =>
            obtain ⟨j, hj, rfl, HO, HBL⟩ := hrel
            obtain ⟨wB, rfl⟩ : ∃ wB : World, wB = wr := ⟨_, rfl⟩
            have hsB := HBL.out.size
            have hal2 := allW_len j
            by_cases hjl : j < ws.length
            · have q1 : (j : Int) < (ws.length : Int) := by omega
              have HAL : Hid (ints (allN (j + 1)) = ints (allN j) ++ [.int .i64 (j : Int)]) := Lib.hid (by rw [allW_snoc, ints_append]; rfl)
              have hil : (ints (allN j)).length = j := by rw [ints_len]; exact hal2
              clear hal2
              go_wp2_with (at_builtin; refine wpList_app_rd _ rfl _ _ 22 rfl wA.heap.size 3 i0 (.int .i64 0) 1 8 Tryd.underlying22 hi hz0 hz1 hz2 rfl (by decide) _ _ _ rfl (HO.out.alloc _) _ 1 [.int .i64 j] rfl (rd_new _ rfl (Nat.le_refl _) (by rw [maxLen_eq]; omega)) rfl (ints_one [(j : Int)]) (by rw [maxLen_eq]; omega) (by omega) (by simp; omega) ?_; intro v7 w7 hown7 hgrow7 he7)
              exact ⟨⟨j + 1, by omega, by go_num, Lib.hid (by rw [HAL.out]; exact hown7), Lib.hid (bel_grown (bel_al HBL.out _) hgrow7 (fun q e => (HO.out.lt q e).1))⟩, by simp [intOf]; omega⟩
            · obtain rfl : j = ws.length := by omega
              have hru : RdI wB u10 (allN ws.length) := by unfold RdI; rw [hal2]; exact own_rd HO.out
              obtain ⟨AL, hAL⟩ : ∃ AL, allN ws.length = AL := ⟨_, rfl⟩
              rw [hAL] at hru hal2 hv
              have HRU := Lib.hid hru
              have HSB := Lib.hid (RdSS.below ⟨_, HSS.out⟩ HBL.out)
              have HALL := Lib.hid hal2
              obtain ⟨GF, hG⟩ : ∃ GF : Nat → Option (List Int), GF = fun n => covS ls n 0 AL := ⟨_, rfl⟩
              have HGE : Hid (∀ n, GF n = covS ls n 0 AL) := Lib.hid (fun n => by rw [hG])
              rw [← hG] at hv
              have HBW := Lib.hid (bel_then HBB.out HBL.out)
              clear hru hal2 hG hAL
              go_wp2_with fail
              go_loopw [12] (fun v12 wr => ∃ (k : Nat), k ≤ 4 ∧ v12 = .int .i64 k ∧ Hid (firstSome GF k = none) ∧ Hid (Below wB.heap.size wB wr)) (fun v12 _ => 4 - (intOf v12).toNat)
              case atStart => exact ⟨0, by omega, rfl, Lib.hid rfl, Lib.hid (Below.refl _ _)⟩
              case round =>
               obtain ⟨k, hk4, rfl, HK, HBX⟩ := hrel
               obtain ⟨wC, rfl⟩ : ∃ wC : World, wC = wr := ⟨_, rfl⟩
               by_cases hk3 : k < 4
               · have hk3z : (k : Int) ≤ 3 := by omega
                 have hc := laCover_c _ ls (by have := HLL.out; omega) k 0 _ AL wC (by omega) (Nat.zero_le _) (by have := HALL.out; omega) (HSB.out.below HBX.out) (rdi_below HRU.out HBX.out)
                 rw [← HGE.out k] at hc
                 cases hR : GF k with
                 | some T =>
                   rw [hR] at hc
                   have HC := Lib.hid hc
                   have HV2 : Hid (firstSome GF 4 = some T) := Lib.hid (firstSome_more (show k + 1 ≤ 4 by omega) (by rw [firstSome_succ_none HK.out]; exact hR))
                   clear hc hR
                   go_wp2_with fail
                   refine HC.out.mono ?_; intro e w9 hh; obtain ⟨x9, rfl, ho9, hb9⟩ := ownIB_open hh; clear hh
                   have HO9 := Lib.hid ho9
                   have HB9 := Lib.hid (bel_then HBX.out hb9)
                   have hsl := HBX.out.size
                   clear ho9 hb9
                   go_wp2
                   go_ret2
                   rw [hv.out, HV2.out]
                   exact ⟨_, rfl, own_base HO9.out (by omega), bel_then HBW.out HB9.out⟩
                 | none =>
                   rw [hR] at hc
                   have HC := Lib.hid hc
                   have HK2 : Hid (firstSome GF (k + 1) = none) := Lib.hid (by rw [firstSome_succ_none HK.out]; exact hR)
                   clear hc hR
                   go_wp2_with fail
                   refine HC.out.mono ?_; intro e w9 hh; obtain ⟨x9, rfl, ho9, hb9⟩ := ownIB_open hh; clear hh
                   have HB9 := Lib.hid (bel_then HBX.out hb9)
                   clear ho9 hb9
                   go_wp2
                   exact ⟨⟨k + 1, by omega, by go_num, HK2, HB9⟩, by simp [intOf]; omega⟩
               · obtain rfl : k = 4 := by omega
                 go_wp2
                 go_ret2
                 rw [hv.out, HK.out]
                 exact ⟨_, rfl, World.ownsRow_nil _ _ _ _, bel_then HBW.out HBX.out⟩
end Go.Proofs.YtibkadkodblefaaDoor
