/-
  BestPlace on both sides.
-/
import Derived.Test.YtibkadkodblefaaDoorLadY
import Derived.Test.YtibkadkodblefaaDoorAllI
import Derived.Test.YtibkadkodblefaaDoorSlc
import Derived.Test.YtibkadkodblefaaDoorDel
import Derived.Laws.EntriesVeiled
import Derived.Shelf.Abstract
namespace Go.Proofs.YtibkadkodblefaaDoor
open Go.RowKit Go.Maps

/-- The best place after k places: the first one of those with the most windows. -/
def bpF (s0 : Int) (cnt : Nat → Int) (blk : Nat → Bool) : Nat → Int × Int
  | 0 => (s0, -1)
  | k + 1 => if blk k = true then bpF s0 cnt blk k else if (bpF s0 cnt blk k).2 < cnt k then (10 * (k : Int), cnt k) else bpF s0 cnt blk k
theorem bpF_both {s0 s1 : Int} {cnt : Nat → Int} {blk : Nat → Bool} (hc : ∀ k, 0 ≤ cnt k) : ∀ k, (bpF s0 cnt blk k).2 = (bpF s1 cnt blk k).2 ∧ -1 ≤ (bpF s0 cnt blk k).2 ∧ (0 ≤ (bpF s0 cnt blk k).2 → (bpF s0 cnt blk k).1 = (bpF s1 cnt blk k).1) ∧ ((∃ j, j < k ∧ blk j = false) → 0 ≤ (bpF s0 cnt blk k).2) := by
  intro k
  induction k with
  | zero => refine ⟨rfl, by simp [bpF], fun h => by simp [bpF] at h, fun ⟨j, hj, _⟩ => by omega⟩
  | succ k ih =>
    obtain ⟨h1, h2, h3, h4⟩ := ih
    have hk := hc k
    simp only [bpF]
    cases hb : blk k with
    | true =>
      simp only [if_true]
      refine ⟨h1, h2, h3, fun ⟨j, hj, hj2⟩ => h4 ⟨j, ?_, hj2⟩⟩
      by_cases e : j = k
      · rw [e, hb] at hj2; cases hj2
      · omega
    | false =>
      simp only [Bool.false_eq_true, if_false]
      rw [← h1]
      by_cases hlt : (bpF s0 cnt blk k).2 < cnt k
      · rw [if_pos hlt, if_pos hlt]
        exact ⟨rfl, by dsimp only; omega, fun _ => rfl, fun _ => hk⟩
      · rw [if_neg hlt, if_neg hlt]
        exact ⟨h1, h2, h3, fun _ => by omega⟩
theorem bpF_bd {s0 : Int} {cnt : Nat → Int} {blk : Nat → Bool} (h0 : -1 ≤ s0 ∧ s0 ≤ 0) (hc : ∀ k, 0 ≤ cnt k ∧ cnt k ≤ 12) : ∀ k, k ≤ 61 → (-1 ≤ (bpF s0 cnt blk k).1 ∧ (bpF s0 cnt blk k).1 ≤ 610) ∧ -1 ≤ (bpF s0 cnt blk k).2 ∧ (bpF s0 cnt blk k).2 ≤ 12 := by
  intro k
  induction k with
  | zero => intro _; simp only [bpF]; omega
  | succ k ih =>
    intro hk
    have h := ih (by omega)
    have hk2 := hc k
    simp only [bpF]
    split
    · exact h
    · split
      · dsimp only; omega
      · exact h
theorem len_le_of_sub : ∀ (a b : List Int), a.Nodup → (∀ x ∈ a, x ∈ b) → a.length ≤ b.length := by
  intro a
  induction a with
  | nil => intro b _ _; simp
  | cons x a ih =>
    intro b hn hs
    obtain ⟨hx, hn⟩ := List.nodup_cons.1 hn
    have hxb := hs x (by simp)
    have h := ih (b.erase x) hn (fun y hy => (List.mem_erase_of_ne (fun e => hx (by rw [← e]; exact hy))).2 (hs y (by simp [hy])))
    rw [List.length_erase_of_mem hxb] at h
    have := List.length_pos_of_mem hxb
    rw [List.length_cons]; omega
def blkF (q : List Int) (k : Nat) : Bool := decide ((10 * (k : Int)) ∈ q)
theorem some_free {q : List Int} (h : q.length ≤ 20) : ∃ j, j < 61 ∧ blkF q j = false := by
  rcases Classical.em (∃ j, j < 61 ∧ blkF q j = false) with h1 | h1
  · exact h1
  · have h2 : ∀ j, j < 61 → blkF q j = true := fun j hj => by
      cases hb : blkF q j with
      | true => rfl
      | false => exact absurd ⟨j, hj, hb⟩ h1
    have h3 := len_le_of_sub ((List.range 61).map fun j : Nat => 10 * (j : Int)) q (by decide) (fun x hx => by
      obtain ⟨j, hj, rfl⟩ := List.mem_map.1 hx
      exact of_decide_eq_true (h2 j (List.mem_range.1 hj)))
    simp at h3
    omega
noncomputable def cntF (F : Pts) (wall : Int) (ws : List Wn) (k : Nat) : Int := ((selD (winP F wall (10 * (k : Int)) ws) ws.length).length : Int)
theorem cntF_bd {F : Pts} {wall : Int} {ws : List Wn} (h : ws.length ≤ 12) (k : Nat) : 0 ≤ cntF F wall ws k ∧ cntF F wall ws k ≤ 12 := by
  have := selD_len (winP F wall (10 * (k : Int)) ws) ws.length
  unfold cntF; omega
def b3 (r : Int × Int) : Int × Int × Bool := (r.1, r.2, true)
theorem any_not_all (q : List Int) (p : Int → Bool) : (q.any fun x => !p x) = !(q.all p) := by
  induction q with
  | nil => rfl
  | cons x q ih => rw [List.any_cons, List.all_cons, ih]; cases p x <;> rfl
theorem bp_law {F : Pts} {wall : Int} {ws : List Wn} {q : List Int} (hq : q.length ≤ 20) : bpF 0 (cntF F wall ws) (blkF q) 61 = bpF (-1) (cntF F wall ws) (blkF q) 61 := by
  obtain ⟨h1, _, h3, h4⟩ := bpF_both (s0 := 0) (s1 := -1) (cnt := cntF F wall ws) (blk := blkF q) (fun k => by unfold cntF; omega) 61
  exact Prod.ext (h3 (h4 (some_free hq))) h1
noncomputable def bestPlaceV (b l o s m wall : Int) (ws : List Wn) (q : List Int) : Int × Int × Bool := if ladOk b l o s m = true ∧ inB wall 0 200 = true ∧ wnOk ws = true ∧ q.length ≤ 20 ∧ (q.all fun n => inB n 0 600) = true then b3 (bpF (-1) (cntF (ptAll b o l.toNat s.toNat m.toNat) wall ws) (blkF q) 61) else (0, 0, false)
theorem bestPlaceV_no0 {b l o s m wall : Int} {ws : List Wn} {q : List Int} (h : ladOk b l o s m = false) : bestPlaceV b l o s m wall ws q = (0, 0, false) := by unfold bestPlaceV; rw [if_neg (fun k => by have := k.1; rw [h] at this; simp at this)]
theorem bestPlaceV_no1 {b l o s m wall : Int} {ws : List Wn} {q : List Int} (h : inB wall 0 200 = false) : bestPlaceV b l o s m wall ws q = (0, 0, false) := by unfold bestPlaceV; rw [if_neg (fun k => by have := k.2.1; rw [h] at this; simp at this)]
theorem bestPlaceV_no9 {b l o s m wall : Int} {ws : List Wn} {q : List Int} (h : wnOk ws = false) : bestPlaceV b l o s m wall ws q = (0, 0, false) := by unfold bestPlaceV; rw [if_neg (fun k => by have := k.2.2.1; rw [h] at this; simp at this)]
theorem bestPlaceV_nox {b l o s m wall : Int} {ws : List Wn} {q : List Int} (h : ¬ (q.length ≤ 20)) : bestPlaceV b l o s m wall ws q = (0, 0, false) := by unfold bestPlaceV; rw [if_neg (fun k => h k.2.2.2.1)]
theorem bestPlaceV_noy {b l o s m wall : Int} {ws : List Wn} {q : List Int} (h : ¬ ((q.all fun n => inB n 0 600) = true)) : bestPlaceV b l o s m wall ws q = (0, 0, false) := by unfold bestPlaceV; rw [if_neg (fun k => h k.2.2.2.2)]
theorem bestPlaceV_yes {b o wall : Int} {L S M : Nat} {ws : List Wn} {q : List Int} (h : ladOk b L o S M = true) (k0 : inB wall 0 200 = true) (hw : wnOk ws = true) (c0 : q.length ≤ 20) (c1 : (q.all fun n => inB n 0 600) = true) : bestPlaceV b L o S M wall ws q = b3 (bpF (-1) (cntF (ptAll b o L S M) wall ws) (blkF q) 61) := by unfold bestPlaceV; rw [if_pos ⟨h, k0, hw, c0, c1⟩]; simp only [Int.toNat_natCast]
set_option maxRecDepth 100000 in
set_option maxHeartbeats 400000 in
theorem bestF_c (n : Int) (w : World) : Calls Tryd.prog 74 #[.int .i64 n] w fun e w' => e = .returned (.bool (!inB n 0 600)) ∧ w = w' := by
  go_enter Tryd.func74, Tryd.ntmps74
  go_wp2_with (go_at_call 57; refine (inside_c _ _ _ _).mono ?_; rintro e w' ⟨rfl, rfl⟩)
  go_ret
  exact ⟨rfl, rfl⟩
set_option maxRecDepth 100000 in
set_option maxHeartbeats 2000000 in
theorem bestPlaceS_c (b l o s m wall : Int) (v : Value) (ws : List Wn) (u : Value) (q : List Int) (w : World) (hr : Rd w v ws.length (ws.flatMap Wn.cells)) (hqr : RdI w u q) :
    Calls Tryd.prog 36 #[ldV b l o s m, .int .i64 wall, v, u] w fun e w' => e = .returned (.tuple #[.int .i64 (bestPlaceV b l o s m wall ws q).1, .int .i64 (bestPlaceV b l o s m wall ws q).2.1, .bool (bestPlaceV b l o s m wall ws q).2.2]) ∧ Below w.heap.size w w' := by
  have HQ := Lib.hid hqr
  obtain ⟨A5, c5, rfl, hc5, hm5, _⟩ := hqr
  rw [maxLen_eq] at hm5
  have HV : ∀ r, bestPlaceV b l o s m wall ws q = r → Hid (bestPlaceV b l o s m wall ws q = r) := fun r h => Lib.hid h
  have HRW := Lib.hid hr
  obtain ⟨A, c, rfl, hc9, hm9, _⟩ := hr
  rw [maxLen_eq] at hm9
  cases hok : ladOk b l o s m with
  | false =>
    have hv := HV _ (bestPlaceV_no0 hok)
    go_enter Tryd.func36, Tryd.ntmps36
    go_wp2_with (first | (go_at_call 53; refine (laGood_c _ _ _ _ _ _).mono ?_; rintro e w' ⟨rfl, hb1⟩; have hz1 : w.heap.size < w'.heap.size := Nat.lt_of_lt_of_le (by first | assumption | (simp; done) | (simp; assumption)) hb1.size; have k0 : w'.cell? ⟨w.heap.size, 0, none⟩ = some (.int .i64 b) := (hb1.cell (by first | assumption | (simp; done) | (simp; assumption))).trans (by first | assumption | (simp [go_sem]; done)); have k1 : w'.cell? ⟨w.heap.size, 1, none⟩ = some (.int .i64 l) := (hb1.cell (by first | assumption | (simp; done) | (simp; assumption))).trans (by first | assumption | (simp [go_sem]; done)); have k2 : w'.cell? ⟨w.heap.size, 2, none⟩ = some (.int .i64 o) := (hb1.cell (by first | assumption | (simp; done) | (simp; assumption))).trans (by first | assumption | (simp [go_sem]; done)); have k3 : w'.cell? ⟨w.heap.size, 3, none⟩ = some (.int .i64 s) := (hb1.cell (by first | assumption | (simp; done) | (simp; assumption))).trans (by first | assumption | (simp [go_sem]; done)); have k4 : w'.cell? ⟨w.heap.size, 4, none⟩ = some (.int .i64 m) := (hb1.cell (by first | assumption | (simp; done) | (simp; assumption))).trans (by first | assumption | (simp [go_sem]; done))) | (go_at_call 59; refine (laPoint_c _ _).mono ?_; rintro e w' ⟨rfl, rfl⟩) | (go_at_call 64; refine (laWall_c _ _).mono ?_; rintro e w' ⟨rfl, rfl⟩))
    go_ret3
    rw [hv.out]
    exact ⟨rfl, (by repeat (first | exact Below.refl _ _ | assumption | refine bel_al ?_ _ | refine bel_dr ?_ | refine below_drewN ?_ _ | refine bel_then ?_ (by assumption)))⟩
  | true =>
    obtain ⟨b0, b1, l0, l1, o0, o1, s0, s1, m1⟩ := ladOk_true hok
    cases hp0 : inB wall 0 200 with
    | false =>
      have hv := HV _ (bestPlaceV_no1 hp0)
      go_enter Tryd.func36, Tryd.ntmps36
      go_wp2_with (first | (go_at_call 53; refine (laGood_c _ _ _ _ _ _).mono ?_; rintro e w' ⟨rfl, hb1⟩; have hz1 : w.heap.size < w'.heap.size := Nat.lt_of_lt_of_le (by first | assumption | (simp; done) | (simp; assumption)) hb1.size; have k0 : w'.cell? ⟨w.heap.size, 0, none⟩ = some (.int .i64 b) := (hb1.cell (by first | assumption | (simp; done) | (simp; assumption))).trans (by first | assumption | (simp [go_sem]; done)); have k1 : w'.cell? ⟨w.heap.size, 1, none⟩ = some (.int .i64 l) := (hb1.cell (by first | assumption | (simp; done) | (simp; assumption))).trans (by first | assumption | (simp [go_sem]; done)); have k2 : w'.cell? ⟨w.heap.size, 2, none⟩ = some (.int .i64 o) := (hb1.cell (by first | assumption | (simp; done) | (simp; assumption))).trans (by first | assumption | (simp [go_sem]; done)); have k3 : w'.cell? ⟨w.heap.size, 3, none⟩ = some (.int .i64 s) := (hb1.cell (by first | assumption | (simp; done) | (simp; assumption))).trans (by first | assumption | (simp [go_sem]; done)); have k4 : w'.cell? ⟨w.heap.size, 4, none⟩ = some (.int .i64 m) := (hb1.cell (by first | assumption | (simp; done) | (simp; assumption))).trans (by first | assumption | (simp [go_sem]; done))) | (go_at_call 59; refine (laPoint_c _ _).mono ?_; rintro e w' ⟨rfl, rfl⟩) | (go_at_call 64; refine (laWall_c _ _).mono ?_; rintro e w' ⟨rfl, rfl⟩))
      go_ret3
      rw [hv.out]
      exact ⟨rfl, (by repeat (first | exact Below.refl _ _ | assumption | refine bel_al ?_ _ | refine bel_dr ?_ | refine below_drewN ?_ _ | refine bel_then ?_ (by assumption)))⟩
    | true =>
      have hq0 := inB_true hp0
      obtain ⟨L, rfl⟩ : ∃ L : Nat, l = (L : Int) := ⟨l.toNat, by omega⟩
      obtain ⟨S, rfl⟩ : ∃ S : Nat, s = (S : Int) := ⟨s.toNat, by omega⟩
      obtain ⟨M, rfl⟩ : ∃ M : Nat, m = (M : Int) := ⟨m.toNat, by omega⟩
      have HWV : ∀ r, wnOk ws = r → Hid (wnOk ws = r) := fun r h => Lib.hid h
      go_enter Tryd.func36, Tryd.ntmps36
      go_wp2_with (first | (go_at_call 53; refine (laGood_c _ _ _ _ _ _).mono ?_; rintro e w' ⟨rfl, hb1⟩; have hz1 : w.heap.size < w'.heap.size := Nat.lt_of_lt_of_le (by first | assumption | (simp; done) | (simp; assumption)) hb1.size; have k0 : w'.cell? ⟨w.heap.size, 0, none⟩ = some (.int .i64 b) := (hb1.cell (by first | assumption | (simp; done) | (simp; assumption))).trans (by first | assumption | (simp [go_sem]; done)); have k1 : w'.cell? ⟨w.heap.size, 1, none⟩ = some (.int .i64 (L : Int)) := (hb1.cell (by first | assumption | (simp; done) | (simp; assumption))).trans (by first | assumption | (simp [go_sem]; done)); have k2 : w'.cell? ⟨w.heap.size, 2, none⟩ = some (.int .i64 o) := (hb1.cell (by first | assumption | (simp; done) | (simp; assumption))).trans (by first | assumption | (simp [go_sem]; done)); have k3 : w'.cell? ⟨w.heap.size, 3, none⟩ = some (.int .i64 (S : Int)) := (hb1.cell (by first | assumption | (simp; done) | (simp; assumption))).trans (by first | assumption | (simp [go_sem]; done)); have k4 : w'.cell? ⟨w.heap.size, 4, none⟩ = some (.int .i64 (M : Int)) := (hb1.cell (by first | assumption | (simp; done) | (simp; assumption))).trans (by first | assumption | (simp [go_sem]; done))) | (go_at_call 59; refine (laPoint_c _ _).mono ?_; rintro e w' ⟨rfl, rfl⟩) | (go_at_call 64; refine (laWall_c _ _).mono ?_; rintro e w' ⟨rfl, rfl⟩))
      have HBX : Hid (Below w.heap.size w w') := Lib.hid (bel_then (bel_al (Below.refl _ _) _) hb1)
      obtain ⟨wX, rfl⟩ : ∃ wX : World, wX = w' := ⟨_, rfl⟩
      refine (laWindows_c _ ws _ (rd_below HRW.out HBX.out)).mono ?_; rintro e w3 ⟨rfl, hb3⟩
      have j0 := (hb3.cell (p := ⟨w.heap.size, 0, none⟩) (by show w.heap.size < _; omega)).trans k0
      have j1 := (hb3.cell (p := ⟨w.heap.size, 1, none⟩) (by show w.heap.size < _; omega)).trans k1
      have j2 := (hb3.cell (p := ⟨w.heap.size, 2, none⟩) (by show w.heap.size < _; omega)).trans k2
      have j3 := (hb3.cell (p := ⟨w.heap.size, 3, none⟩) (by show w.heap.size < _; omega)).trans k3
      have j4 := (hb3.cell (p := ⟨w.heap.size, 4, none⟩) (by show w.heap.size < _; omega)).trans k4
      have HB3 := Lib.hid (bel_then HBX.out hb3)
      have hs3 : w.heap.size < w3.heap.size := World.block_lt_of_cell? w3 _ j0
      clear k0 k1 k2 k3 k4 hb1 hz1 HBX hb3
      cases hwn : wnOk ws with
      | false =>
        have hv := HV _ (bestPlaceV_no9 hwn)
        go_wp2
        go_ret3
        rw [hv.out]
        exact ⟨rfl, HB3.out⟩
      | true =>
        have HWN := Lib.hid hwn
        by_cases h20 : q.length ≤ 20
        · have hz20 : (q.length : Int) ≤ 20 := by omega
          have hn20 : decide ((20 : Int) < (q.length : Int)) = false := decide_eq_false (by omega)
          go_wp2_with fail
          refine (l1All_c _ q 0 600 _ (rdi_below HQ.out HB3.out)).mono ?_; rintro e w4 ⟨rfl, rfl⟩
          cases hall : (q.all fun n => inB n 0 600) with
          | false =>
            have hv := HV _ (bestPlaceV_noy (by rw [hall]; simp))
            go_wp2
            go_ret3
            rw [hv.out]
            exact ⟨rfl, HB3.out⟩
          | true =>
            have hv := HV _ (bestPlaceV_yes hok hp0 hwn h20 hall)
            clear HV hwn hall
            obtain ⟨F, hF⟩ : ∃ F, ptAll b o L S M = F := ⟨_, rfl⟩
            rw [hF] at hv
            have HF := Lib.hid hF
            have hbd := bpF_bd (s0 := (-1)) (cnt := cntF F wall ws) (blk := blkF q) (by omega) (cntF_bd (wnOk_true HWN.out).2)
            have HBD := Lib.hid hbd
            have HCB := Lib.hid (cntF_bd (F := F) (wall := wall) (wnOk_true HWN.out).2)
            clear hbd hF
            go_wp2_with fail
            go_loopw [11, 12, 13] (fun va vb vc wr => ∃ (k : Nat) (x y : Int), k ≤ 61 ∧ vc = .int .i64 (10 * (k : Int)) ∧ va = .int .i64 x ∧ vb = .int .i64 y ∧ Hid (bpF (-1) (cntF F wall ws) (blkF q) k = (x, y)) ∧ Hid (Below w3.heap.size w3 wr)) (fun _ _ vc _ => (620 - intOf vc).toNat)
            case atStart => exact ⟨0, (-1), -1, by omega, rfl, rfl, rfl, Lib.hid rfl, Lib.hid (Below.refl _ _)⟩
            case round =>
             obtain ⟨k, x, y, hk, rfl, rfl, rfl, HBP, HB⟩ := hrel
             obtain ⟨wA, rfl⟩ : ∃ wA : World, wA = wr := ⟨_, rfl⟩
             have hbd := HBD.out k hk
             rw [HBP.out] at hbd
             dsimp only at hbd
             by_cases hlt : k < 61
             · have hle : 10 * (k : Int) ≤ 600 := by omega
               have eK : IntKind.i64.wrap (10 * (k : Int) + 10) = 10 * ((k + 1 : Nat) : Int) := by rw [IntWalk.i64_in _ (by omega)]; omega
               have HI : Hid ((620 - intOf (.int .i64 (10 * ((k + 1 : Nat) : Int)))).toNat < (620 - intOf (.int .i64 (10 * (k : Int)))).toNat) := Lib.hid (by simp [intOf]; omega)
               have HI1 : Hid (k + 1 ≤ 61) := Lib.hid (by omega)
               have hcb := HCB.out k
               obtain ⟨cv, hcv⟩ : ∃ cv, cntF F wall ws k = cv := ⟨_, rfl⟩
               rw [hcv] at hcb
               have HCV := Lib.hid hcv
               clear hcv
               have HBB := Lib.hid (bel_then HB3.out HB.out)
               have r0 := (HB.out.cell (p := ⟨w.heap.size, 0, none⟩) (by show w.heap.size < _; omega)).trans j0
               have r1 := (HB.out.cell (p := ⟨w.heap.size, 1, none⟩) (by show w.heap.size < _; omega)).trans j1
               have r2 := (HB.out.cell (p := ⟨w.heap.size, 2, none⟩) (by show w.heap.size < _; omega)).trans j2
               have r3 := (HB.out.cell (p := ⟨w.heap.size, 3, none⟩) (by show w.heap.size < _; omega)).trans j3
               have r4 := (HB.out.cell (p := ⟨w.heap.size, 4, none⟩) (by show w.heap.size < _; omega)).trans j4
               go_wp2_with fail
               by_cases hin : (10 * (k : Int)) ∈ q
               · have HST : Hid (bpF (-1) (cntF F wall ws) (blkF q) (k + 1) = (x, y)) := Lib.hid (by simp only [bpF]; rw [if_pos (show blkF q k = true from decide_eq_true hin), HBP.out])
                 refine (l1Has_c _ (10 * (k : Int)) q _ (rdi_below HQ.out HBB.out)).mono ?_; rw [decide_eq_true hin]; rintro e w5 ⟨rfl, rfl⟩
                 clear hin
                 go_wp2_with fail
                 exact ⟨⟨k + 1, x, y, HI1.out, by first | rfl | go_num, rfl, rfl, HST, HB⟩, HI.out⟩
               · have HST : Hid (bpF (-1) (cntF F wall ws) (blkF q) (k + 1) = if y < cv then (10 * (k : Int), cv) else (x, y)) := Lib.hid (by simp only [bpF]; rw [if_neg (by unfold blkF; rw [decide_eq_false hin]; simp), HBP.out, HCV.out])
                 refine (l1Has_c _ (10 * (k : Int)) q _ (rdi_below HQ.out HBB.out)).mono ?_; rw [decide_eq_false hin]; rintro e w5 ⟨rfl, rfl⟩
                 clear hin
                 go_wp2_with fail
                 have hfr := laFrom_c b o L S M wall (10 * (k : Int)) _ ws _ ⟨b0, b1⟩ (by omega) ⟨o0, o1⟩ (by omega) (by omega) hq0 (by omega) HWN.out (rd_below HRW.out HBB.out)
                 rw [HF.out] at hfr
                 refine hfr.mono ?_; rintro e w6 ⟨x6, rfl, ho, hb6⟩
                 have hlen : ((selD (winP F wall (10 * (k : Int)) ws) ws.length).length : Int) = cv := HCV.out
                 obtain ⟨A6, c6, hx6, _⟩ := own_rd ho
                 subst hx6
                 have HB6 := Lib.hid (bel_then HB.out hb6)
                 clear ho hb6 hfr r0 r1 r2 r3 r4
                 by_cases hgt : y < cv
                 · rw [if_pos hgt] at HST
                   go_wp2_with fail
                   exact ⟨⟨k + 1, _, _, HI1.out, by first | rfl | go_num, rfl, rfl, HST, HB6⟩, HI.out⟩
                 · rw [if_neg hgt] at HST
                   have hgt2 : cv ≤ y := by omega
                   clear hgt
                   go_wp2_with fail
                   exact ⟨⟨k + 1, x, y, HI1.out, by first | rfl | go_num, rfl, rfl, HST, HB6⟩, HI.out⟩
             · obtain rfl : k = 61 := by omega
               rw [HBP.out] at hv
               go_wp2
               go_ret3
               rw [hv.out]
               exact ⟨rfl, bel_then HB3.out HB.out⟩
        · have hz20 : 20 < (q.length : Int) := by omega
          have hv := HV _ (bestPlaceV_nox h20)
          go_wp2
          go_ret3
          rw [hv.out]
          exact ⟨rfl, HB3.out⟩
set_option maxRecDepth 100000 in
set_option maxHeartbeats 2000000 in
theorem bestPlaceI_c (b l o s m wall : Int) (v : Value) (ws : List Wn) (u : Value) (q : List Int) (w : World) (hr : Rd w v ws.length (ws.flatMap Wn.cells)) (hqr : RdI w u q) (ht : SinTab w) :
    Calls Tryd.prog 38 #[ldV b l o s m, .int .i64 wall, v, u] w fun e w' => e = .returned (.tuple #[.int .i64 (bestPlaceV b l o s m wall ws q).1, .int .i64 (bestPlaceV b l o s m wall ws q).2.1, .bool (bestPlaceV b l o s m wall ws q).2.2]) ∧ Below w.heap.size w w' := by
  have HQ := Lib.hid hqr
  obtain ⟨A5, c5, rfl, hc5, hm5, _⟩ := hqr
  rw [maxLen_eq] at hm5
  have EG := Lib.hid (show ∀ args w, (callFunc 74 args).run Tryd.prog w = .ok (.enter 74 args) w from enters_of Tryd.func74 (by kernel_rfl) rfl)
  have HV : ∀ r, bestPlaceV b l o s m wall ws q = r → Hid (bestPlaceV b l o s m wall ws q = r) := fun r h => Lib.hid h
  have HRW := Lib.hid hr
  obtain ⟨A, c, rfl, hc9, hm9, _⟩ := hr
  rw [maxLen_eq] at hm9
  cases hok : ladOk b l o s m with
  | false =>
    have hv := HV _ (bestPlaceV_no0 hok)
    go_enter Tryd.func38, Tryd.ntmps38
    go_wp2_with (first | (go_at_call 56; refine (isLadder_c _ _ _ _ _ _).mono ?_; rintro e w' ⟨rfl, hb1⟩; have hz1 : w.heap.size < w'.heap.size := Nat.lt_of_lt_of_le (by first | assumption | (simp; done) | (simp; assumption)) hb1.size; have k0 : w'.cell? ⟨w.heap.size, 0, none⟩ = some (.int .i64 b) := (hb1.cell (by first | assumption | (simp; done) | (simp; assumption))).trans (by first | assumption | (simp [go_sem]; done)); have k1 : w'.cell? ⟨w.heap.size, 1, none⟩ = some (.int .i64 l) := (hb1.cell (by first | assumption | (simp; done) | (simp; assumption))).trans (by first | assumption | (simp [go_sem]; done)); have k2 : w'.cell? ⟨w.heap.size, 2, none⟩ = some (.int .i64 o) := (hb1.cell (by first | assumption | (simp; done) | (simp; assumption))).trans (by first | assumption | (simp [go_sem]; done)); have k3 : w'.cell? ⟨w.heap.size, 3, none⟩ = some (.int .i64 s) := (hb1.cell (by first | assumption | (simp; done) | (simp; assumption))).trans (by first | assumption | (simp [go_sem]; done)); have k4 : w'.cell? ⟨w.heap.size, 4, none⟩ = some (.int .i64 m) := (hb1.cell (by first | assumption | (simp; done) | (simp; assumption))).trans (by first | assumption | (simp [go_sem]; done))) | (go_at_call 57; refine (inside_c _ _ _ _).mono ?_; rintro e w' ⟨rfl, rfl⟩))
    go_ret3
    rw [hv.out]
    exact ⟨rfl, (by repeat (first | exact Below.refl _ _ | assumption | refine bel_al ?_ _ | refine bel_dr ?_ | refine below_drewN ?_ _ | refine bel_then ?_ (by assumption)))⟩
  | true =>
    obtain ⟨b0, b1, l0, l1, o0, o1, s0, s1, m1⟩ := ladOk_true hok
    cases hp0 : inB wall 0 200 with
    | false =>
      have hv := HV _ (bestPlaceV_no1 hp0)
      go_enter Tryd.func38, Tryd.ntmps38
      go_wp2_with (first | (go_at_call 56; refine (isLadder_c _ _ _ _ _ _).mono ?_; rintro e w' ⟨rfl, hb1⟩; have hz1 : w.heap.size < w'.heap.size := Nat.lt_of_lt_of_le (by first | assumption | (simp; done) | (simp; assumption)) hb1.size; have k0 : w'.cell? ⟨w.heap.size, 0, none⟩ = some (.int .i64 b) := (hb1.cell (by first | assumption | (simp; done) | (simp; assumption))).trans (by first | assumption | (simp [go_sem]; done)); have k1 : w'.cell? ⟨w.heap.size, 1, none⟩ = some (.int .i64 l) := (hb1.cell (by first | assumption | (simp; done) | (simp; assumption))).trans (by first | assumption | (simp [go_sem]; done)); have k2 : w'.cell? ⟨w.heap.size, 2, none⟩ = some (.int .i64 o) := (hb1.cell (by first | assumption | (simp; done) | (simp; assumption))).trans (by first | assumption | (simp [go_sem]; done)); have k3 : w'.cell? ⟨w.heap.size, 3, none⟩ = some (.int .i64 s) := (hb1.cell (by first | assumption | (simp; done) | (simp; assumption))).trans (by first | assumption | (simp [go_sem]; done)); have k4 : w'.cell? ⟨w.heap.size, 4, none⟩ = some (.int .i64 m) := (hb1.cell (by first | assumption | (simp; done) | (simp; assumption))).trans (by first | assumption | (simp [go_sem]; done))) | (go_at_call 57; refine (inside_c _ _ _ _).mono ?_; rintro e w' ⟨rfl, rfl⟩))
      go_ret3
      rw [hv.out]
      exact ⟨rfl, (by repeat (first | exact Below.refl _ _ | assumption | refine bel_al ?_ _ | refine bel_dr ?_ | refine below_drewN ?_ _ | refine bel_then ?_ (by assumption)))⟩
    | true =>
      have hq0 := inB_true hp0
      obtain ⟨L, rfl⟩ : ∃ L : Nat, l = (L : Int) := ⟨l.toNat, by omega⟩
      obtain ⟨S, rfl⟩ : ∃ S : Nat, s = (S : Int) := ⟨s.toNat, by omega⟩
      obtain ⟨M, rfl⟩ : ∃ M : Nat, m = (M : Int) := ⟨m.toNat, by omega⟩
      have HT := Lib.hid ht
      clear ht
      have HWV : ∀ r, wnOk ws = r → Hid (wnOk ws = r) := fun r h => Lib.hid h
      go_enter Tryd.func38, Tryd.ntmps38
      go_wp2_with (first | (go_at_call 56; refine (isLadder_c _ _ _ _ _ _).mono ?_; rintro e w' ⟨rfl, hb1⟩; have hz1 : w.heap.size < w'.heap.size := Nat.lt_of_lt_of_le (by first | assumption | (simp; done) | (simp; assumption)) hb1.size; have k0 : w'.cell? ⟨w.heap.size, 0, none⟩ = some (.int .i64 b) := (hb1.cell (by first | assumption | (simp; done) | (simp; assumption))).trans (by first | assumption | (simp [go_sem]; done)); have k1 : w'.cell? ⟨w.heap.size, 1, none⟩ = some (.int .i64 (L : Int)) := (hb1.cell (by first | assumption | (simp; done) | (simp; assumption))).trans (by first | assumption | (simp [go_sem]; done)); have k2 : w'.cell? ⟨w.heap.size, 2, none⟩ = some (.int .i64 o) := (hb1.cell (by first | assumption | (simp; done) | (simp; assumption))).trans (by first | assumption | (simp [go_sem]; done)); have k3 : w'.cell? ⟨w.heap.size, 3, none⟩ = some (.int .i64 (S : Int)) := (hb1.cell (by first | assumption | (simp; done) | (simp; assumption))).trans (by first | assumption | (simp [go_sem]; done)); have k4 : w'.cell? ⟨w.heap.size, 4, none⟩ = some (.int .i64 (M : Int)) := (hb1.cell (by first | assumption | (simp; done) | (simp; assumption))).trans (by first | assumption | (simp [go_sem]; done))) | (go_at_call 57; refine (inside_c _ _ _ _).mono ?_; rintro e w' ⟨rfl, rfl⟩))
      have HBX : Hid (Below w.heap.size w w') := Lib.hid (bel_then (bel_al (Below.refl _ _) _) hb1)
      obtain ⟨wX, rfl⟩ : ∃ wX : World, wX = w' := ⟨_, rfl⟩
      refine (areWindows_c _ ws _ (rd_below HRW.out HBX.out)).mono ?_; rintro e w3 ⟨rfl, hb3⟩
      have j0 := (hb3.cell (p := ⟨w.heap.size, 0, none⟩) (by show w.heap.size < _; omega)).trans k0
      have j1 := (hb3.cell (p := ⟨w.heap.size, 1, none⟩) (by show w.heap.size < _; omega)).trans k1
      have j2 := (hb3.cell (p := ⟨w.heap.size, 2, none⟩) (by show w.heap.size < _; omega)).trans k2
      have j3 := (hb3.cell (p := ⟨w.heap.size, 3, none⟩) (by show w.heap.size < _; omega)).trans k3
      have j4 := (hb3.cell (p := ⟨w.heap.size, 4, none⟩) (by show w.heap.size < _; omega)).trans k4
      have HB3 := Lib.hid (bel_then HBX.out hb3)
      have hs3 : w.heap.size < w3.heap.size := World.block_lt_of_cell? w3 _ j0
      clear k0 k1 k2 k3 k4 hb1 hz1 HBX hb3
      cases hwn : wnOk ws with
      | false =>
        have hv := HV _ (bestPlaceV_no9 hwn)
        go_wp2
        go_ret3
        rw [hv.out]
        exact ⟨rfl, HB3.out⟩
      | true =>
        have HWN := Lib.hid hwn
        by_cases h20 : q.length ≤ 20
        · have hz20 : (q.length : Int) ≤ 20 := by omega
          have hn20 : decide ((20 : Int) < (q.length : Int)) = false := decide_eq_false (by omega)
          go_wp2_with fail
          have HSY := Lib.hid (show Says 74 #[] (fun x => !(inB x 0 600)) q w3 from fun x _ => bestF_c x w3)
          refine (containsFunc_c 74 #[] EG.out (fun x => !(inB x 0 600)) _ q _ HSY.out (rdi_below HQ.out HB3.out)).mono ?_; rw [any_not_all q (fun n => inB n 0 600)]; rintro e w4 ⟨rfl, rfl⟩
          cases hall : (q.all fun n => inB n 0 600) with
          | false =>
            have hv := HV _ (bestPlaceV_noy (by rw [hall]; simp))
            go_wp2
            go_ret3
            rw [hv.out]
            exact ⟨rfl, HB3.out⟩
          | true =>
            have hv := HV _ (bestPlaceV_yes hok hp0 hwn h20 hall)
            clear HV hwn hall
            rw [← bp_law h20] at hv
            go_wp2_with fail
            refine (reach_c b o L S M _ ⟨b0, b1⟩ (by omega) ⟨o0, o1⟩ (by omega) (by omega) (sinTab_below HT.out HB3.out)).mono ?_; rintro e w4 ⟨B, n, D, rfl, hB, hn, hM, hD, hb4⟩
            have HB4 := Lib.hid (bel_then HB3.out hb4)
            have HM := Lib.hid hM
            have HD := Lib.hid hD
            clear hM hD hb4
            obtain ⟨F, hF⟩ : ∃ F, ptAll b o L S M = F := ⟨_, rfl⟩
            rw [hF] at hv HD
            have HF := Lib.hid hF
            have hbd := bpF_bd (s0 := 0) (cnt := cntF F wall ws) (blk := blkF q) (by omega) (cntF_bd (wnOk_true HWN.out).2)
            have HBD := Lib.hid hbd
            have HCB := Lib.hid (cntF_bd (F := F) (wall := wall) (wnOk_true HWN.out).2)
            clear hbd hF
            go_wp2_with fail
            go_loopw [12, 13, 14] (fun va vb vc wr => ∃ (k : Nat) (x y : Int), k ≤ 61 ∧ vc = .int .i64 (10 * (k : Int)) ∧ va = .int .i64 x ∧ vb = .int .i64 y ∧ Hid (bpF 0 (cntF F wall ws) (blkF q) k = (x, y)) ∧ Hid (Below w4.heap.size w4 wr)) (fun _ _ vc _ => (620 - intOf vc).toNat)
            case atStart => exact ⟨0, 0, -1, by omega, rfl, rfl, rfl, Lib.hid rfl, Lib.hid (Below.refl _ _)⟩
            case round =>
             obtain ⟨k, x, y, hk, rfl, rfl, rfl, HBP, HB⟩ := hrel
             obtain ⟨wA, rfl⟩ : ∃ wA : World, wA = wr := ⟨_, rfl⟩
             have hbd := HBD.out k hk
             rw [HBP.out] at hbd
             dsimp only at hbd
             by_cases hlt : k < 61
             · have hle : 10 * (k : Int) ≤ 600 := by omega
               have eK : IntKind.i64.wrap (10 * (k : Int) + 10) = 10 * ((k + 1 : Nat) : Int) := by rw [IntWalk.i64_in _ (by omega)]; omega
               have HI : Hid ((620 - intOf (.int .i64 (10 * ((k + 1 : Nat) : Int)))).toNat < (620 - intOf (.int .i64 (10 * (k : Int)))).toNat) := Lib.hid (by simp [intOf]; omega)
               have HI1 : Hid (k + 1 ≤ 61) := Lib.hid (by omega)
               have hcb := HCB.out k
               obtain ⟨cv, hcv⟩ : ∃ cv, cntF F wall ws k = cv := ⟨_, rfl⟩
               rw [hcv] at hcb
               have HCV := Lib.hid hcv
               clear hcv
               have HBB := Lib.hid (bel_then HB4.out HB.out)
               go_wp2_with fail
               by_cases hin : (10 * (k : Int)) ∈ q
               · have HST : Hid (bpF 0 (cntF F wall ws) (blkF q) (k + 1) = (x, y)) := Lib.hid (by simp only [bpF]; rw [if_pos (show blkF q k = true from decide_eq_true hin), HBP.out])
                 refine (contains_c _ (10 * (k : Int)) q _ (rdi_below HQ.out HBB.out)).mono ?_; rw [decide_eq_true hin]; rintro e w5 ⟨rfl, rfl⟩
                 clear hin
                 go_wp2_with fail
                 exact ⟨⟨k + 1, x, y, HI1.out, by first | rfl | go_num, rfl, rfl, HST, HB⟩, HI.out⟩
               · have HST : Hid (bpF 0 (cntF F wall ws) (blkF q) (k + 1) = if y < cv then (10 * (k : Int), cv) else (x, y)) := Lib.hid (by simp only [bpF]; rw [if_neg (by unfold blkF; rw [decide_eq_false hin]; simp), HBP.out, HCV.out])
                 refine (contains_c _ (10 * (k : Int)) q _ (rdi_below HQ.out HBB.out)).mono ?_; rw [decide_eq_false hin]; rintro e w5 ⟨rfl, rfl⟩
                 clear hin
                 go_wp2_with fail
                 refine (reachedFrom_c B n D F wall (10 * (k : Int)) _ ws _ (ownsMap_bel HM.out HB.out) HD.out hq0 (by omega) HWN.out (rd_below HRW.out HBB.out)).mono ?_; rintro e w6 ⟨x6, rfl, ho, hb6⟩
                 have hlen : ((selD (winP F wall (10 * (k : Int)) ws) ws.length).length : Int) = cv := HCV.out
                 obtain ⟨A6, c6, hx6, _⟩ := own_rd ho
                 subst hx6
                 have HB6 := Lib.hid (bel_then HB.out hb6)
                 clear ho hb6 
                 by_cases hgt : y < cv
                 · rw [if_pos hgt] at HST
                   go_wp2_with fail
                   exact ⟨⟨k + 1, _, _, HI1.out, by first | rfl | go_num, rfl, rfl, HST, HB6⟩, HI.out⟩
                 · rw [if_neg hgt] at HST
                   have hgt2 : cv ≤ y := by omega
                   clear hgt
                   go_wp2_with fail
                   exact ⟨⟨k + 1, x, y, HI1.out, by first | rfl | go_num, rfl, rfl, HST, HB6⟩, HI.out⟩
             · obtain rfl : k = 61 := by omega
               rw [HBP.out] at hv
               go_wp2
               go_ret3
               rw [hv.out]
               exact ⟨rfl, bel_then HB4.out HB.out⟩
        · have hz20 : 20 < (q.length : Int) := by omega
          have hv := HV _ (bestPlaceV_nox h20)
          go_wp2
          go_ret3
          rw [hv.out]
          exact ⟨rfl, HB3.out⟩
end Go.Proofs.YtibkadkodblefaaDoor
