/-
  Movers: both sides' look at them. The tables: who reaches whom, on both sides. The reference's tables: the times of each mover, and who reaches whom out of them. The reference's table of who reaches whom. ReachTable on both sides. Lists of movers: both sides' look whether each station has one, or none, and none twice. SlowestMove on both sides. IsFilling on both sides. CoveredAfter: the stations that a filling fills. CoveredAfter on both sides. (joined by pack.py: MvA MvT MvU MvR MvS MvO MvW MvF MvC MvD)
-/
import Derived.Test.YtahehdgkbhjpoaaGreatDoorK9
import Derived.Test.YtahehdgkbhjpoaaGreatDoorK10
import Derived.Laws.EntriesVeiled
import Derived.Test.YtahehdgkbhjpoaaGreatDoorK7
import Derived.Test.YtahehdgkbhjpoaaGreatDoorK3
namespace Go.Proofs.YtahehdgkbhjpoaaGreatDoor
set_option linter.unusedVariables false
set_option linter.unusedSimpArgs false
open Go.RowKit

/-- The town is valid, q its stations, p nodes of at most 7 movers. -/
def goodMv (n : Int) (l : List St) (p q : List Int) : Bool := goodSta n l q && (decide (p.length ≤ 7) && p.all (fun x => inB x 0 (n - 1)))
theorem goodMv_true {n : Int} {l : List St} {p q : List Int} (h : goodMv n l p q = true) : goodTown n l = true ∧ (∀ x ∈ q, 0 ≤ x ∧ x ≤ n - 1) ∧ q.length ≤ 6 ∧ p.length ≤ 7 ∧ ∀ x ∈ p, 0 ≤ x ∧ x ≤ n - 1 := by
  unfold goodMv at h
  simp only [Bool.and_eq_true, decide_eq_true_eq, List.all_eq_true] at h
  obtain ⟨h1, h2, h3⟩ := h
  obtain ⟨a, b, c⟩ := goodSta_true h1
  exact ⟨a, b, c, h2, fun x hx => inB_true (h3 x hx)⟩

theorem all_false_at' {p : Int → Bool} {l : List Int} {k : Nat} {x : Int} (h : l[k]? = some x) (hp : p x = false) : l.all p = false :=
  List.all_eq_false.2 ⟨x, List.mem_of_getElem? h, by rw [hp]; simp⟩
set_option maxHeartbeats 400000 in
theorem allI_c (v : Value) (l : List Int) (lo hi : Int) (w : World) (hr : RdI w v l) :
    Calls Tryz.prog 44 #[v, .int .i64 lo, .int .i64 hi] w fun en w' => en = .returned (.bool (l.all fun n => inB n lo hi)) ∧ w = w' := by
  obtain ⟨A, c, rfl, hc, hm, hr⟩ := hr
  rw [maxLen_eq] at hm
  go_enter Tryz.func44, Tryz.ntmps44
  go_wp2
  go_loop [8, 11] (fun _ i => ∃ k : Nat, k ≤ l.length ∧ i = .int .i64 k ∧ (l.take k).all (fun n => inB n lo hi) = true) (fun _ i => l.length - (intOf i).toNat)
  case atStart => exact ⟨0, Nat.zero_le _, rfl, rfl⟩
  case round =>
    obtain ⟨k, hk, rfl, hall⟩ := hrel
    by_cases hlt : k < l.length
    · obtain ⟨b, off, rfl, hbl, hcell⟩ := hr (by omega)
      have hx : l[k]? = some l[k] := by simp [hlt]
      generalize l[k] = t at hx
      have c0 := hcell k (.int .i64 t) (ints_get hx)
      have HX := Lib.hid hx
      have HA := Lib.hid hall
      clear hx hall
      go_wp2_with (go_at_call 63; refine (l1In_c _ _ _ _).mono ?_; rintro e w' ⟨rfl, rfl⟩)
      · go_ret
        refine ⟨?_, rfl⟩
        have h : inB t lo hi = false := by simp_all
        rw [all_false_at' HX.out h]; rfl
      · refine ⟨⟨k + 1, by omega, by go_num, ?_⟩, by simp [intOf]; omega⟩
        rw [take_succ_of HX.out, List.all_append, HA.out]; simp_all
    · go_wp2
      go_ret
      rw [List.take_of_length_le (by omega)] at hall
      exact ⟨by rw [hall]; rfl, rfl⟩

set_option maxHeartbeats 1000000 in
theorem mvFrom_c (n : Int) (s v : Value) (p : List Int) (w : World) (h1 : 1 ≤ n) (h2 : n ≤ 14) (hp : RdI w v p) :
    Calls Tryz.prog 61 #[.agg #[.int .i64 n, s], v] w fun e w' => e = .returned (.bool (decide (p.length ≤ 7) && p.all (fun x => inB x 0 (n - 1)))) ∧ Below w.heap.size w w' := by
  have HP := Lib.hid hp
  obtain ⟨A, c, rfl, hc, hm, _⟩ := hp
  rw [maxLen_eq] at hm
  have hbx : ∀ o, Below w.heap.size w (w.alloc o) := fun o => bel_al (Below.refl _ _) o
  have s1 : IntKind.i64.wrap (n - 1) = n - 1 := IntWalk.i64_in _ (by omega)
  by_cases h7 : p.length ≤ 7
  · have e7 : decide ((p.length : Int) ≤ 7) = true := decide_eq_true (by omega)
    have e8 : decide (p.length ≤ 7) = true := decide_eq_true h7
    rw [e8]
    go_enter Tryz.func61, Tryz.ntmps61
    go_wp2_with (go_at_call 44; refine (allI_c _ p _ _ _ (rdi_below HP.out (hbx _))).mono ?_; rintro e w' ⟨rfl, rfl⟩)
    go_ret
    exact ⟨rfl, hbx _⟩
  · have e7 : decide ((p.length : Int) ≤ 7) = false := decide_eq_false (by omega)
    have e8 : decide (p.length ≤ 7) = false := decide_eq_false h7
    rw [e8]
    go_enter Tryz.func61, Tryz.ntmps61
    go_wp2
    go_ret
    exact ⟨rfl, hbx _⟩

set_option maxHeartbeats 1000000 in
theorem mvAsked_c (n : Int) (s : Value) (l : List St) (v u : Value) (p q : List Int) (w : World) (hr : Rd w s l.length (l.flatMap St.cells)) (hp : RdI w v p) (hq : RdI w u q) :
    Calls Tryz.prog 26 #[.agg #[.int .i64 n, s], v, u] w fun e w' => e = .returned (.bool (goodMv n l p q)) ∧ Below w.heap.size w w' := by
  have HR := Lib.hid hr
  have HQ := Lib.hid hq
  have HP := Lib.hid hp
  obtain ⟨A, c, rfl, hc, hm, _⟩ := hq
  rw [maxLen_eq] at hm
  clear hr hp
  have hbx : ∀ o, Below w.heap.size w (w.alloc o) := fun o => bel_al (Below.refl _ _) o
  by_cases hok : goodSta n l q = true
  · obtain ⟨g1, g2, g3⟩ := goodSta_true hok
    have e6 : decide ((q.length : Int) ≤ 6) = true := decide_eq_true (by omega)
    obtain ⟨hn1, hn2, _⟩ := goodTown_true g1
    clear g1 g2
    go_enter Tryz.func26, Tryz.ntmps26
    go_wp2_with fail
    generalize hW : World.alloc w _ = w0
    have t0 : w0.cell? ⟨w.heap.size, 0, none⟩ = some (.int .i64 n) := by subst hW; simp [go_sem]
    have t1 : w0.cell? ⟨w.heap.size, 1, none⟩ = some s := by subst hW; simp [go_sem]
    have hb0 : Below w.heap.size w w0 := by subst hW; exact hbx _
    have z0 : w.heap.size < w0.heap.size := by subst hW; simp
    clear hW
    have HB := Lib.hid hb0
    refine (cvStations_c n s _ l q _ (rd_below HR.out HB.out) (rdi_below HQ.out HB.out)).mono ?_; rw [hok]; rintro e w1 ⟨rfl, hb1⟩
    have t0 := (hb1.cell (p := ⟨w.heap.size, 0, none⟩) z0).trans t0
    have t1 := (hb1.cell (p := ⟨w.heap.size, 1, none⟩) z0).trans t1
    have HB1 := Lib.hid (bel_then hb0 hb1)
    clear hb0 hb1
    go_wp2_with (go_at_call 61; refine (mvFrom_c n s _ p _ hn1 hn2 (rdi_below HP.out HB1.out)).mono ?_; rintro e w2 ⟨rfl, hb2⟩)
    go_ret
    refine ⟨?_, bel_then HB1.out hb2⟩
    unfold goodMv
    rw [hok]; simp
  · have hok : goodSta n l q = false := by simpa using hok
    go_enter Tryz.func26, Tryz.ntmps26
    go_wp2_with (go_at_call 60; refine (cvStations_c n s _ l q _ (rd_below HR.out (hbx _)) (rdi_below HQ.out (hbx _))).mono ?_; rw [hok]; rintro e w' ⟨rfl, hb1⟩)
    go_ret
    refine ⟨?_, bel_then (hbx _) hb1⟩
    unfold goodMv
    rw [hok]; simp

set_option maxHeartbeats 1000000 in
theorem moversFitF_c (n x : Int) (B C : Nat) (w : World) (h1 : 1 ≤ n) (h2 : n ≤ 14) (c0 : w.cell? ⟨B, 0, none⟩ = some (.int .i64 n)) (c1 : w.cell? ⟨C, 0, none⟩ = some (.pointer (some ⟨B, 0, none⟩))) :
    Calls Tryz.prog 53 #[.int .i64 x, .pointer (some ⟨C, 0, none⟩)] w fun e w' => e = .returned (.bool (!(inB x 0 (n - 1)))) ∧ w = w' := by
  go_enter Tryz.func53, Tryz.ntmps53
  go_wp2_with (go_at_call 54; refine (has_c n _ _ _ h1 h2 c0).mono ?_; rintro e w' ⟨rfl, rfl⟩)
  go_ret
  exact ⟨rfl, rfl⟩

theorem not_any {p : Int → Bool} {l : List Int} : (!(l.any fun x => !(p x))) = l.all p := by
  induction l with
  | nil => rfl
  | cons y l ih => simp only [List.any_cons, List.all_cons]; rw [← ih]; cases p y <;> simp

set_option maxHeartbeats 1000000 in
theorem moversFit_c (n : Int) (s : Value) (l : List St) (v u : Value) (p q : List Int) (B : Nat) (w : World) (t0 : w.cell? ⟨B, 0, none⟩ = some (.int .i64 n)) (t1 : w.cell? ⟨B, 1, none⟩ = some s) (hr : Rd w s l.length (l.flatMap St.cells)) (hp : RdI w v p) (hq : RdI w u q) :
    Calls Tryz.prog 20 #[.pointer (some ⟨B, 0, none⟩), v, u] w fun e w' => e = .returned (.bool (goodMv n l p q)) ∧ Below w.heap.size w w' := by
  have HR := Lib.hid hr
  have HQ := Lib.hid hq
  have HP := Lib.hid hp
  obtain ⟨A, c, rfl, hc, hm, _⟩ := hp
  rw [maxLen_eq] at hm
  clear hr hq
  have hbx : ∀ o, Below w.heap.size w (w.alloc o) := fun o => bel_al (Below.refl _ _) o
  have hB : B < w.heap.size := World.block_lt_of_cell? w _ t0
  have eg : ∀ args w, (callFunc 53 args).run Tryz.prog w = .ok (.enter 53 args) w := enters_of Tryz.func53 (by kernel_rfl) rfl
  have EG := Lib.hid eg
  clear eg
  go_enter Tryz.func20, Tryz.ntmps20
  go_wp2_with fail
  generalize hW : World.alloc w _ = w0
  have k0 : w0.cell? ⟨w.heap.size, 0, none⟩ = some (.pointer (some ⟨B, 0, none⟩)) := by subst hW; simp [go_sem]
  have hb0 : Below w.heap.size w w0 := by subst hW; exact hbx _
  have z0 : w.heap.size < w0.heap.size := by subst hW; simp
  have y0 := (hb0.cell (p := ⟨B, 0, none⟩) hB).trans t0
  have y1 := (hb0.cell (p := ⟨B, 1, none⟩) hB).trans t1
  clear hW
  have HB := Lib.hid hb0
  refine (areStations_c n s _ l q B _ y0 y1 (rd_below HR.out HB.out) (rdi_below HQ.out HB.out)).mono ?_; rintro e w1 ⟨rfl, hb1⟩
  have k1 := (hb1.cell (p := ⟨w.heap.size, 0, none⟩) z0).trans k0
  have x0 := (hb1.cell (p := ⟨B, 0, none⟩) (Nat.lt_trans hB z0)).trans y0
  have HB1 := Lib.hid (bel_then hb0 hb1)
  clear hb0 hb1 k0 y0 y1
  by_cases hok : goodSta n l q = true
  · obtain ⟨g1, g2, g3⟩ := goodSta_true hok
    obtain ⟨hn1, hn2, _⟩ := goodTown_true g1
    clear g1 g2
    rw [hok]
    by_cases h7 : p.length ≤ 7
    · have e7 : decide ((p.length : Int) ≤ 7) = true := decide_eq_true (by omega)
      have hs : Says 53 #[.pointer (some ⟨w.heap.size, 0, none⟩)] (fun x => !(inB x 0 (n - 1))) p w1 := fun x _ => moversFitF_c n x B _ w1 hn1 hn2 x0 k1
      have HS := Lib.hid hs
      clear hs
      go_wp2_with fail
      refine (containsFunc_c 53 _ EG.out (fun x => !(inB x 0 (n - 1))) _ p _ HS.out (rdi_below HP.out HB1.out)).mono ?_; rintro e w2 ⟨rfl, rfl⟩
      go_wp2
      go_ret
      refine ⟨?_, HB1.out⟩
      rw [not_any]
      unfold goodMv
      rw [hok]; simp [h7]
    · have e7 : decide ((p.length : Int) ≤ 7) = false := decide_eq_false (by omega)
      go_wp2
      go_ret
      refine ⟨?_, HB1.out⟩
      unfold goodMv
      rw [hok]; simp [h7]
  · have hok : goodSta n l q = false := by simpa using hok
    rw [hok]
    go_wp2
    go_ret
    refine ⟨?_, HB1.out⟩
    unfold goodMv
    rw [hok]; simp
end Go.Proofs.YtahehdgkbhjpoaaGreatDoor

namespace Go.Proofs.YtahehdgkbhjpoaaGreatDoor
set_option linter.unusedVariables false
set_option linter.unusedSimpArgs false
open Go.RowKit

/-- The movers (places in p) that reach node x within a. -/
def reachP (n : Nat) (ar : List Arc) (p : List Int) (a x : Int) (i : Nat) : Bool := inB ((distT n ar x.toNat).getD (p.getD i 0).toNat 0) 0 a
def reachL (n : Nat) (ar : List Arc) (p q : List Int) (a : Int) : List (List Int) := q.map fun x => selI (reachP n ar p a x) p.length
theorem reachL_len (n : Nat) (ar : List Arc) (p q : List Int) (a : Int) : (reachL n ar p q a).length = q.length := by simp [reachL]
theorem reachL_snoc {n : Nat} {ar : List Arc} {p q : List Int} {a x : Int} {i : Nat} (h : q[i]? = some x) : reachL n ar p (q.take (i + 1)) a = reachL n ar p (q.take i) a ++ [selI (reachP n ar p a x) p.length] := by
  unfold reachL; rw [take_succ_of h, List.map_append]; rfl

set_option maxRecDepth 100000 in
set_option maxHeartbeats 4000000 in
theorem reachTable_c (n : Nat) (s v u : Value) (l : List St) (p q : List Int) (a : Int) (B : Nat) (w : World) (hg : goodTown n l = true) (hp : ∀ x ∈ p, 0 ≤ x ∧ x ≤ (n : Int) - 1) (hq : ∀ x ∈ q, 0 ≤ x ∧ x ≤ (n : Int) - 1) (hp7 : p.length ≤ 7) (hq6 : q.length ≤ 6)
    (t0 : w.cell? ⟨B, 0, none⟩ = some (.int .i64 n)) (t1 : w.cell? ⟨B, 1, none⟩ = some s) (hr : Rd w s l.length (l.flatMap St.cells)) (hvp : RdI w v p) (hvq : RdI w u q) :
    Calls Tryz.prog 25 #[.pointer (some ⟨B, 0, none⟩), v, u, .int .i64 a] w (OwnSS (reachL n (arcs l) p q a) w) := by
  obtain ⟨hn1, hn2, _, _⟩ := goodTown_true hg
  obtain ⟨A, c, rfl, hc, hm, hvp⟩ := hvp
  obtain ⟨A', c', rfl, hc', hm', hvq⟩ := hvq
  rw [maxLen_eq] at hm hm'
  have hB : B < w.heap.size := World.block_lt_of_cell? w _ t0
  have HVP := Lib.hid hvp
  have HVQ := Lib.hid hvq
  have HP := Lib.hid hp
  have HQ := Lib.hid hq
  have HG := Lib.hid hg
  have HR := Lib.hid hr
  have T0 := Lib.hid t0
  have T1 := Lib.hid t1
  obtain ⟨i0, hi, hz0, hz1, hz2⟩ := info_parts Tryz.infoInt
  obtain ⟨iS, hiS, hzS0, hzS1, hzS2⟩ := info_parts Tryz.infoSS
  clear hvp hvq hp hq hg hr t0 t1
  go_enter Tryz.func25, Tryz.ntmps25
  go_wp2_with fail
  go_loopw [9, 18] (fun v9 v18 wr => ∃ (k : Nat) (vs : List Value) (L : List (List Int)), k ≤ q.length ∧ L.length = k ∧ v18 = .int .i64 k ∧ Hid (reachL n (arcs l) p (q.take k) a = L) ∧ Hid (SSv wr w.heap.size v9 vs L) ∧ Hid (Below w.heap.size w wr)) (fun _ v18 _ => q.length - (intOf v18).toNat)
  case atStart => exact ⟨0, [], [], Nat.zero_le _, rfl, rfl, Lib.hid rfl, Lib.hid (SSv.nil _ _), Lib.hid (Below.refl _ _)⟩
  case round =>
    obtain ⟨k, vs, L, hk, hLk, rfl, HL, HO, HB⟩ := hrel
    obtain ⟨wA, rfl⟩ : ∃ wA : World, wA = wr := ⟨_, rfl⟩
    by_cases hlt : k < q.length
    · obtain ⟨b, off, rfl, hbl, hcell⟩ := HVQ.out (by omega)
      obtain ⟨x, hx⟩ : ∃ x, q[k]? = some x := ⟨_, List.getElem?_eq_getElem hlt⟩
      have c0 := cell_at hcell HB.out hbl (ints_get hx)
      have hxb := HQ.out x (List.mem_of_getElem? hx)
      obtain ⟨xn, rfl⟩ := Int.eq_ofNat_of_zero_le hxb.1
      have hxn : xn < n := by omega
      have HX := Lib.hid hx
      have z0 := (HB.out.cell (p := ⟨B, 0, none⟩) hB).trans T0.out
      have z1 := (HB.out.cell (p := ⟨B, 1, none⟩) hB).trans T1.out
      have hsA := HB.out.size
      clear hcell hx hxb
      go_wp2_with fail
      refine (timesI_c n _ l B xn _ HG.out hxn z0 z1 (rd_below HR.out HB.out)).mono ?_
      rintro e w5 ⟨v5, rfl, ho5, hb5⟩
      rw [distT_len] at ho5
      obtain ⟨h, cap5, rfl, hbh, hhl, hcap5, hcm5⟩ := own_shape ho5 (by omega)
      obtain ⟨ev, hev⟩ : ∃ ev, distT n (arcs l) xn = ev := ⟨_, rfl⟩
      have hel : ev.length = n := by rw [← hev, distT_len]
      rw [hev] at ho5
      have HEV := Lib.hid hev
      have HEL := Lib.hid hel
      have HO5 := Lib.hid ho5
      have HB5 := Lib.hid hb5
      have HBW := Lib.hid (bel_then HB.out hb5)
      have HOS := Lib.hid (HO.out.below hb5)
      have hs5 := hb5.size
      have hpe : ∀ i, reachP n (arcs l) p a (xn : Int) i = inB (ev.getD (p.getD i 0).toNat 0) 0 a := fun i => by unfold reachP; rw [Int.toNat_natCast, hev]
      have HPE := Lib.hid hpe
      clear ho5 hb5 c0 hev hel z0 z1 hpe
      go_wp2_with fail
      go_loopw [13, 27] (fun v13 v27 wr => ∃ (j : Nat), j ≤ p.length ∧ v27 = .int .i64 j ∧ Hid (wr.ownsRow w5.heap.size 3 1 v13 (selI (reachP n (arcs l) p a xn) j).length (ints (selI (reachP n (arcs l) p a xn) j))) ∧ Hid (Below w5.heap.size w5 wr)) (fun _ v27 _ => p.length - (intOf v27).toNat)
      case atStart => exact ⟨0, Nat.zero_le _, rfl, Lib.hid (show w5.ownsRow w5.heap.size 3 1 (.slice none 0 0) 0 [] from World.ownsRow_nil _ _ _ _), Lib.hid (Below.refl _ _)⟩
      case round =>
        obtain ⟨j, hj, rfl, HOW, HBL⟩ := hrel
        obtain ⟨wB, rfl⟩ : ∃ wB : World, wB = wr := ⟨_, rfl⟩
        by_cases hjn : j < p.length
        · obtain ⟨b2, off2, rfl, hbl2, hcell⟩ := HVP.out (by omega)
          obtain ⟨y, hy⟩ : ∃ y, p[j]? = some y := ⟨_, List.getElem?_eq_getElem hjn⟩
          have d0 := cell_at hcell (bel_then HBW.out HBL.out) hbl2 (ints_get hy)
          have hyb := HP.out y (List.mem_of_getElem? hy)
          obtain ⟨yn, rfl⟩ := Int.eq_ofNat_of_zero_le hyb.1
          have hyn : yn < n := by omega
          have ce := (HBL.out.cell (p := ⟨h, yn, none⟩) hhl).trans (own_cell HO5.out hyn)
          have hsl := selI_len (reachP n (arcs l) p a xn) j
          have hpj : reachP n (arcs l) p a (xn : Int) j = inB (ev.getD yn 0) 0 a := by rw [HPE.out, show p.getD j 0 = (yn : Int) by simp [List.getD_eq_getElem?_getD, hy], Int.toNat_natCast]
          have HPJ := Lib.hid hpj
          obtain ⟨t, ht⟩ : ∃ t, ev.getD yn 0 = t := ⟨_, rfl⟩
          have hpj : reachP n (arcs l) p a (xn : Int) j = inB t 0 a := by rw [HPJ.out, ht]
          have HPJ := Lib.hid hpj
          rw [ht] at ce
          obtain ⟨S, hS⟩ : ∃ S, selI (reachP n (arcs l) p a (xn : Int)) j = S := ⟨_, rfl⟩
          rw [hS] at HOW hsl
          have HS := Lib.hid hS
          have y0 : (0 : Int) ≤ (yn : Int) := by omega
          have y1 : (yn : Int) < (n : Int) := by omega
          clear hcell hy hyb hpj ht hS
          by_cases hyes : inB t 0 a = true
          · have HY : Hid (selI (reachP n (arcs l) p a (xn : Int)) (j + 1) = S ++ [(j : Int)]) := Lib.hid (by rw [selI_yes (by rw [HPJ.out]; exact hyes), HS.out])
            go_wp2_with (first | (go_at_call 58; refine (inside_c _ _ _ _).mono ?_; rintro e w' ⟨rfl, rfl⟩) | (at_builtin; refine wpList_app_rd _ rfl _ _ 26 rfl w5.heap.size 3 i0 (.int .i64 0) 1 8 Tryz.underlying26 hi hz0 hz1 hz2 rfl (by decide) _ _ _ rfl (HOW.out.alloc _) _ 1 [.int .i64 j] rfl (rd_new _ rfl (Nat.le_refl _) (by rw [maxLen_eq]; omega)) rfl (ints_one [(j : Int)]) (by rw [maxLen_eq]; omega) (by omega) (by have := HBL.out.size; simp; omega) ?_; intro v' w7 hown' hgrow _))
            refine ⟨⟨j + 1, by omega, by go_num, Lib.hid ?_, Lib.hid (bel_grown (bel_al HBL.out _) hgrow (fun q e => (HOW.out.lt q e).1))⟩, by simp [intOf]; omega⟩
            rw [HY.out, ints_append, List.length_append]; exact hown'
          · have hno : inB t 0 a = false := by simpa using hyes
            have HN : Hid (selI (reachP n (arcs l) p a (xn : Int)) (j + 1) = S) := Lib.hid (by rw [selI_no (by rw [HPJ.out]; exact hno), HS.out])
            clear hyes
            go_wp2_with (go_at_call 58; refine (inside_c _ _ _ _).mono ?_; rintro e w' ⟨rfl, rfl⟩)
            exact ⟨⟨j + 1, by omega, by go_num, by rw [HN.out]; exact HOW, HBL⟩, by simp [intOf]; omega⟩
        · obtain rfl : j = p.length := by omega
          obtain ⟨S, hS⟩ : ∃ S, selI (reachP n (arcs l) p a (xn : Int)) p.length = S := ⟨_, rfl⟩
          rw [hS] at HOW
          have HS := Lib.hid hS
          obtain ⟨A3, c3, hx3, hc3, hm3, _⟩ := own_rd HOW.out
          subst hx3
          rw [maxLen_eq] at hm3
          have HO6 := Lib.hid (HOS.out.below HBL.out)
          have hsB := HBL.out.size
          subst hLk
          clear hS
          go_wp2_with (at_builtin; refine wpList_app_rd _ rfl _ _ 53 rfl w.heap.size 26 iS (.slice none 0 0) 1 24 Tryz.underlying53 hiS hzS0 hzS1 hzS2 rfl (by decide) _ _ _ rfl (HO6.out.outer.alloc _) _ 1 [.slice A3 S.length c3] rfl (rd_new _ rfl (Nat.le_refl _) (by rw [maxLen_eq]; omega)) rfl (by simp [Value.oneCell']) (by rw [maxLen_eq]; omega) (by omega) (by simp; omega) ?_; intro v' w7 hown' hgrow he)
          refine ⟨⟨L.length + 1, vs ++ [.slice A3 S.length c3], L ++ [S], by omega, by simp, by go_num, Lib.hid ?_, Lib.hid ?_, Lib.hid (bel_grown (bel_al (bel_then HBW.out HBL.out) _) hgrow (fun q e => (HO6.out.outer.lt q e).1))⟩, by simp [intOf]; omega⟩
          · rw [reachL_snoc HX.out, HL.out, HS.out]
          · have hal := bel_al (Below.refl wB.heap.size wB) (.cells #[.slice A3 S.length c3] 26)
            refine (HO6.out.below hal).push (own_base (own_below HOW.out hal) (by omega)) (fun q q' e1 e2 => ?_) (fun i z hz q q' e1 e2 => ?_) hown' hgrow he
            · have h1 := (HOS.out.lt.1 q e1).2
              have h2 := (HOW.out.lt q' e2).1
              omega
            · have h1 := (HOS.out.lt.2 i z hz q e1).2
              have h2 := (HOW.out.lt q' e2).1
              omega
    · obtain rfl : k = q.length := by omega
      go_wp2
      go_ret
      have e := HL.out
      rw [List.take_length] at e
      exact ⟨_, rfl, ⟨vs, by rw [e]; exact HO.out⟩, HB.out⟩
end Go.Proofs.YtahehdgkbhjpoaaGreatDoor

namespace Go.Proofs.YtahehdgkbhjpoaaGreatDoor
set_option linter.unusedVariables false
set_option linter.unusedSimpArgs false
open Go.RowKit

def timesL (n : Nat) (ar : List Arc) (p q : List Int) : List (List Int) := p.map fun x => q.map fun s => (distT n ar x.toNat).getD s.toNat 0
theorem timesL_snoc {n : Nat} {ar : List Arc} {p q : List Int} {x : Int} {i : Nat} (h : p[i]? = some x) : timesL n ar (p.take (i + 1)) q = timesL n ar (p.take i) q ++ [q.map fun s => (distT n ar x.toNat).getD s.toNat 0] := by
  unfold timesL; rw [take_succ_of h, List.map_append]; rfl
theorem map_take_succ {f : Int → Int} {q : List Int} {j : Nat} {s : Int} (h : q[j]? = some s) : (q.take (j + 1)).map f = (q.take j).map f ++ [f s] := by
  rw [take_succ_of h, List.map_append]; rfl

set_option maxRecDepth 100000 in
set_option maxHeartbeats 4000000 in
theorem mvTimes_c (n : Nat) (s v u : Value) (l : List St) (p q : List Int) (w : World) (hg : goodTown n l = true) (hp : ∀ x ∈ p, 0 ≤ x ∧ x ≤ (n : Int) - 1) (hq : ∀ x ∈ q, 0 ≤ x ∧ x ≤ (n : Int) - 1) (hp7 : p.length ≤ 7) (hq6 : q.length ≤ 6)
    (hr : Rd w s l.length (l.flatMap St.cells)) (hvp : RdI w v p) (hvq : RdI w u q) :
    Calls Tryz.prog 27 #[.agg #[.int .i64 n, s], v, u] w (OwnSS (timesL n (arcs l) p q) w) := by
  obtain ⟨hn1, hn2, _, _⟩ := goodTown_true hg
  obtain ⟨A, c, rfl, hc, hm, hvp⟩ := hvp
  obtain ⟨A', c', rfl, hc', hm', hvq⟩ := hvq
  rw [maxLen_eq] at hm hm'
  have HVP := Lib.hid hvp
  have HVQ := Lib.hid hvq
  have HP := Lib.hid hp
  have HQ := Lib.hid hq
  have HG := Lib.hid hg
  have HR := Lib.hid hr
  obtain ⟨As, cs, rfl, _⟩ := hr
  obtain ⟨i0, hi, hz0, hz1, hz2⟩ := info_parts Tryz.infoInt
  obtain ⟨iS, hiS, hzS0, hzS1, hzS2⟩ := info_parts Tryz.infoSS
  clear hvp hvq hp hq hg
  go_enter Tryz.func27, Tryz.ntmps27
  go_wp2_with fail
  generalize hW : World.alloc w _ = w0
  have t0 : w0.cell? ⟨w.heap.size, 0, none⟩ = some (.int .i64 n) := by subst hW; simp [go_sem]
  have t1 : w0.cell? ⟨w.heap.size, 1, none⟩ = some (.slice As l.length cs) := by subst hW; simp [go_sem]
  have hb0 : Below w.heap.size w w0 := by subst hW; exact bel_al (Below.refl _ _) _
  have hz0' : w.heap.size < w0.heap.size := by subst hW; simp
  have T0 := Lib.hid t0
  have T1 := Lib.hid t1
  have HB0 := Lib.hid hb0
  clear hW t0 t1 hb0
  go_loopw [7, 16] (fun v7 v16 wr => ∃ (k : Nat) (vs : List Value) (L : List (List Int)), k ≤ p.length ∧ L.length = k ∧ v16 = .int .i64 k ∧ Hid (timesL n (arcs l) (p.take k) q = L) ∧ Hid (SSv wr w0.heap.size v7 vs L) ∧ Hid (Below w0.heap.size w0 wr)) (fun _ v16 _ => p.length - (intOf v16).toNat)
  case atStart => exact ⟨0, [], [], Nat.zero_le _, rfl, rfl, Lib.hid rfl, Lib.hid (SSv.nil _ _), Lib.hid (Below.refl _ _)⟩
  case round =>
    obtain ⟨k, vs, L, hk, hLk, rfl, HL, HO, HB⟩ := hrel
    obtain ⟨wA, rfl⟩ : ∃ wA : World, wA = wr := ⟨_, rfl⟩
    by_cases hlt : k < p.length
    · obtain ⟨b, off, rfl, hbl, hcell⟩ := HVP.out (by omega)
      obtain ⟨x, hx⟩ : ∃ x, p[k]? = some x := ⟨_, List.getElem?_eq_getElem hlt⟩
      have c0 := cell_at hcell (bel_then HB0.out HB.out) hbl (ints_get hx)
      have hxb := HP.out x (List.mem_of_getElem? hx)
      obtain ⟨xn, rfl⟩ := Int.eq_ofNat_of_zero_le hxb.1
      have hxn : xn < n := by omega
      have HX := Lib.hid hx
      have z0 := (HB.out.cell (p := ⟨w.heap.size, 0, none⟩) hz0').trans T0.out
      have z1 := (HB.out.cell (p := ⟨w.heap.size, 1, none⟩) hz0').trans T1.out
      have hsA := HB.out.size
      clear hcell hx hxb
      go_wp2_with fail
      refine (toTimes_c n _ l xn _ HG.out hxn (rd_below HR.out (bel_then HB0.out HB.out))).mono ?_
      rintro e w5 ⟨v5, rfl, ho5, hb5⟩
      rw [distT_len] at ho5
      obtain ⟨h, cap5, rfl, hbh, hhl, hcap5, hcm5⟩ := own_shape ho5 (by omega)
      obtain ⟨ev, hev⟩ : ∃ ev, distT n (arcs l) xn = ev := ⟨_, rfl⟩
      rw [hev] at ho5
      have HEV := Lib.hid hev
      have HO5 := Lib.hid ho5
      have HB5 := Lib.hid hb5
      have HBW := Lib.hid (bel_then HB.out hb5)
      have HOS := Lib.hid (HO.out.below hb5)
      have hs5 := hb5.size
      clear ho5 hb5 c0 hev z0 z1
      go_wp2_with fail
      go_loopw [11, 25] (fun v11 v25 wr => ∃ (j : Nat) (S : List Int), j ≤ q.length ∧ S.length = j ∧ v25 = .int .i64 j ∧ Hid ((q.take j).map (fun s => ev.getD s.toNat 0) = S) ∧ Hid (wr.ownsRow w5.heap.size 3 1 v11 S.length (ints S)) ∧ Hid (Below w5.heap.size w5 wr)) (fun _ v25 _ => q.length - (intOf v25).toNat)
      case atStart => exact ⟨0, [], Nat.zero_le _, rfl, rfl, Lib.hid rfl, Lib.hid (show w5.ownsRow w5.heap.size 3 1 (.slice none 0 0) 0 [] from World.ownsRow_nil _ _ _ _), Lib.hid (Below.refl _ _)⟩
      case round =>
        obtain ⟨j, S, hj, hSj, rfl, HS, HOW, HBL⟩ := hrel
        obtain ⟨wB, rfl⟩ : ∃ wB : World, wB = wr := ⟨_, rfl⟩
        by_cases hjn : j < q.length
        · obtain ⟨b2, off2, rfl, hbl2, hcell⟩ := HVQ.out (by omega)
          obtain ⟨y, hy⟩ : ∃ y, q[j]? = some y := ⟨_, List.getElem?_eq_getElem hjn⟩
          have d0 := cell_at hcell (bel_then HB0.out (bel_then HBW.out HBL.out)) hbl2 (ints_get hy)
          have hyb := HQ.out y (List.mem_of_getElem? hy)
          obtain ⟨yn, rfl⟩ := Int.eq_ofNat_of_zero_le hyb.1
          have hyn : yn < n := by omega
          have ce := (HBL.out.cell (p := ⟨h, yn, none⟩) hhl).trans (own_cell HO5.out hyn)
          have HY := Lib.hid hy
          obtain ⟨t, ht⟩ : ∃ t, ev.getD yn 0 = t := ⟨_, rfl⟩
          rw [ht] at ce
          have HT := Lib.hid ht
          have y0 : (0 : Int) ≤ (yn : Int) := by omega
          have y1 : (yn : Int) < (n : Int) := by omega
          have HSJ := Lib.hid hSj
          have hS6 : S.length ≤ 6 := by omega
          clear hcell hy hyb ht hSj
          go_wp2_with (at_builtin; refine wpList_app_rd _ rfl _ _ 26 rfl w5.heap.size 3 i0 (.int .i64 0) 1 8 Tryz.underlying26 hi hz0 hz1 hz2 rfl (by decide) _ _ _ rfl (HOW.out.alloc _) _ 1 [.int .i64 t] rfl (rd_new _ rfl (Nat.le_refl _) (by rw [maxLen_eq]; omega)) rfl (ints_one [t]) (by rw [maxLen_eq]; omega) (by omega) (by have := HBL.out.size; simp; omega) ?_; intro v' w7 hown' hgrow _)
          refine ⟨⟨j + 1, S ++ [t], by omega, by simp [HSJ.out], by go_num, Lib.hid ?_, Lib.hid ?_, Lib.hid (bel_grown (bel_al HBL.out _) hgrow (fun q e => (HOW.out.lt q e).1))⟩, by simp [intOf]; omega⟩
          · rw [map_take_succ HY.out, HS.out, Int.toNat_natCast, HT.out]
          · rw [ints_append, List.length_append]; exact hown'
        · obtain rfl : j = q.length := by omega
          obtain ⟨A3, c3, hx3, hc3, hm3, _⟩ := own_rd HOW.out
          subst hx3
          rw [maxLen_eq] at hm3
          have HO6 := Lib.hid (HOS.out.below HBL.out)
          have hsB := HBL.out.size
          have hS6 : S.length ≤ 6 := by omega
          subst hLk
          clear hSj
          go_wp2_with (at_builtin; refine wpList_app_rd _ rfl _ _ 53 rfl w0.heap.size 26 iS (.slice none 0 0) 1 24 Tryz.underlying53 hiS hzS0 hzS1 hzS2 rfl (by decide) _ _ _ rfl (HO6.out.outer.alloc _) _ 1 [.slice A3 S.length c3] rfl (rd_new _ rfl (Nat.le_refl _) (by rw [maxLen_eq]; omega)) rfl (by simp [Value.oneCell']) (by rw [maxLen_eq]; omega) (by omega) (by simp; omega) ?_; intro v' w7 hown' hgrow he)
          refine ⟨⟨L.length + 1, vs ++ [.slice A3 S.length c3], L ++ [S], by omega, by simp, by go_num, Lib.hid ?_, Lib.hid ?_, Lib.hid (bel_grown (bel_al (bel_then HBW.out HBL.out) _) hgrow (fun q e => (HO6.out.outer.lt q e).1))⟩, by simp [intOf]; omega⟩
          · have e := HS.out
            rw [List.take_length] at e
            rw [timesL_snoc HX.out, HL.out, Int.toNat_natCast, HEV.out, e]
          · have hal := bel_al (Below.refl wB.heap.size wB) (.cells #[.slice A3 S.length c3] 26)
            refine (HO6.out.below hal).push (own_base (own_below HOW.out hal) (by omega)) (fun q q' e1 e2 => ?_) (fun i z hz q q' e1 e2 => ?_) hown' hgrow he
            · have h1 := (HOS.out.lt.1 q e1).2
              have h2 := (HOW.out.lt q' e2).1
              omega
            · have h1 := (HOS.out.lt.2 i z hz q e1).2
              have h2 := (HOW.out.lt q' e2).1
              omega
    · obtain rfl : k = p.length := by omega
      go_wp2
      go_ret
      have e := HL.out
      rw [List.take_length] at e
      exact ⟨_, rfl, ⟨vs, by rw [e]; exact HO.out.base (by omega)⟩, bel_then HB0.out HB.out⟩

/-- Rows that a function of their place gives. -/
def rowsF (f : Nat → List Int) (m : Nat) : List (List Int) := (List.range m).map f
theorem rowsF_len (f : Nat → List Int) (m : Nat) : (rowsF f m).length = m := by simp [rowsF]
theorem rowsF_get {f : Nat → List Int} {m k : Nat} (h : k < m) : (rowsF f m)[k]? = some (f k) := by simp [rowsF, h]
theorem rowsF_set {f g : Nat → List Int} {m k : Nat} {x : List Int} (hk : k < m) (h : g k = x) (h' : ∀ i, i ≠ k → g i = f i) : (rowsF f m).set k x = rowsF g m := by
  apply List.ext_getElem?
  intro i
  by_cases hik : i = k
  · subst hik
    rw [List.getElem?_set_self (by rw [rowsF_len]; exact hk), rowsF_get hk, h]
  · rw [List.getElem?_set_ne (fun e => hik e.symm)]
    by_cases hi : i < m
    · rw [rowsF_get hi, rowsF_get hi, h' i hik]
    · rw [List.getElem?_eq_none (by rw [rowsF_len]; omega), List.getElem?_eq_none (by rw [rowsF_len]; omega)]
theorem rowsF_eq {f g : Nat → List Int} {m : Nat} (h : ∀ i, i < m → f i = g i) : rowsF f m = rowsF g m := by
  unfold rowsF
  exact List.map_congr_left (fun i hi => h i (List.mem_range.1 hi))
/-- The places in t whose entry at k lies within a. -/
def colP (t : List (List Int)) (a : Int) (k : Nat) (i : Nat) : Bool := inB ((t.getD i []).getD k 0) 0 a
def mvMix (t : List (List Int)) (a : Int) (k j : Nat) (i : Nat) : List Int := if i < k then selI (colP t a i) t.length else if i = k then selI (colP t a i) j else []
def reachT (t : List (List Int)) (m : Nat) (a : Int) : List (List Int) := rowsF (fun k => selI (colP t a k) t.length) m
theorem mvMix_start (t : List (List Int)) (a : Int) (m : Nat) : rowsF (mvMix t a 0 0) m = List.replicate m [] := by
  apply List.ext_getElem?
  intro i
  by_cases hi : i < m
  · rw [rowsF_get hi, List.getElem?_replicate, if_pos hi]
    unfold mvMix
    rw [if_neg (by omega)]
    split <;> rfl
  · rw [List.getElem?_eq_none (by rw [rowsF_len]; omega), List.getElem?_eq_none (by simp; omega)]
theorem mvMix_next (t : List (List Int)) (a : Int) (k m : Nat) : rowsF (mvMix t a k t.length) m = rowsF (mvMix t a (k + 1) 0) m := rowsF_eq (fun i _ => by
  unfold mvMix
  rcases Nat.lt_trichotomy i k with h | h | h
  · rw [if_pos h, if_pos (by omega)]
  · rw [if_neg (by omega), if_pos h, if_pos (by omega)]
  · rw [if_neg (by omega), if_neg (by omega), if_neg (by omega)]
    split <;> rfl)
theorem mvMix_full (t : List (List Int)) (a : Int) (m : Nat) : rowsF (mvMix t a m 0) m = reachT t m a := rowsF_eq (fun i hi => by unfold mvMix; rw [if_pos hi])
theorem mvMix_yes {t : List (List Int)} {a : Int} {k j m : Nat} (hk : k < m) (h : colP t a k j = true) : (rowsF (mvMix t a k j) m).set k (mvMix t a k j k ++ [(j : Int)]) = rowsF (mvMix t a k (j + 1)) m :=
  rowsF_set hk (by unfold mvMix; rw [if_neg (by omega), if_pos rfl, if_neg (by omega), if_pos rfl, selI_yes h]) (fun i hi => by unfold mvMix; rw [if_neg hi, if_neg hi])
theorem mvMix_no {t : List (List Int)} {a : Int} {k j m : Nat} (h : colP t a k j = false) : rowsF (mvMix t a k (j + 1)) m = rowsF (mvMix t a k j) m :=
  rowsF_eq (fun i _ => by unfold mvMix; by_cases e : i = k
                          · subst e; rw [if_neg (by omega), if_pos rfl, if_neg (by omega), if_pos rfl, selI_no h]
                          · rw [if_neg e, if_neg e])
theorem mvMix_len (t : List (List Int)) (a : Int) (k j : Nat) : (mvMix t a k j k).length ≤ j := by
  unfold mvMix; rw [if_neg (by omega), if_pos rfl]; exact selI_len _ _
theorem made_nils (n : Nat) : (madeCells (Value.slice none 0 0).cells (n * 1)).toList = List.replicate n (.slice none 0 0) := by
  rw [made_eq (sz := 1) rfl (by omega)]
  induction n with
  | zero => rfl
  | succ n ih => rw [List.replicate_succ, List.flatten_cons, ih, List.replicate_succ]; rfl
theorem SSv.made {w : World} {base m : Nat} {v : Value} (h : w.ownsRow base 26 1 v m (List.replicate m (.slice none 0 0))) : SSv w base v (List.replicate m (.slice none 0 0)) (List.replicate m []) := by
  have hn : ∀ (i : Nat) (u : Value), (List.replicate m (Value.slice none 0 0))[i]? = some u → u = .slice none 0 0 := fun i u hu => by
    rw [List.getElem?_replicate] at hu
    split at hu
    · exact (Option.some.inj hu).symm
    · cases hu
  refine ⟨by simp, by simpa using h, fun i u l hu hl => ?_, fun i u hu q q' e1 e2 => ?_, fun i j u u' _ hu _ q q' e1 e2 => ?_⟩
  · rw [hn i u hu]
    have : l = [] := by
      rw [List.getElem?_replicate] at hl
      split at hl
      · exact (Option.some.inj hl).symm
      · cases hl
    subst this
    exact World.ownsRow_nil _ _ _ _
  · rw [hn i u hu] at e2; cases e2
  · rw [hn i u hu] at e1; cases e1
end Go.Proofs.YtahehdgkbhjpoaaGreatDoor

namespace Go.Proofs.YtahehdgkbhjpoaaGreatDoor
set_option linter.unusedVariables false
set_option linter.unusedSimpArgs false
open Go.RowKit

theorem st_facts {w : World} {base g m cap k : Nat} {vs : List Value} {z : Value} (h : w.ownsRow base 26 1 (.slice (some ⟨g, 0, none⟩) m cap) m vs) (hz : vs[k]? = some z) (hk : k < m) : w.frozen? ⟨g, k, none⟩ = false ∧ w.cell? ⟨g, k, none⟩ = some z :=
  ⟨h.frozenAt k, (h.cellAt k (by omega)).trans hz⟩
set_option maxRecDepth 100000 in
set_option maxHeartbeats 4000000 in
theorem mvReach_c (v : Value) (t : List (List Int)) (m : Nat) (a : Int) (w : World) (ht7 : t.length ≤ 7) (hm6 : m ≤ 6) (htl : ∀ r ∈ t, r.length = m) (hr : RdSS w v t) :
    Calls Tryz.prog 31 #[v, .int .i64 m, .int .i64 a] w (OwnSS (reachT t m a) w) := by
  obtain ⟨vt, hv⟩ := hr
  have HV := Lib.hid hv
  have hvl := hv.len
  obtain ⟨A, c, rfl, hc, hm, hrt⟩ := hv.outer
  rw [maxLen_eq] at hm
  have HRT := Lib.hid hrt
  have HTL := Lib.hid htl
  obtain ⟨i0, hi, hz0, hz1, hz2⟩ := info_parts Tryz.infoInt
  obtain ⟨iS, hiS, hzS0, hzS1, hzS2⟩ := info_parts Tryz.infoSS
  clear hv hrt htl
  go_enter Tryz.func31, Tryz.ntmps31
  go_wp2_with (at_make; refine wpList_make_full _ rfl _ _ 53 rfl w.heap.size 26 iS _ 1 Tryz.underlying53 hiS hzS0 hzS1 _ _ _ _ m rfl rfl rfl rfl (by rw [hzS2]; omega) (by rw [maxLen_eq]; omega) (Nat.le_refl _) ?_; intro w2 hown2 hg2; rw [made_nils] at hown2)
  have HB2 : Hid (Below w.heap.size w w2) := Lib.hid (bel_grown (Below.refl _ _) hg2 (fun k h => by cases h))
  have HO2 : Hid (SSv w2 w.heap.size (.slice (some ⟨w.heap.size, 0, none⟩) m m) (List.replicate m (.slice none 0 0)) (rowsF (mvMix t a 0 0) m)) := Lib.hid (by rw [mvMix_start]; exact SSv.made hown2)
  obtain ⟨g, hgdef⟩ : ∃ g, g = w.heap.size := ⟨_, rfl⟩
  have hsz2 : w.heap.size < w2.heap.size := (hown2.lt w.heap.size rfl).2
  have HO3 : Hid (SSv w2 w.heap.size (.slice (some ⟨g, 0, none⟩) m m) (List.replicate m (.slice none 0 0)) (rowsF (mvMix t a 0 0) m)) := by rw [hgdef]; exact HO2
  rw [← hgdef]
  have hgw : w.heap.size ≤ g := by omega
  clear hown2 hg2 HO2 hgdef
  go_loopw [15] (fun v15 wr => ∃ (k : Nat) (vs : List Value), k ≤ m ∧ v15 = .int .i64 k ∧ Hid (SSv wr w.heap.size (.slice (some ⟨g, 0, none⟩) m m) vs (rowsF (mvMix t a k 0) m)) ∧ Hid (Below w.heap.size w wr)) (fun v15 _ => m - (intOf v15).toNat)
  case atStart => exact ⟨0, _, Nat.zero_le _, rfl, HO3, HB2⟩
  case round =>
    obtain ⟨k, vs, hk, rfl, HO, HB⟩ := hrel
    obtain ⟨wA, rfl⟩ : ∃ wA : World, wA = wr := ⟨_, rfl⟩
    by_cases hlt : k < m
    · go_wp2_with fail
      go_loopw [20] (fun v20 wr => ∃ (j : Nat) (vs : List Value), j ≤ t.length ∧ v20 = .int .i64 j ∧ Hid (SSv wr w.heap.size (.slice (some ⟨g, 0, none⟩) m m) vs (rowsF (mvMix t a k j) m)) ∧ Hid (Below w.heap.size w wr)) (fun v20 _ => t.length - (intOf v20).toNat)
      case atStart => exact ⟨0, vs, Nat.zero_le _, rfl, HO, HB⟩
      case round =>
        obtain ⟨j, vs, hj, rfl, HOW, HBL⟩ := hrel
        obtain ⟨wB, rfl⟩ : ∃ wB : World, wB = wr := ⟨_, rfl⟩
        by_cases hjn : j < t.length
        · obtain ⟨b, off, rfl, hbl, hcell⟩ := HRT.out (by omega)
          obtain ⟨x, hx⟩ : ∃ x, vt[j]? = some x := ⟨_, List.getElem?_eq_getElem (by omega)⟩
          obtain ⟨r, hr⟩ : ∃ r, t[j]? = some r := ⟨_, List.getElem?_eq_getElem hjn⟩
          have c0 := cell_at hcell HBL.out hbl hx
          have hrm := HTL.out r (List.mem_of_getElem? hr)
          obtain ⟨A5, c5, rfl, hc5, hm5, hr5⟩ := HV.out.inner j x r hx hr
          obtain ⟨b5, off5, rfl, hbl5, hcell5⟩ := hr5 (by omega)
          obtain ⟨y, hy⟩ : ∃ y, r[k]? = some y := ⟨_, List.getElem?_eq_getElem (by omega)⟩
          have d0 := cell_at hcell5 HBL.out hbl5 (ints_get hy)
          have hcp : colP t a k j = inB y 0 a := by unfold colP; rw [show t.getD j [] = r by simp [List.getD_eq_getElem?_getD, hr], show r.getD k 0 = y by simp [List.getD_eq_getElem?_getD, hy]]
          have HCP := Lib.hid hcp
          have k0 : (0 : Int) ≤ (k : Int) := by omega
          have k1 : (k : Int) < (r.length : Int) := by omega
          rw [maxLen_eq] at hm5
          have hsB := HBL.out.size
          clear hcell hx hr hr5 hcell5 hy hcp
          by_cases hyes : inB y 0 a = true
          · obtain ⟨z, hz⟩ : ∃ z, vs[k]? = some z := ⟨_, List.getElem?_eq_getElem (by have := HOW.out.len; rw [rowsF_len] at this; omega)⟩
            have HIN := Lib.hid (HOW.out.inner k z _ hz (rowsF_get hlt))
            have hml := mvMix_len t a k j
            obtain ⟨S, hS⟩ : ∃ S, mvMix t a k j k = S := ⟨_, rfl⟩
            rw [hS] at HIN hml
            have HS := Lib.hid hS
            obtain ⟨A7, c7, hx7, hc7, hm7, _⟩ := own_rd HIN.out
            subst hx7
            rw [maxLen_eq] at hm7
            have hout : wB.ownsRow w.heap.size 26 1 (.slice (some ⟨g, 0, none⟩) m m) m vs := by have h := HOW.out.outer; rw [rowsF_len] at h; exact h
            have e0 := (hout.cellAt k (by omega)).trans hz
            have HOUT := Lib.hid hout
            have HZ := Lib.hid hz
            have hgB := (hout.lt g rfl).2
            clear hS hz hout
            go_wp2_with (first | (go_at_call 63; refine (l1In_c _ _ _ _).mono ?_; rintro e w' ⟨rfl, rfl⟩) | (at_builtin; refine wpList_app_rd _ rfl _ _ 26 rfl w.heap.size 3 i0 (.int .i64 0) 1 8 Tryz.underlying26 hi hz0 hz1 hz2 rfl (by decide) _ _ _ rfl (HIN.out.alloc _) _ 1 [.int .i64 j] rfl (rd_new _ rfl (Nat.le_refl _) (by rw [maxLen_eq]; omega)) rfl (ints_one [(j : Int)]) (by rw [maxLen_eq]; omega) (by omega) (by simp; omega) ?_; intro v' w7 hown' hgrow he; obtain ⟨A8, c8, hx8, hc8, hm8, _⟩ := own_rd hown'; subst hx8; rw [maxLen_eq] at hm8; obtain ⟨f0, g0⟩ := st_facts (kept2 (HOUT.out.alloc _) hgrow (HOW.out.sep k _ HZ.out)) HZ.out hlt))
            have hal := bel_al (Below.refl wB.heap.size wB) (.cells #[.int .i64 (j : Int)] 3)
            have HSS := HOW.out.below hal
            have hgr := SSv.grow (l' := S ++ [(j : Int)]) (cap := m) (g := g) (by rw [rowsF_len]; exact HSS) HZ.out (by rw [ints_append, List.length_append]; exact hown') hgrow he
            rw [rowsF_len, ← HS.out, mvMix_yes hlt (by rw [HCP.out]; exact hyes), HS.out] at hgr
            refine ⟨⟨j + 1, _, by omega, by go_num, Lib.hid hgr, Lib.hid ?_⟩, by simp [intOf]; omega⟩
            exact (bel_grown (bel_al HBL.out _) hgrow (fun q e => (HIN.out.lt q e).1)).setCell (by omega) _
          · have hno : inB y 0 a = false := by simpa using hyes
            have HN := Lib.hid (mvMix_no (m := m) (show colP t a k j = false by rw [HCP.out]; exact hno))
            clear hyes
            go_wp2_with (go_at_call 63; refine (l1In_c _ _ _ _).mono ?_; rintro e w' ⟨rfl, rfl⟩)
            exact ⟨⟨j + 1, vs, by omega, by go_num, by rw [HN.out]; exact HOW, HBL⟩, by simp [intOf]; omega⟩
        · obtain rfl : j = t.length := by omega
          go_wp2
          refine ⟨⟨k + 1, vs, by omega, by go_num, by rw [← mvMix_next]; exact HOW, HBL⟩, by simp [intOf]; omega⟩
    · obtain rfl : k = m := by omega
      go_wp2
      go_ret
      exact ⟨_, rfl, ⟨vs, by rw [← mvMix_full]; exact HO.out⟩, HB.out⟩
end Go.Proofs.YtahehdgkbhjpoaaGreatDoor

namespace Go.Proofs.YtahehdgkbhjpoaaGreatDoor
set_option linter.unusedVariables false
set_option linter.unusedSimpArgs false
open Go.RowKit

theorem selI_same {p p' : Nat → Bool} {k : Nat} (h : ∀ i, i < k → p i = p' i) : selI p k = selI p' k := by
  unfold selI
  rw [List.filter_congr (fun i hi => h i (List.mem_range.1 hi))]
theorem timesL_len (n : Nat) (ar : List Arc) (p q : List Int) : (timesL n ar p q).length = p.length := by simp [timesL]
theorem timesL_rows {n : Nat} {ar : List Arc} {p q : List Int} : ∀ r ∈ timesL n ar p q, r.length = q.length := fun r hr => by
  unfold timesL at hr
  obtain ⟨x, _, rfl⟩ := List.mem_map.1 hr
  simp
theorem timesL_at {n : Nat} {ar : List Arc} {p q : List Int} {i k : Nat} {x s : Int} (hx : p[i]? = some x) (hs : q[k]? = some s) : ((timesL n ar p q).getD i []).getD k 0 = (distT n ar x.toNat).getD s.toNat 0 := by
  unfold timesL
  have e : (p.map fun x => q.map fun s => (distT n ar x.toNat).getD s.toNat 0).getD i [] = q.map fun s => (distT n ar x.toNat).getD s.toNat 0 := by rw [List.getD_eq_getElem?_getD, List.getElem?_map, hx]; rfl
  rw [e, List.getD_eq_getElem?_getD, List.getElem?_map, hs]
  rfl
theorem reachT_eq {n : Nat} {l : List St} {p q : List Int} {a : Int} (hg : goodTown n l = true) (hp : ∀ x ∈ p, 0 ≤ x ∧ x ≤ (n : Int) - 1) (hq : ∀ x ∈ q, 0 ≤ x ∧ x ≤ (n : Int) - 1) : reachT (timesL n (arcs l) p q) q.length a = reachL n (arcs l) p q a := by
  have hA := arcs_good hg
  rw [Int.toNat_natCast] at hA
  apply List.ext_getElem?
  intro k
  by_cases hk : k < q.length
  · obtain ⟨s, hs⟩ : ∃ s, q[k]? = some s := ⟨_, List.getElem?_eq_getElem hk⟩
    unfold reachT reachL
    rw [rowsF_get hk, List.getElem?_map, hs, Option.map_some, timesL_len]
    congr 1
    refine selI_same (fun i hi => ?_)
    obtain ⟨x, hx⟩ : ∃ x, p[i]? = some x := ⟨_, List.getElem?_eq_getElem hi⟩
    have h1 := hp x (List.mem_of_getElem? hx)
    have h2 := hq s (List.mem_of_getElem? hs)
    unfold colP reachP
    rw [timesL_at hx hs, show p.getD i 0 = x by simp [List.getD_eq_getElem?_getD, hx], dist_sym hA (u := x.toNat) (v := s.toNat) (by omega) (by omega)]
  · rw [List.getElem?_eq_none (by unfold reachT; rw [rowsF_len]; omega), List.getElem?_eq_none (by rw [reachL_len]; omega)]

def askM (n : Int) (l : List St) (p q : List Int) (a : Int) : Bool := goodMv n l p q && inB a 0 36000
theorem askM_true {n : Int} {l : List St} {p q : List Int} {a : Int} (h : askM n l p q a = true) : goodMv n l p q = true ∧ inB a 0 36000 = true := by
  unfold askM at h; rwa [Bool.and_eq_true] at h
def reachTableV (n : Int) (l : List St) (p q : List Int) (a : Int) : List (List Int) × Bool := if askM n l p q a = true then (reachL n.toNat (arcs l) p q a, true) else ([], false)
theorem reachTableV_len (n : Int) (l : List St) (p q : List Int) (a : Int) : totL (reachTableV n l p q a).1 ≤ 1000000 := by
  unfold reachTableV
  split
  · rename_i h
    obtain ⟨_, _, h6, h7, _⟩ := goodMv_true (askM_true h).1
    dsimp only
    have : ∀ L : List (List Int), (∀ r ∈ L, r.length ≤ 7) → totL L ≤ 7 * L.length := by
      intro L
      induction L with
      | nil => intro _; simp [totL]
      | cons r L ih =>
        intro h
        have h1 := h r (by simp)
        have h2 := ih (fun x hx => h x (by simp [hx]))
        unfold totL at h2 ⊢
        simp only [List.map_cons, List.sum_cons, List.length_cons]
        omega
    have h3 := this (reachL n.toNat (arcs l) p q a) (fun r hr => by
      unfold reachL at hr
      obtain ⟨x, _, rfl⟩ := List.mem_map.1 hr
      have := selI_len (reachP n.toNat (arcs l) p a x) p.length
      omega)
    rw [reachL_len] at h3
    omega
  · simp [totL]

set_option maxRecDepth 100000 in
set_option maxHeartbeats 4000000 in
theorem reachTableS_c (n : Int) (s : Value) (l : List St) (v : Value) (p : List Int) (u : Value) (q : List Int) (a : Int) (w : World) (hr : Rd w s l.length (l.flatMap St.cells)) (hp : RdI w v p) (hq : RdI w u q) :
    Calls Tryz.prog 32 #[.agg #[.int .i64 n, s], v, u, .int .i64 a] w (OwnSB (reachTableV n l p q a) w) := by
  have HR := Lib.hid hr
  have HQ := Lib.hid hq
  have HP := Lib.hid hp
  obtain ⟨Au, cu, rfl, _, _, _⟩ := hq
  clear hr hp
  go_enter Tryz.func32, Tryz.ntmps32
  go_wp2_with fail
  generalize hW : World.alloc w _ = w0
  have t0 : w0.cell? ⟨w.heap.size, 0, none⟩ = some (.int .i64 n) := by subst hW; simp [go_sem]
  have t1 : w0.cell? ⟨w.heap.size, 1, none⟩ = some s := by subst hW; simp [go_sem]
  have hb0 : Below w.heap.size w w0 := by subst hW; exact bel_al (Below.refl _ _) _
  have z0 : w.heap.size < w0.heap.size := by subst hW; simp
  have HB := Lib.hid hb0
  clear hW hb0
  go_wp2_with fail
  refine (mvAsked_c n s l _ _ p q _ (rd_below HR.out HB.out) (rdi_below HP.out HB.out) (rdi_below HQ.out HB.out)).mono ?_; rintro e w1 ⟨rfl, hb1⟩
  have k0 := (hb1.cell (p := ⟨w.heap.size, 0, none⟩) z0).trans t0
  have k1 := (hb1.cell (p := ⟨w.heap.size, 1, none⟩) z0).trans t1
  have HB1 := Lib.hid (bel_then HB.out hb1)
  have hs1 := hb1.size
  clear t0 t1 hb1
  by_cases hok : goodMv n l p q = true
  · by_cases hlm : inB a 0 36000 = true
    · have hask : askM n l p q a = true := by unfold askM; rw [hok, hlm]; rfl
      have HASK := Lib.hid hask
      obtain ⟨g1, g2, g3, g4, g5⟩ := goodMv_true hok
      obtain ⟨m, rfl⟩ := nat_of (goodTown_true g1).1
      rw [hok]
      go_wp2_with fail
      refine (dsLimit_c a _).mono ?_; rw [hlm]; rintro e w2 ⟨rfl, rfl⟩
      go_wp2_with fail
      refine (mvTimes_c m s _ _ l p q _ g1 g5 g2 g4 g3 (rd_below HR.out HB1.out) (rdi_below HP.out HB1.out) (rdi_below HQ.out HB1.out)).mono ?_; rintro e w3 ⟨v3, rfl, ho3, hb3⟩
      have HO3 := Lib.hid ho3
      have HB3 := Lib.hid (bel_then HB1.out hb3)
      have hs3 := hb3.size
      clear ho3 hb3 hok
      go_wp2_with fail
      refine (mvReach_c _ _ q.length a _ (by rw [timesL_len]; exact g4) g3 timesL_rows HO3.out.rd).mono ?_; rintro e w4 ⟨v4, rfl, ho4, hb4⟩
      rw [reachT_eq g1 g5 g2] at ho4
      go_wp2
      go_ret2
      unfold reachTableV; rw [if_pos HASK.out]
      exact ⟨_, rfl, ho4.base (by have := HB3.out.size; omega), bel_then HB3.out hb4⟩
    · have hlm : inB a 0 36000 = false := by simpa using hlm
      have hask : ¬ (askM n l p q a = true) := by unfold askM; rw [hlm]; simp
      have HASK := Lib.hid hask
      rw [hok]
      go_wp2_with fail
      refine (dsLimit_c a _).mono ?_; rw [hlm]; rintro e w2 ⟨rfl, rfl⟩
      go_wp2
      go_ret2
      unfold reachTableV; rw [if_neg HASK.out]
      exact ⟨_, rfl, ⟨[], SSv.nil _ _⟩, HB1.out⟩
  · have hok : goodMv n l p q = false := by simpa using hok
    have hask : ¬ (askM n l p q a = true) := by unfold askM; rw [hok]; simp
    have HASK := Lib.hid hask
    rw [hok]
    go_wp2
    go_ret2
    unfold reachTableV; rw [if_neg HASK.out]
    exact ⟨_, rfl, ⟨[], SSv.nil _ _⟩, HB1.out⟩
end Go.Proofs.YtahehdgkbhjpoaaGreatDoor

namespace Go.Proofs.YtahehdgkbhjpoaaGreatDoor
set_option linter.unusedVariables false
set_option linter.unusedSimpArgs false
open Go.RowKit

def onceAt (f : Nat) (r : List Int) (k : Nat) : Bool := match r[k]? with | none => true | some x => inB x (-1) ((f : Int) - 1) && (decide (x < 0) || !(decide (x ∈ r.take k)))
def goodOn (f m : Nat) (r : List Int) : Bool := decide (r.length = m) && (List.range r.length).all (onceAt f r)
theorem goodOn_true {f m : Nat} {r : List Int} (h : goodOn f m r = true) : r.length = m ∧ ∀ x ∈ r, -1 ≤ x ∧ x ≤ (f : Int) - 1 := by
  unfold goodOn at h
  simp only [Bool.and_eq_true, decide_eq_true_eq, List.all_eq_true] at h
  refine ⟨h.1, fun x hx => ?_⟩
  obtain ⟨k, hk, rfl⟩ := List.getElem_of_mem hx
  have := h.2 k (List.mem_range.2 hk)
  unfold onceAt at this
  rw [List.getElem?_eq_getElem hk] at this
  simp only [Bool.and_eq_true] at this
  exact inB_true this.1
theorem once_false {f m : Nat} {r : List Int} {k : Nat} (hk : k < r.length) (h : onceAt f r k = false) : goodOn f m r = false := by
  unfold goodOn
  rw [show (List.range r.length).all (onceAt f r) = false from List.all_eq_false.2 ⟨k, List.mem_range.2 hk, by rw [h]; simp⟩]
  simp
theorem once_succ {f : Nat} {r : List Int} {k : Nat} (h : (List.range k).all (onceAt f r) = true) (h' : onceAt f r k = true) : (List.range (k + 1)).all (onceAt f r) = true := by
  rw [List.range_succ, List.all_append, h]; simp [h']
theorem rdi_pre {w : World} {A : Option Addr} {c j : Nat} {l : List Int} (h : RdI w (.slice A l.length c) l) (hj : j ≤ l.length) : RdI w (.slice A j c) (l.take j) := by
  obtain ⟨A', c', hv, h1, h2, h3⟩ := h
  injection hv with hA _ hcc
  subst hA; subst hcc
  refine ⟨_, _, by rw [List.length_take, Nat.min_eq_left hj], by rw [List.length_take]; omega, h2, fun hn => ?_⟩
  rw [List.length_take] at hn
  obtain ⟨b, off, e, hb, hcell⟩ := h3 (by omega)
  refine ⟨b, off, e, hb, fun q u hu => hcell q u ?_⟩
  rw [ints, List.map_take, List.getElem?_take] at hu
  split at hu
  · exact hu
  · cases hu

set_option maxRecDepth 100000 in
set_option maxHeartbeats 1000000 in
theorem isAssignment_c (f m : Nat) (v : Value) (r : List Int) (w : World) (hf : f ≤ 7) (hm6 : m ≤ 6) (hr : RdI w v r) :
    Calls Tryz.prog 39 #[.int .i64 f, .int .i64 m, v] w fun e w' => e = .returned (.bool (goodOn f m r)) ∧ w = w' := by
  have HR := Lib.hid hr
  obtain ⟨A, c, rfl, hc, hm, hr⟩ := hr
  rw [maxLen_eq] at hm
  have s1 : IntKind.i64.wrap ((f : Int) - 1) = (f : Int) - 1 := IntWalk.i64_in _ (by omega)
  go_enter Tryz.func39, Tryz.ntmps39
  go_wp2
  go_loopw [11] (fun i wr => ∃ k : Nat, k ≤ r.length ∧ i = .int .i64 k ∧ Hid ((List.range k).all (onceAt f r) = true) ∧ wr = w) (fun i _ => r.length - (intOf i).toNat)
  case atStart => exact ⟨0, Nat.zero_le _, rfl, Lib.hid rfl, rfl⟩
  case round =>
    obtain ⟨k, hk, rfl, HA, rfl⟩ := hrel
    by_cases hlt : k < r.length
    · obtain ⟨b, off, rfl, hbl, hcell⟩ := hr (by omega)
      obtain ⟨x, hx⟩ : ∃ x, r[k]? = some x := ⟨_, List.getElem?_eq_getElem hlt⟩
      have c0 := hcell _ _ (ints_get hx)
      have HX := Lib.hid hx
      have HT := Lib.hid (rdi_pre HR.out (j := k) (by omega))
      have k0 : (0 : Int) ≤ (k : Int) := by omega
      have k1 : (k : Int) ≤ (c : Int) := by omega
      clear hcell hx hr
      by_cases hin : inB x (-1) ((f : Int) - 1) = true
      · by_cases hneg : x < 0
        · have hge : decide (0 ≤ x) = false := decide_eq_false (by omega)
          go_wp2_with (go_at_call 58; refine (inside_c _ _ _ _).mono ?_; rw [hin]; rintro e w2 ⟨rfl, rfl⟩)
          refine ⟨⟨k + 1, by omega, by go_num, Lib.hid (once_succ HA.out ?_), (by first | rfl | trivial)⟩, by simp [intOf]; omega⟩
          unfold onceAt; rw [HX.out]; simp [hin, hneg]
        · have hge : decide (0 ≤ x) = true := decide_eq_true (by omega)
          have hge0 : 0 ≤ x := by omega
          by_cases hmem : x ∈ r.take k
          · have hd : decide (x ∈ r.take k) = true := decide_eq_true hmem
            have HD := Lib.hid hmem
            go_wp2_with (first | (go_at_call 58; refine (inside_c _ _ _ _).mono ?_; rw [hin]; rintro e w2 ⟨rfl, rfl⟩) | (go_at_call 66; refine (contains_c _ x (r.take k) _ HT.out).mono ?_; rw [hd]; rintro e w2 ⟨rfl, rfl⟩))
            go_ret
            refine ⟨?_, rfl⟩
            rw [once_false hlt (by unfold onceAt; rw [HX.out]; simp [hin, HD.out]; omega)]; rfl
          · have hd : decide (x ∈ r.take k) = false := decide_eq_false hmem
            have HD := Lib.hid hmem
            go_wp2_with (first | (go_at_call 58; refine (inside_c _ _ _ _).mono ?_; rw [hin]; rintro e w2 ⟨rfl, rfl⟩) | (go_at_call 66; refine (contains_c _ x (r.take k) _ HT.out).mono ?_; rw [hd]; rintro e w2 ⟨rfl, rfl⟩))
            refine ⟨⟨k + 1, by omega, by go_num, Lib.hid (once_succ HA.out ?_), (by first | rfl | trivial)⟩, by simp [intOf]; omega⟩
            unfold onceAt; rw [HX.out]; simp [hin, HD.out]
      · have hin : inB x (-1) ((f : Int) - 1) = false := by simpa using hin
        go_wp2_with (go_at_call 58; refine (inside_c _ _ _ _).mono ?_; rw [hin]; rintro e w2 ⟨rfl, rfl⟩)
        go_ret
        refine ⟨?_, rfl⟩
        rw [once_false hlt (by unfold onceAt; rw [HX.out]; simp [hin])]; rfl
    · obtain rfl : k = r.length := by omega
      go_wp2
      go_ret
      refine ⟨?_, rfl⟩
      unfold goodOn
      rw [HA.out]
      have : decide (r.length = m) = ((r.length : Int) == (m : Int)) := by
        by_cases h : r.length = m
        · rw [decide_eq_true h, h]; simp
        · rw [decide_eq_false h]; symm; rw [beq_eq_false_iff_ne]; omega
      rw [this]; simp

set_option maxRecDepth 100000 in
set_option maxHeartbeats 1000000 in
theorem mvOnce_c (v u t : Value) (p q r : List Int) (w : World) (hf : p.length ≤ 7) (hp : RdI w v p) (hq : RdI w u q) (hr : RdI w t r) :
    Calls Tryz.prog 37 #[v, u, t] w fun e w' => e = .returned (.bool (goodOn p.length q.length r)) ∧ w = w' := by
  have HR := Lib.hid hr
  obtain ⟨A, c, rfl, hc, hm, hr⟩ := hr
  obtain ⟨Ap, cp, rfl, hcp, hmp, _⟩ := hp
  obtain ⟨Aq, cq, rfl, hcq, hmq, _⟩ := hq
  rw [maxLen_eq] at hm hmp hmq
  have s1 : IntKind.i64.wrap ((p.length : Int) - 1) = (p.length : Int) - 1 := IntWalk.i64_in _ (by omega)
  by_cases hlen : r.length = q.length
  · have hlb : ((r.length : Int) != (q.length : Int)) = false := by rw [hlen]; simp
    have HL := Lib.hid hlen
    clear hlen
    by_cases hall : (r.all fun n => inB n (-1) ((p.length : Int) - 1)) = true
    · have HALL := Lib.hid hall
      go_enter Tryz.func37, Tryz.ntmps37
      go_wp2_with (go_at_call 44; refine (allI_c _ r _ _ _ HR.out).mono ?_; rw [HALL.out]; rintro e w2 ⟨rfl, rfl⟩)
      clear hall
      go_loopw [24] (fun i wr => ∃ k : Nat, k ≤ r.length ∧ i = .int .i64 k ∧ Hid ((List.range k).all (onceAt p.length r) = true) ∧ wr = w) (fun i _ => r.length - (intOf i).toNat)
      case atStart => exact ⟨0, Nat.zero_le _, rfl, Lib.hid rfl, rfl⟩
      case round =>
        obtain ⟨k, hk, rfl, HA, rfl⟩ := hrel
        by_cases hlt : k < r.length
        · obtain ⟨b, off, rfl, hbl, hcell⟩ := hr (by omega)
          obtain ⟨x, hx⟩ : ∃ x, r[k]? = some x := ⟨_, List.getElem?_eq_getElem hlt⟩
          have c0 := hcell _ _ (ints_get hx)
          have hin := List.all_eq_true.1 HALL.out x (List.mem_of_getElem? hx)
          have HIN : Hid (inB x (-1) ((p.length : Int) - 1) = true) := Lib.hid hin
          have HX := Lib.hid hx
          have HT := Lib.hid (rdi_pre HR.out (j := k) (by omega))
          have k0 : (0 : Int) ≤ (k : Int) := by omega
          have k1 : (k : Int) ≤ (c : Int) := by omega
          clear hcell hx hr hin
          by_cases hneg : x < 0
          · have hge : decide (0 ≤ x) = false := decide_eq_false (by omega)
            go_wp2
            refine ⟨⟨k + 1, by omega, by go_num, Lib.hid (once_succ HA.out ?_), (by first | rfl | trivial)⟩, by simp [intOf]; omega⟩
            unfold onceAt; rw [HX.out]; simp [HIN.out, hneg]
          · have hge : decide (0 ≤ x) = true := decide_eq_true (by omega)
            have hge0 : 0 ≤ x := by omega
            by_cases hmem : x ∈ r.take k
            · have hd : decide (x ∈ r.take k) = true := decide_eq_true hmem
              have HD := Lib.hid hmem
              go_wp2_with (go_at_call 38; refine (l1Has_c _ x (r.take k) _ HT.out).mono ?_; rw [hd]; rintro e w2 ⟨rfl, rfl⟩)
              go_ret
              refine ⟨?_, rfl⟩
              rw [once_false hlt (by unfold onceAt; rw [HX.out]; simp [HIN.out, HD.out]; omega)]; rfl
            · have hd : decide (x ∈ r.take k) = false := decide_eq_false hmem
              have HD := Lib.hid hmem
              go_wp2_with (go_at_call 38; refine (l1Has_c _ x (r.take k) _ HT.out).mono ?_; rw [hd]; rintro e w2 ⟨rfl, rfl⟩)
              refine ⟨⟨k + 1, by omega, by go_num, Lib.hid (once_succ HA.out ?_), (by first | rfl | trivial)⟩, by simp [intOf]; omega⟩
              unfold onceAt; rw [HX.out]; simp [HIN.out, HD.out]
        · obtain rfl : k = r.length := by omega
          go_wp2
          go_ret
          refine ⟨?_, rfl⟩
          unfold goodOn
          rw [HA.out]; simp [HL.out]
    · have hall' : (r.all fun n => inB n (-1) ((p.length : Int) - 1)) = false := by simpa using hall
      have HALL := Lib.hid hall'
      have hgo : goodOn p.length q.length r = false := by
        cases hg : goodOn p.length q.length r with
        | false => rfl
        | true => exact absurd (List.all_eq_true.2 (fun x hx => by have := (goodOn_true hg).2 x hx; unfold inB; simp; omega)) hall
      have HGO := Lib.hid hgo
      clear hall hall' hgo
      go_enter Tryz.func37, Tryz.ntmps37
      go_wp2_with (go_at_call 44; refine (allI_c _ r _ _ _ HR.out).mono ?_; rw [HALL.out]; rintro e w2 ⟨rfl, rfl⟩)
      go_ret
      exact ⟨ret_b HGO.out.symm, rfl⟩
  · have hlb : ((r.length : Int) != (q.length : Int)) = true := by simp; omega
    have HGO : Hid (goodOn p.length q.length r = false) := Lib.hid (by unfold goodOn; rw [decide_eq_false hlen]; rfl)
    go_enter Tryz.func37, Tryz.ntmps37
    go_wp2
    go_ret
    exact ⟨ret_b HGO.out.symm, rfl⟩
end Go.Proofs.YtahehdgkbhjpoaaGreatDoor

namespace Go.Proofs.YtahehdgkbhjpoaaGreatDoor
set_option linter.unusedVariables false
set_option linter.unusedSimpArgs false
open Go.RowKit

/-- The time from the k-th station's mover to it. -/
def moveT (n : Nat) (ar : List Arc) (p q r : List Int) (k : Nat) : Int := (distT n ar (p.getD (r.getD k 0).toNat 0).toNat).getD (q.getD k 0).toNat 0
def slowK (n : Nat) (ar : List Arc) (p q r : List Int) : Nat → Option Int
  | 0 => some 0
  | k + 1 => match slowK n ar p q r k with
    | none => none
    | some m => if r.getD k 0 < 0 then some m else if moveT n ar p q r k < 0 then none else some (maxI m (moveT n ar p q r k))
theorem slowK_skip {n : Nat} {ar : List Arc} {p q r : List Int} {k : Nat} {m : Int} (h : slowK n ar p q r k = some m) (h1 : r.getD k 0 < 0) : slowK n ar p q r (k + 1) = some m := by
  simp only [slowK]; rw [h]; simp only [if_pos h1]
theorem slowK_out {n : Nat} {ar : List Arc} {p q r : List Int} {k : Nat} {m : Int} (h : slowK n ar p q r k = some m) (h1 : ¬ (r.getD k 0 < 0)) (h2 : moveT n ar p q r k < 0) : slowK n ar p q r (k + 1) = none := by
  simp only [slowK]; rw [h]; simp only [if_neg h1, if_pos h2]
theorem slowK_max {n : Nat} {ar : List Arc} {p q r : List Int} {k : Nat} {m : Int} (h : slowK n ar p q r k = some m) (h1 : ¬ (r.getD k 0 < 0)) (h2 : ¬ (moveT n ar p q r k < 0)) : slowK n ar p q r (k + 1) = some (maxI m (moveT n ar p q r k)) := by
  simp only [slowK]; rw [h]; simp only [if_neg h1, if_neg h2]
theorem slowK_none {n : Nat} {ar : List Arc} {p q r : List Int} {k : Nat} (h : slowK n ar p q r k = none) : ∀ j, slowK n ar p q r (k + j) = none := by
  intro j
  induction j with
  | zero => exact h
  | succ j ih => rw [← Nat.add_assoc]; simp only [slowK]; rw [ih]
def optB (o : Option Int) : Int × Bool := match o with | some m => (m, true) | none => (0, false)
def askO (n : Int) (l : List St) (p q r : List Int) : Bool := goodMv n l p q && goodOn p.length q.length r
def slowestMoveV (n : Int) (l : List St) (p q r : List Int) : Int × Bool := if askO n l p q r = true then optB (slowK n.toNat (arcs l) p q r r.length) else (0, false)
theorem getD_of {l : List Int} {k : Nat} {x : Int} (h : l[k]? = some x) : l.getD k 0 = x := by simp [List.getD_eq_getElem?_getD, h]

set_option maxRecDepth 100000 in
set_option maxHeartbeats 4000000 in
theorem slowestMoveI_c (n : Int) (s : Value) (l : List St) (v : Value) (p : List Int) (u : Value) (q : List Int) (t : Value) (r : List Int) (w : World) (hr : Rd w s l.length (l.flatMap St.cells)) (hp : RdI w v p) (hq : RdI w u q) (ht : RdI w t r) :
    Calls Tryz.prog 10 #[.agg #[.int .i64 n, s], v, u, t] w fun e w' => e = .returned (.tuple #[.int .i64 (slowestMoveV n l p q r).1, .bool (slowestMoveV n l p q r).2]) ∧ Below w.heap.size w w' := by
  have HR := Lib.hid hr
  have HQ := Lib.hid hq
  have HP := Lib.hid hp
  have HT := Lib.hid ht
  obtain ⟨Ap, cp, rfl, hcp, hmp, hp⟩ := hp
  obtain ⟨Aq, cq, rfl, hcq, hmq, hq⟩ := hq
  obtain ⟨At, ct, rfl, hct, hmt, ht⟩ := ht
  rw [maxLen_eq] at hmp hmq hmt
  have HPP := Lib.hid hp
  have HQQ := Lib.hid hq
  have HTT := Lib.hid ht
  clear hr hp hq ht
  go_enter Tryz.func10, Tryz.ntmps10
  go_wp2_with fail
  generalize hW : World.alloc w _ = w0
  have t0 : w0.cell? ⟨w.heap.size, 0, none⟩ = some (.int .i64 n) := by subst hW; simp [go_sem]
  have t1 : w0.cell? ⟨w.heap.size, 1, none⟩ = some s := by subst hW; simp [go_sem]
  have hb0 : Below w.heap.size w w0 := by subst hW; exact bel_al (Below.refl _ _) _
  have z0 : w.heap.size < w0.heap.size := by subst hW; simp
  have HB := Lib.hid hb0
  clear hW hb0
  refine (moversFit_c n s l _ _ p q _ _ t0 t1 (rd_below HR.out HB.out) (rdi_below HP.out HB.out) (rdi_below HQ.out HB.out)).mono ?_; rintro e w1 ⟨rfl, hb1⟩
  have k0 := (hb1.cell (p := ⟨w.heap.size, 0, none⟩) z0).trans t0
  have k1 := (hb1.cell (p := ⟨w.heap.size, 1, none⟩) z0).trans t1
  have HB1 := Lib.hid (bel_then HB.out hb1)
  have hs1 := hb1.size
  clear t0 t1 hb1
  by_cases hok : goodMv n l p q = true
  · obtain ⟨g1, g2, g3, g4, g5⟩ := goodMv_true hok
    by_cases hon : goodOn p.length q.length r = true
    · have hask : askO n l p q r = true := by unfold askO; rw [hok, hon]; rfl
      have HASK := Lib.hid hask
      obtain ⟨m, rfl⟩ := nat_of (goodTown_true g1).1
      obtain ⟨hrq, hrb⟩ := goodOn_true hon
      have HRQ := Lib.hid hrq
      clear hrq
      have HG1 := Lib.hid g1
      have HG2 := Lib.hid g2
      have HG5 := Lib.hid g5
      have HRB := Lib.hid hrb
      have K0 := Lib.hid k0
      have K1 := Lib.hid k1
      have HF : Hid (slowestMoveV (m : Int) l p q r = optB (slowK m (arcs l) p q r r.length)) := Lib.hid (by unfold slowestMoveV; rw [if_pos hask, Int.toNat_natCast])
      rw [hok]
      go_wp2_with fail
      refine (isAssignment_c p.length q.length _ r _ g4 g3 (rdi_below HT.out HB1.out)).mono ?_; rw [hon]; rintro e w2 ⟨rfl, rfl⟩
      clear g1 g2 g5 hrb hok hon hask k0 k1
      go_wp2_with fail
      go_loopw [10, 29] (fun v10 v29 wr => ∃ (k : Nat) (M : Int), k ≤ r.length ∧ v29 = .int .i64 k ∧ v10 = .int .i64 M ∧ Hid (slowK m (arcs l) p q r k = some M) ∧ Hid (Below w1.heap.size w1 wr)) (fun _ v29 _ => r.length - (intOf v29).toNat)
      case atStart => exact ⟨0, 0, Nat.zero_le _, rfl, rfl, Lib.hid rfl, Lib.hid (Below.refl _ _)⟩
      case round =>
        obtain ⟨k, M, hk, rfl, rfl, HM, HBL⟩ := hrel
        obtain ⟨wA, rfl⟩ : ∃ wA : World, wA = wr := ⟨_, rfl⟩
        by_cases hlt : k < r.length
        · obtain ⟨b, off, rfl, hbl, hcell⟩ := HTT.out (by omega)
          obtain ⟨x, hx⟩ : ∃ x, r[k]? = some x := ⟨_, List.getElem?_eq_getElem hlt⟩
          have hbw := bel_then HB1.out HBL.out
          have c0 := cell_at hcell hbw hbl (ints_get hx)
          have hxb := HRB.out x (List.mem_of_getElem? hx)
          have hxe := getD_of hx
          have HXE := Lib.hid hxe
          clear hcell hx hxe
          by_cases hneg : x < 0
          · have h1 := slowK_skip HM.out (by rw [HXE.out]; exact hneg)
            have H1 := Lib.hid h1
            clear h1 hbw
            go_wp2
            exact ⟨⟨k + 1, M, by omega, by go_num, rfl, H1, HBL⟩, by simp [intOf]; omega⟩
          · obtain ⟨xn, rfl⟩ := Int.eq_ofNat_of_zero_le (by omega : 0 ≤ x)
            have hxp : xn < p.length := by omega
            have hkq : k < q.length := by have := HRQ.out; omega
            obtain ⟨b2, off2, rfl, hbl2, hcell2⟩ := HPP.out (by omega)
            obtain ⟨b3, off3, rfl, hbl3, hcell3⟩ := HQQ.out (by omega)
            obtain ⟨y, hy⟩ : ∃ y, p[xn]? = some y := ⟨_, List.getElem?_eq_getElem hxp⟩
            obtain ⟨z, hz⟩ : ∃ z, q[k]? = some z := ⟨_, List.getElem?_eq_getElem (by omega)⟩
            have d0 := cell_at hcell2 hbw hbl2 (ints_get hy)
            have d1 := cell_at hcell3 hbw hbl3 (ints_get hz)
            have hyb := HG5.out y (List.mem_of_getElem? hy)
            have hzb := HG2.out z (List.mem_of_getElem? hz)
            obtain ⟨yn, rfl⟩ := Int.eq_ofNat_of_zero_le hyb.1
            obtain ⟨zn, rfl⟩ := Int.eq_ofNat_of_zero_le hzb.1
            have hyn : yn < m := by omega
            have hzn : zn < m := by omega
            have hmt : moveT m (arcs l) p q r k = (distT m (arcs l) yn).getD zn 0 := by
              unfold moveT; rw [HXE.out, Int.toNat_natCast, getD_of hy, getD_of hz, Int.toNat_natCast, Int.toNat_natCast]
            obtain ⟨T, hT⟩ : ∃ T, (distT m (arcs l) yn).getD zn 0 = T := ⟨_, rfl⟩
            rw [hT] at hmt
            have HMT := Lib.hid hmt
            have HTE := Lib.hid hT
            have e0 := (HBL.out.cell (p := ⟨w.heap.size, 0, none⟩) (by show w.heap.size < _; omega)).trans K0.out
            have e1 := (HBL.out.cell (p := ⟨w.heap.size, 1, none⟩) (by show w.heap.size < _; omega)).trans K1.out
            have E0 := Lib.hid e0
            have E1 := Lib.hid e1
            have hsA := hbw.size
            have HBW := Lib.hid hbw
            have hA2 : b2 < wA.heap.size := by omega
            have hA3 : b3 < wA.heap.size := by omega
            have x0 : (0 : Int) ≤ (xn : Int) := by omega
            have x1 : (xn : Int) < (p.length : Int) := by omega
            have x2 : (0 : Int) ≤ (k : Int) := by omega
            have x3 : (k : Int) < (q.length : Int) := by omega
            have x4 : (0 : Int) ≤ (zn : Int) := by omega
            have x5 : (zn : Int) < (m : Int) := by omega
            clear hcell2 hcell3 hy hz hyb hzb hmt hT e0 e1 hbw hxb
            go_wp2_with fail
            go_region_with
              (first | (go_at_call 21; have hcall := timesI_c m s l w.heap.size yn wA.drew HG1.out hyn E0.out E1.out (rd_below HR.out (bel_dr HBW.out)); refine hcall.mono ?_; rintro e w5 ⟨v5, rfl, ho5, hb5⟩; rw [distT_len] at ho5; obtain ⟨h, cap5, rfl, hbh, hhl, hcap5, hcm5⟩ := own_shape ho5 (by omega); have e5 := own_cell ho5 hzn; rw [HTE.out] at e5; have y2 := (hb5.cell (p := ⟨b2, off2 + xn, none⟩) hA2).trans d0; have y3 := (hb5.cell (p := ⟨b3, off3 + k, none⟩) hA3).trans d1; have HB5 : Hid (Below wA.heap.size wA w5) := Lib.hid (bel_then (bel_dr (Below.refl _ _)) hb5); clear hb5 ho5 hcall) | fail)
            all_goals
              have HB6 := Lib.hid (bel_then HBL.out HB5.out)
              clear HB5 y2 y3
              by_cases hTn : T < 0
              · have hs : slowK m (arcs l) p q r r.length = none := by
                  have h1 := slowK_none (slowK_out HM.out (by rw [HXE.out]; omega) (by rw [HMT.out]; exact hTn)) (r.length - (k + 1))
                  rwa [show k + 1 + (r.length - (k + 1)) = r.length by omega] at h1
                have HS := Lib.hid hs
                clear hs
                go_wp2
                go_ret2
                rw [HF.out, HS.out]
                exact ⟨rfl, bel_then HB1.out HB6.out⟩
              · have hTp : 0 ≤ T := by omega
                have hs := slowK_max HM.out (by rw [HXE.out]; omega) (by rw [HMT.out]; exact hTn)
                rw [HMT.out] at hs
                have HS := Lib.hid hs
                clear hs hTn
                go_wp2
                refine ⟨⟨k + 1, maxI M T, by omega, by go_num, ?_, HS, HB6⟩, by simp [intOf]; omega⟩
                unfold maxI
                refine congrArg (Value.int .i64) ?_
                split <;> split <;> omega
        · obtain rfl : k = r.length := by omega
          go_wp2
          go_ret2
          rw [HF.out, HM.out]
          exact ⟨rfl, bel_then HB1.out HBL.out⟩
    · have hon : goodOn p.length q.length r = false := by simpa using hon
      have hask : ¬ (askO n l p q r = true) := by unfold askO; rw [hon]; simp
      have HASK := Lib.hid hask
      rw [hok]
      go_wp2_with fail
      refine (isAssignment_c p.length q.length _ r _ g4 g3 (rdi_below HT.out HB1.out)).mono ?_; rw [hon]; rintro e w2 ⟨rfl, rfl⟩
      go_wp2
      go_ret2
      unfold slowestMoveV; rw [if_neg HASK.out]
      exact ⟨rfl, HB1.out⟩
  · have hok : goodMv n l p q = false := by simpa using hok
    have hask : ¬ (askO n l p q r = true) := by unfold askO; rw [hok]; simp
    have HASK := Lib.hid hask
    rw [hok]
    go_wp2
    go_ret2
    unfold slowestMoveV; rw [if_neg HASK.out]
    exact ⟨rfl, HB1.out⟩
theorem moveT_at {n : Nat} {ar : List Arc} {p q r : List Int} {k xn : Nat} {y z : Int} (hx : r.getD k 0 = (xn : Int)) (hy : p[xn]? = some y) (hz : q[k]? = some z) : moveT n ar p q r k = (distT n ar y.toNat).getD z.toNat 0 := by
  unfold moveT; rw [hx, Int.toNat_natCast, getD_of hy, getD_of hz]
/-- A row of a table of times, in a later world, and one of its cells. -/
theorem timesL_cell {n : Nat} {ar : List Arc} {p q : List Int} {i k : Nat} {x s : Int} (hx : p[i]? = some x) (hs : q[k]? = some s) : ∃ row, (timesL n ar p q)[i]? = some row ∧ row.length = q.length ∧ row[k]? = some ((distT n ar x.toNat).getD s.toNat 0) := by
  refine ⟨q.map fun s => (distT n ar x.toNat).getD s.toNat 0, ?_, by simp, ?_⟩
  · unfold timesL; rw [List.getElem?_map, hx]; rfl
  · rw [List.getElem?_map, hs]; rfl

set_option maxRecDepth 100000 in
set_option maxHeartbeats 4000000 in
theorem slowestMoveS_c (n : Int) (s : Value) (l : List St) (v : Value) (p : List Int) (u : Value) (q : List Int) (t : Value) (r : List Int) (w : World) (hr : Rd w s l.length (l.flatMap St.cells)) (hp : RdI w v p) (hq : RdI w u q) (ht : RdI w t r) :
    Calls Tryz.prog 11 #[.agg #[.int .i64 n, s], v, u, t] w fun e w' => e = .returned (.tuple #[.int .i64 (slowestMoveV n l p q r).1, .bool (slowestMoveV n l p q r).2]) ∧ Below w.heap.size w w' := by
  have HR := Lib.hid hr
  have HQ := Lib.hid hq
  have HP := Lib.hid hp
  have HT := Lib.hid ht
  obtain ⟨At, ct, rfl, hct, hmt, ht⟩ := ht
  rw [maxLen_eq] at hmt
  have HTT := Lib.hid ht
  clear hr hp hq ht
  go_enter Tryz.func11, Tryz.ntmps11
  go_wp2_with fail
  generalize hW : World.alloc w _ = w0
  have t0 : w0.cell? ⟨w.heap.size, 0, none⟩ = some (.int .i64 n) := by subst hW; simp [go_sem]
  have t1 : w0.cell? ⟨w.heap.size, 1, none⟩ = some s := by subst hW; simp [go_sem]
  have hb0 : Below w.heap.size w w0 := by subst hW; exact bel_al (Below.refl _ _) _
  have z0 : w.heap.size < w0.heap.size := by subst hW; simp
  have HB := Lib.hid hb0
  clear hW hb0
  go_wp2_with fail
  refine (mvAsked_c n s l _ _ p q _ (rd_below HR.out HB.out) (rdi_below HP.out HB.out) (rdi_below HQ.out HB.out)).mono ?_; rintro e w1 ⟨rfl, hb1⟩
  have k0 := (hb1.cell (p := ⟨w.heap.size, 0, none⟩) z0).trans t0
  have k1 := (hb1.cell (p := ⟨w.heap.size, 1, none⟩) z0).trans t1
  have HB1 := Lib.hid (bel_then HB.out hb1)
  have hs1 := hb1.size
  clear t0 t1 hb1
  by_cases hok : goodMv n l p q = true
  · obtain ⟨g1, g2, g3, g4, g5⟩ := goodMv_true hok
    by_cases hon : goodOn p.length q.length r = true
    · have hask : askO n l p q r = true := by unfold askO; rw [hok, hon]; rfl
      obtain ⟨m, rfl⟩ := nat_of (goodTown_true g1).1
      obtain ⟨hrq, hrb⟩ := goodOn_true hon
      have HRQ := Lib.hid hrq
      clear hrq
      have HG1 := Lib.hid g1
      have HG2 := Lib.hid g2
      have HG5 := Lib.hid g5
      have HRB := Lib.hid hrb
      have HF : Hid (slowestMoveV (m : Int) l p q r = optB (slowK m (arcs l) p q r r.length)) := Lib.hid (by unfold slowestMoveV; rw [if_pos hask, Int.toNat_natCast])
      rw [hok]
      go_wp2_with fail
      refine (mvOnce_c _ _ _ p q r _ g4 (rdi_below HP.out HB1.out) (rdi_below HQ.out HB1.out) (rdi_below HT.out HB1.out)).mono ?_; rw [hon]; rintro e w2 ⟨rfl, rfl⟩
      clear g1 g2 g5 hrb hok hon hask
      go_wp2_with fail
      refine (mvTimes_c m s _ _ l p q _ HG1.out HG5.out HG2.out g4 g3 (rd_below HR.out HB1.out) (rdi_below HP.out HB1.out) (rdi_below HQ.out HB1.out)).mono ?_; rintro e w3 ⟨v3, rfl, ⟨vs, ho3⟩, hb3⟩
      have hvl := ho3.len
      have HV := Lib.hid ho3.rd
      obtain ⟨A3, c3, hx3, hc3, hm3, hr3⟩ := ho3.rd.outer
      subst hx3
      rw [maxLen_eq] at hm3
      rw [timesL_len] at hc3 hr3 hvl ⊢
      have HR3 := Lib.hid hr3
      have HB3 := Lib.hid (bel_then HB1.out hb3)
      clear ho3 hb3 hr3 k0 k1
      go_wp2_with fail
      go_loopw [11, 32] (fun v11 v32 wr => ∃ (k : Nat) (M : Int), k ≤ r.length ∧ v32 = .int .i64 k ∧ v11 = .int .i64 M ∧ Hid (slowK m (arcs l) p q r k = some M) ∧ wr = w3) (fun _ v32 _ => r.length - (intOf v32).toNat)
      case atStart => exact ⟨0, 0, Nat.zero_le _, rfl, rfl, Lib.hid rfl, rfl⟩
      case round =>
        obtain ⟨k, M, hk, rfl, rfl, HM, rfl⟩ := hrel
        by_cases hlt : k < r.length
        · obtain ⟨b, off, rfl, hbl, hcell⟩ := HTT.out (by omega)
          obtain ⟨x, hx⟩ : ∃ x, r[k]? = some x := ⟨_, List.getElem?_eq_getElem hlt⟩
          have c0 := cell_at hcell HB3.out hbl (ints_get hx)
          have hxb := HRB.out x (List.mem_of_getElem? hx)
          have hxe := getD_of hx
          have HXE := Lib.hid hxe
          clear hcell hx hxe
          by_cases hneg : x < 0
          · have h1 := slowK_skip HM.out (by rw [HXE.out]; exact hneg)
            have H1 := Lib.hid h1
            clear h1
            go_wp2
            exact ⟨⟨k + 1, M, by omega, by go_num, rfl, H1, (by first | rfl | trivial)⟩, by simp [intOf]; omega⟩
          · obtain ⟨xn, rfl⟩ := Int.eq_ofNat_of_zero_le (by omega : 0 ≤ x)
            have hxp : xn < p.length := by omega
            have hkq : k < q.length := by have := HRQ.out; omega
            obtain ⟨y, hy⟩ : ∃ y, p[xn]? = some y := ⟨_, List.getElem?_eq_getElem hxp⟩
            obtain ⟨z, hz⟩ : ∃ z, q[k]? = some z := ⟨_, List.getElem?_eq_getElem hkq⟩
            obtain ⟨row, hrow, hrl, hrk⟩ := timesL_cell (n := m) (ar := arcs l) hy hz
            have hmt := moveT_at (n := m) (ar := arcs l) HXE.out hy hz
            rw [← hmt] at hrk
            obtain ⟨T, hT⟩ : ∃ T, moveT m (arcs l) p q r k = T := ⟨_, rfl⟩
            rw [hT] at hrk
            have HMT := Lib.hid hT
            obtain ⟨b2, off2, rfl, hbl2, hcell2⟩ := HR3.out (by omega)
            obtain ⟨vr, hvr⟩ : ∃ vr, vs[xn]? = some vr := ⟨_, List.getElem?_eq_getElem (by omega)⟩
            have d0 := hcell2 _ _ hvr
            obtain ⟨A5, c5, rfl, hc5, hm5, hr5⟩ := HV.out.inner xn vr row hvr hrow
            obtain ⟨b5, off5, rfl, hbl5, hcell5⟩ := hr5 (by omega)
            have d1 := hcell5 _ _ (ints_get hrk)
            rw [maxLen_eq] at hm5
            have x0 : (0 : Int) ≤ (xn : Int) := by omega
            have x1 : (xn : Int) < (p.length : Int) := by omega
            have x2 : (0 : Int) ≤ (k : Int) := by omega
            have x3 : (k : Int) < (row.length : Int) := by omega
            clear hy hz hrow hmt hT hcell2 hvr hr5 hcell5 hrk hrl hxb
            by_cases hTn : T < 0
            · have hs : slowK m (arcs l) p q r r.length = none := by
                have h1 := slowK_none (slowK_out HM.out (by rw [HXE.out]; omega) (by rw [HMT.out]; exact hTn)) (r.length - (k + 1))
                rwa [show k + 1 + (r.length - (k + 1)) = r.length by omega] at h1
              have HS := Lib.hid hs
              clear hs
              go_wp2
              go_ret2
              rw [HF.out, HS.out]
              exact ⟨rfl, HB3.out⟩
            · have hTp : 0 ≤ T := by omega
              have hs := slowK_max HM.out (by rw [HXE.out]; omega) (by rw [HMT.out]; exact hTn)
              rw [HMT.out] at hs
              have HS := Lib.hid hs
              clear hs hTn
              go_wp2_with (go_at_call 40; refine (l1Most_c _ _ _).mono ?_; rintro e w' ⟨rfl, rfl⟩)
              exact ⟨⟨k + 1, maxI M T, by omega, by go_num, rfl, HS, (by first | rfl | trivial)⟩, by simp [intOf]; omega⟩
        · obtain rfl : k = r.length := by omega
          go_wp2
          go_ret2
          rw [HF.out, HM.out]
          exact ⟨rfl, HB3.out⟩
    · have hon : goodOn p.length q.length r = false := by simpa using hon
      have hask : ¬ (askO n l p q r = true) := by unfold askO; rw [hon]; simp
      have HASK := Lib.hid hask
      rw [hok]
      go_wp2_with fail
      refine (mvOnce_c _ _ _ p q r _ g4 (rdi_below HP.out HB1.out) (rdi_below HQ.out HB1.out) (rdi_below HT.out HB1.out)).mono ?_; rw [hon]; rintro e w2 ⟨rfl, rfl⟩
      go_wp2
      go_ret2
      unfold slowestMoveV; rw [if_neg HASK.out]
      exact ⟨rfl, HB1.out⟩
  · have hok : goodMv n l p q = false := by simpa using hok
    have hask : ¬ (askO n l p q r = true) := by unfold askO; rw [hok]; simp
    have HASK := Lib.hid hask
    rw [hok]
    go_wp2
    go_ret2
    unfold slowestMoveV; rw [if_neg HASK.out]
    exact ⟨rfl, HB1.out⟩
end Go.Proofs.YtahehdgkbhjpoaaGreatDoor

namespace Go.Proofs.YtahehdgkbhjpoaaGreatDoor
set_option linter.unusedVariables false
set_option linter.unusedSimpArgs false
open Go.RowKit

def fillAt (TB : List (List Int)) (r : List Int) (k : Nat) : Bool := decide (r.getD k 0 < 0) || decide (r.getD k 0 ∈ TB.getD k [])
def fillW (TB : List (List Int)) (r : List Int) : Bool := (List.range r.length).all (fillAt TB r)
theorem fillAt_neg {TB : List (List Int)} {r : List Int} {k : Nat} {x : Int} (hx : r[k]? = some x) (h : x < 0) : fillAt TB r k = true := by
  unfold fillAt; rw [show r.getD k 0 = x by simp [List.getD_eq_getElem?_getD, hx]]; simp [h]
theorem fillAt_mem {TB : List (List Int)} {r : List Int} {k : Nat} {x : Int} {l : List Int} (hx : r[k]? = some x) (hl : TB[k]? = some l) (h : ¬ x < 0) : fillAt TB r k = decide (x ∈ l) := by
  unfold fillAt
  rw [show r.getD k 0 = x by simp [List.getD_eq_getElem?_getD, hx], show TB.getD k [] = l by simp [List.getD_eq_getElem?_getD, hl], decide_eq_false h, Bool.false_or]
theorem fillW_false {TB : List (List Int)} {r : List Int} {k : Nat} (hk : k < r.length) (h : fillAt TB r k = false) : fillW TB r = false := by
  unfold fillW
  exact List.all_eq_false.2 ⟨k, List.mem_range.2 hk, by rw [h]; simp⟩
theorem fill_succ {TB : List (List Int)} {r : List Int} {k : Nat} (h : (List.range k).all (fillAt TB r) = true) (h' : fillAt TB r k = true) : (List.range (k + 1)).all (fillAt TB r) = true := by
  rw [List.range_succ, List.all_append, h]; simp [h']
def fillB (n : Nat) (ar : List Arc) (p q : List Int) (a : Int) (r : List Int) : Bool := goodOn p.length q.length r && fillW (reachL n ar p q a) r

set_option maxRecDepth 100000 in
set_option maxHeartbeats 4000000 in
theorem isFilling_c (n : Nat) (s v u t : Value) (l : List St) (p q : List Int) (a : Int) (r : List Int) (B : Nat) (w : World) (hg : goodTown n l = true) (hp : ∀ x ∈ p, 0 ≤ x ∧ x ≤ (n : Int) - 1) (hq : ∀ x ∈ q, 0 ≤ x ∧ x ≤ (n : Int) - 1) (hp7 : p.length ≤ 7) (hq6 : q.length ≤ 6)
    (t0 : w.cell? ⟨B, 0, none⟩ = some (.int .i64 n)) (t1 : w.cell? ⟨B, 1, none⟩ = some s) (hr : Rd w s l.length (l.flatMap St.cells)) (hvp : RdI w v p) (hvq : RdI w u q) (hvr : RdI w t r) :
    Calls Tryz.prog 36 #[.pointer (some ⟨B, 0, none⟩), v, u, .int .i64 a, t] w fun e w' => e = .returned (.bool (fillB n (arcs l) p q a r)) ∧ Below w.heap.size w w' := by
  have hcall := reachTable_c n s v u l p q a B w hg hp hq hp7 hq6 t0 t1 hr hvp hvq
  have HC := Lib.hid hcall
  have HVR := Lib.hid hvr
  obtain ⟨Ap, cp, rfl, _, _, _⟩ := hvp
  obtain ⟨Aq, cq, rfl, _, _, _⟩ := hvq
  obtain ⟨A, c, rfl, hc, hm, hcr⟩ := hvr
  rw [maxLen_eq] at hm
  have HCR := Lib.hid hcr
  clear hcall hcr hg hp hq t0 t1 hr
  go_enter Tryz.func36, Tryz.ntmps36
  go_wp2_with fail
  refine (isAssignment_c p.length q.length _ r _ hp7 hq6 HVR.out).mono ?_; rintro e w2 ⟨rfl, rfl⟩
  by_cases hon : goodOn p.length q.length r = true
  · have hrq := (goodOn_true hon).1
    have HRQ := Lib.hid hrq
    have HON := Lib.hid hon
    rw [hon]
    clear hrq hon
    go_wp2_with fail
    refine HC.out.mono ?_; rintro e w3 ⟨v3, rfl, ⟨vs, ho3⟩, hb3⟩
    have hlen := reachL_len n (arcs l) p q a
    obtain ⟨TB, hTB⟩ : ∃ TB, reachL n (arcs l) p q a = TB := ⟨_, rfl⟩
    rw [hTB] at hlen ho3
    have hvl := ho3.len
    have HV := Lib.hid ho3.rd
    obtain ⟨A3, c3, hx3, hc3, hm3, hr3⟩ := ho3.rd.outer
    subst hx3
    rw [maxLen_eq] at hm3
    have HR3 := Lib.hid hr3
    have HB3 := Lib.hid hb3
    have HTB := Lib.hid hTB
    have HLEN := Lib.hid hlen
    clear ho3 hb3 hr3 hTB hlen HC
    go_wp2_with fail
    go_loopw [26] (fun v26 wr => ∃ (k : Nat), k ≤ TB.length ∧ v26 = .int .i64 k ∧ Hid ((List.range k).all (fillAt TB r) = true) ∧ wr = w3) (fun v26 _ => TB.length - (intOf v26).toNat)
    case atStart => exact ⟨0, Nat.zero_le _, rfl, Lib.hid rfl, rfl⟩
    case round =>
      obtain ⟨k, hk, rfl, HA, rfl⟩ := hrel
      by_cases hlt : k < TB.length
      · have hkr : k < r.length := by have := HRQ.out; have := HLEN.out; omega
        obtain ⟨b, off, rfl, hbl, hcell⟩ := HCR.out (by omega)
        obtain ⟨x, hx⟩ : ∃ x, r[k]? = some x := ⟨_, List.getElem?_eq_getElem hkr⟩
        have c0 := cell_at hcell HB3.out hbl (ints_get hx)
        obtain ⟨b3, off3, rfl, hbl3, hcell3⟩ := HR3.out (by omega)
        obtain ⟨z, hz⟩ : ∃ z, vs[k]? = some z := ⟨_, List.getElem?_eq_getElem (by omega)⟩
        obtain ⟨row, hrow⟩ : ∃ row, TB[k]? = some row := ⟨_, List.getElem?_eq_getElem hlt⟩
        have d0 := hcell3 _ _ hz
        have HI := Lib.hid (HV.out.inner k z row hz hrow)
        have HX := Lib.hid hx
        have HROW := Lib.hid hrow
        have k0 : (0 : Int) ≤ (k : Int) := by omega
        have k1 : (k : Int) < (r.length : Int) := by omega
        clear hcell hx hcell3 hz hrow
        by_cases hneg : x < 0
        · have hge : decide (0 ≤ x) = false := decide_eq_false (by omega)
          go_wp2
          exact ⟨⟨k + 1, by omega, by go_num, Lib.hid (fill_succ HA.out (fillAt_neg HX.out hneg)), (by first | rfl | trivial)⟩, by simp [intOf]; omega⟩
        · have hge : decide (0 ≤ x) = true := decide_eq_true (by omega)
          have hge0 : 0 ≤ x := by omega
          have hfa := fillAt_mem HX.out HROW.out hneg
          by_cases hmem : x ∈ row
          · have hd : decide (x ∈ row) = true := decide_eq_true hmem
            rw [hd] at hfa
            have HFA := Lib.hid hfa
            have HD := Lib.hid hd
            clear hfa hd hmem
            go_wp2_with (go_at_call 66; refine (contains_c _ x row _ HI.out).mono ?_; rw [HD.out]; rintro e w2 ⟨rfl, rfl⟩)
            exact ⟨⟨k + 1, by omega, by go_num, Lib.hid (fill_succ HA.out HFA.out), (by first | rfl | trivial)⟩, by simp [intOf]; omega⟩
          · have hd : decide (x ∈ row) = false := decide_eq_false hmem
            rw [hd] at hfa
            have HFA := Lib.hid hfa
            have HD := Lib.hid hd
            clear hfa hd hmem
            go_wp2_with (go_at_call 66; refine (contains_c _ x row _ HI.out).mono ?_; rw [HD.out]; rintro e w2 ⟨rfl, rfl⟩)
            go_ret
            refine ⟨?_, HB3.out⟩
            unfold fillB
            rw [HTB.out, fillW_false hkr HFA.out, Bool.and_false]; rfl
      · have hke : k = r.length := by have := HRQ.out; have := HLEN.out; omega
        have HKE := Lib.hid hke
        clear hke
        obtain rfl : k = TB.length := by omega
        go_wp2
        go_ret
        refine ⟨?_, HB3.out⟩
        unfold fillB fillW
        rw [HTB.out, HON.out, ← HKE.out, HA.out]; rfl
  · have hon : goodOn p.length q.length r = false := by simpa using hon
    have HON := Lib.hid hon
    rw [hon]
    go_wp2
    go_ret
    refine ⟨?_, Below.refl _ _⟩
    unfold fillB
    rw [HON.out]; rfl

def isFillingV (n : Int) (l : List St) (p q : List Int) (a : Int) (r : List Int) : Bool × Bool := if askM n l p q a = true then (fillB n.toNat (arcs l) p q a r, true) else (false, false)

set_option maxRecDepth 100000 in
set_option maxHeartbeats 4000000 in
theorem isFillingI_c (n : Int) (s : Value) (l : List St) (v : Value) (p : List Int) (u : Value) (q : List Int) (a : Int) (t : Value) (r : List Int) (w : World) (hr : Rd w s l.length (l.flatMap St.cells)) (hp : RdI w v p) (hq : RdI w u q) (hvr : RdI w t r) :
    Calls Tryz.prog 8 #[.agg #[.int .i64 n, s], v, u, .int .i64 a, t] w fun e w' => e = .returned (.tuple #[.bool (isFillingV n l p q a r).1, .bool (isFillingV n l p q a r).2]) ∧ Below w.heap.size w w' := by
  have HR := Lib.hid hr
  have HQ := Lib.hid hq
  have HP := Lib.hid hp
  have HVR := Lib.hid hvr
  clear hr hp hq hvr
  go_enter Tryz.func8, Tryz.ntmps8
  go_wp2_with fail
  generalize hW : World.alloc w _ = w0
  have t0 : w0.cell? ⟨w.heap.size, 0, none⟩ = some (.int .i64 n) := by subst hW; simp [go_sem]
  have t1 : w0.cell? ⟨w.heap.size, 1, none⟩ = some s := by subst hW; simp [go_sem]
  have hb0 : Below w.heap.size w w0 := by subst hW; exact bel_al (Below.refl _ _) _
  have z0 : w.heap.size < w0.heap.size := by subst hW; simp
  have HB := Lib.hid hb0
  clear hW hb0
  refine (moversFit_c n s l _ _ p q _ _ t0 t1 (rd_below HR.out HB.out) (rdi_below HP.out HB.out) (rdi_below HQ.out HB.out)).mono ?_; rintro e w1 ⟨rfl, hb1⟩
  have k0 := (hb1.cell (p := ⟨w.heap.size, 0, none⟩) z0).trans t0
  have k1 := (hb1.cell (p := ⟨w.heap.size, 1, none⟩) z0).trans t1
  have HB1 := Lib.hid (bel_then HB.out hb1)
  have hs1 := hb1.size
  clear t0 t1 hb1
  by_cases hok : goodMv n l p q = true
  · by_cases hlm : inB a 0 36000 = true
    · have hask : askM n l p q a = true := by unfold askM; rw [hok, hlm]; rfl
      have HASK := Lib.hid hask
      obtain ⟨g1, g2, g3, g4, g5⟩ := goodMv_true hok
      obtain ⟨m, rfl⟩ := nat_of (goodTown_true g1).1
      rw [hok]
      go_wp2_with fail
      refine (isLimit_c a _).mono ?_; rw [hlm]; rintro e w2 ⟨rfl, rfl⟩
      go_wp2_with fail
      refine (isFilling_c m s _ _ _ l p q a r _ _ g1 g5 g2 g4 g3 k0 k1 (rd_below HR.out HB1.out) (rdi_below HP.out HB1.out) (rdi_below HQ.out HB1.out) (rdi_below HVR.out HB1.out)).mono ?_; rintro e w3 ⟨rfl, hb3⟩
      go_wp2
      go_ret2
      unfold isFillingV; rw [if_pos HASK.out]
      exact ⟨rfl, bel_then HB1.out hb3⟩
    · have hlm : inB a 0 36000 = false := by simpa using hlm
      have hask : ¬ (askM n l p q a = true) := by unfold askM; rw [hlm]; simp
      have HASK := Lib.hid hask
      rw [hok]
      go_wp2_with fail
      refine (isLimit_c a _).mono ?_; rw [hlm]; rintro e w2 ⟨rfl, rfl⟩
      go_wp2
      go_ret2
      unfold isFillingV; rw [if_neg HASK.out]
      exact ⟨rfl, HB1.out⟩
  · have hok : goodMv n l p q = false := by simpa using hok
    have hask : ¬ (askM n l p q a = true) := by unfold askM; rw [hok]; simp
    have HASK := Lib.hid hask
    rw [hok]
    go_wp2
    go_ret2
    unfold isFillingV; rw [if_neg HASK.out]
    exact ⟨rfl, HB1.out⟩

set_option maxRecDepth 100000 in
set_option maxHeartbeats 4000000 in
theorem isFillingS_c (n : Int) (s : Value) (l : List St) (v : Value) (p : List Int) (u : Value) (q : List Int) (a : Int) (t : Value) (r : List Int) (w : World) (hr : Rd w s l.length (l.flatMap St.cells)) (hp : RdI w v p) (hq : RdI w u q) (hvr : RdI w t r) :
    Calls Tryz.prog 9 #[.agg #[.int .i64 n, s], v, u, .int .i64 a, t] w fun e w' => e = .returned (.tuple #[.bool (isFillingV n l p q a r).1, .bool (isFillingV n l p q a r).2]) ∧ Below w.heap.size w w' := by
  have HR := Lib.hid hr
  have HQ := Lib.hid hq
  have HP := Lib.hid hp
  have HVR := Lib.hid hvr
  obtain ⟨A, c, rfl, hc, hm, hcr⟩ := hvr
  rw [maxLen_eq] at hm
  have HCR := Lib.hid hcr
  clear hr hp hq hcr
  go_enter Tryz.func9, Tryz.ntmps9
  go_wp2_with fail
  generalize hW : World.alloc w _ = w0
  have t0 : w0.cell? ⟨w.heap.size, 0, none⟩ = some (.int .i64 n) := by subst hW; simp [go_sem]
  have t1 : w0.cell? ⟨w.heap.size, 1, none⟩ = some s := by subst hW; simp [go_sem]
  have hb0 : Below w.heap.size w w0 := by subst hW; exact bel_al (Below.refl _ _) _
  have HB := Lib.hid hb0
  clear hW hb0
  go_wp2_with fail
  refine (reachTableS_c n s l _ p _ q a _ (rd_below HR.out HB.out) (rdi_below HP.out HB.out) (rdi_below HQ.out HB.out)).mono ?_; rintro e w3 ⟨v3, rfl, ⟨vs, ho3⟩, hb3⟩
  have HB3 := Lib.hid (bel_then HB.out hb3)
  by_cases hask : askM n l p q a = true
  · have HASK := Lib.hid hask
    obtain ⟨hok, hlm⟩ := askM_true hask
    obtain ⟨g1, g2, g3, g4, g5⟩ := goodMv_true hok
    obtain ⟨m, rfl⟩ := nat_of (goodTown_true g1).1
    have hf : reachTableV (m : Int) l p q a = (reachL m (arcs l) p q a, true) := by unfold reachTableV; rw [if_pos hask]; rfl
    rw [hf] at ho3 ⊢
    dsimp only at ho3 ⊢
    have hlen := reachL_len m (arcs l) p q a
    obtain ⟨TB, hTB⟩ : ∃ TB, reachL m (arcs l) p q a = TB := ⟨_, rfl⟩
    rw [hTB] at hlen ho3
    have hvl := ho3.len
    have HV := Lib.hid ho3.rd
    obtain ⟨A3, c3, hx3, hc3, hm3, hr3⟩ := ho3.rd.outer
    subst hx3
    rw [maxLen_eq] at hm3
    have HR3 := Lib.hid hr3
    have HLEN := Lib.hid hlen
    have HFV : Hid (isFillingV (m : Int) l p q a r = (goodOn p.length q.length r && fillW TB r, true)) := Lib.hid (by unfold isFillingV fillB; rw [if_pos hask, Int.toNat_natCast, hTB])
    clear g1 g2 g5 hok hlm hask hf t0 t1 ho3 hb3 hr3 hTB hlen
    go_wp2_with fail
    refine (mvOnce_c _ _ _ p q r _ g4 (rdi_below HP.out HB3.out) (rdi_below HQ.out HB3.out) (rdi_below HVR.out HB3.out)).mono ?_; rintro e w2 ⟨rfl, rfl⟩
    by_cases hon : goodOn p.length q.length r = true
    · have hrq := (goodOn_true hon).1
      have HRQ := Lib.hid hrq
      have HON := Lib.hid hon
      rw [hon]
      clear hrq hon
      go_wp2_with fail
      go_loopw [33] (fun v33 wr => ∃ (k : Nat), k ≤ r.length ∧ v33 = .int .i64 k ∧ Hid ((List.range k).all (fillAt TB r) = true) ∧ wr = w3) (fun v33 _ => r.length - (intOf v33).toNat)
      case atStart => exact ⟨0, Nat.zero_le _, rfl, Lib.hid rfl, rfl⟩
      case round =>
        obtain ⟨k, hk, rfl, HA, rfl⟩ := hrel
        by_cases hkr : k < r.length
        · have hlt : k < TB.length := by have := HRQ.out; have := HLEN.out; omega
          obtain ⟨b, off, rfl, hbl, hcell⟩ := HCR.out (by omega)
          obtain ⟨x, hx⟩ : ∃ x, r[k]? = some x := ⟨_, List.getElem?_eq_getElem hkr⟩
          have c0 := cell_at hcell HB3.out hbl (ints_get hx)
          obtain ⟨b3, off3, rfl, hbl3, hcell3⟩ := HR3.out (by omega)
          obtain ⟨z, hz⟩ : ∃ z, vs[k]? = some z := ⟨_, List.getElem?_eq_getElem (by omega)⟩
          obtain ⟨row, hrow⟩ : ∃ row, TB[k]? = some row := ⟨_, List.getElem?_eq_getElem hlt⟩
          have d0 := hcell3 _ _ hz
          have HI := Lib.hid (HV.out.inner k z row hz hrow)
          have HX := Lib.hid hx
          have HROW := Lib.hid hrow
          have k0 : (0 : Int) ≤ (k : Int) := by omega
          have k1 : (k : Int) < (TB.length : Int) := by omega
          clear hcell hx hcell3 hz hrow
          by_cases hneg : x < 0
          · have hge : decide (0 ≤ x) = false := decide_eq_false (by omega)
            go_wp2
            exact ⟨⟨k + 1, by omega, by go_num, Lib.hid (fill_succ HA.out (fillAt_neg HX.out hneg)), (by first | rfl | trivial)⟩, by simp [intOf]; omega⟩
          · have hge : decide (0 ≤ x) = true := decide_eq_true (by omega)
            have hge0 : 0 ≤ x := by omega
            have hfa := fillAt_mem HX.out HROW.out hneg
            by_cases hmem : x ∈ row
            · have hd : decide (x ∈ row) = true := decide_eq_true hmem
              rw [hd] at hfa
              have HFA := Lib.hid hfa
              have HD := Lib.hid hd
              clear hfa hd hmem
              go_wp2_with (go_at_call 38; refine (l1Has_c _ x row _ HI.out).mono ?_; rw [HD.out]; rintro e w2 ⟨rfl, rfl⟩)
              exact ⟨⟨k + 1, by omega, by go_num, Lib.hid (fill_succ HA.out HFA.out), (by first | rfl | trivial)⟩, by simp [intOf]; omega⟩
            · have hd : decide (x ∈ row) = false := decide_eq_false hmem
              rw [hd] at hfa
              have HFA := Lib.hid hfa
              have HD := Lib.hid hd
              clear hfa hd hmem
              go_wp2_with (go_at_call 38; refine (l1Has_c _ x row _ HI.out).mono ?_; rw [HD.out]; rintro e w2 ⟨rfl, rfl⟩)
              go_ret2
              rw [HFV.out, fillW_false hkr HFA.out, Bool.and_false]
              exact ⟨rfl, HB3.out⟩
        · obtain rfl : k = r.length := by omega
          go_wp2
          go_ret2
          rw [HFV.out, HON.out, show fillW TB r = true from HA.out]
          exact ⟨rfl, HB3.out⟩
    · have hon : goodOn p.length q.length r = false := by simpa using hon
      have HON := Lib.hid hon
      rw [hon]
      go_wp2
      go_ret2
      rw [HFV.out, HON.out]
      exact ⟨rfl, HB3.out⟩
  · have HASK := Lib.hid hask
    have hf : reachTableV n l p q a = ([], false) := by unfold reachTableV; rw [if_neg hask]
    rw [hf]
    clear ho3 hb3 hask hf t0 t1
    go_wp2
    go_ret2
    unfold isFillingV; rw [if_neg HASK.out]
    exact ⟨rfl, HB3.out⟩
end Go.Proofs.YtahehdgkbhjpoaaGreatDoor

namespace Go.Proofs.YtahehdgkbhjpoaaGreatDoor
set_option linter.unusedVariables false
set_option linter.unusedSimpArgs false
open Go.RowKit

/-- The stations below k that have a mover. -/
def filledK (q r : List Int) : Nat → List Int
  | 0 => []
  | k + 1 => if r.getD k 0 < 0 then filledK q r k else filledK q r k ++ [q.getD k 0]
theorem filledK_skip {q r : List Int} {k : Nat} {x : Int} (h : r[k]? = some x) (h1 : x < 0) : filledK q r (k + 1) = filledK q r k := by
  simp only [filledK]; rw [if_pos (by rw [show r.getD k 0 = x by simp [List.getD_eq_getElem?_getD, h]]; exact h1)]
theorem filledK_put {q r : List Int} {k : Nat} {x y : Int} (h : r[k]? = some x) (h1 : ¬ x < 0) (hq : q[k]? = some y) : filledK q r (k + 1) = filledK q r k ++ [y] := by
  simp only [filledK]; rw [if_neg (by rw [show r.getD k 0 = x by simp [List.getD_eq_getElem?_getD, h]]; exact h1), show q.getD k 0 = y by simp [List.getD_eq_getElem?_getD, hq]]
theorem filledK_len (q r : List Int) (k : Nat) : (filledK q r k).length ≤ k := by
  induction k with
  | zero => simp [filledK]
  | succ k ih =>
    simp only [filledK]
    split
    · omega
    · rw [List.length_append]; simp; omega
theorem filledK_sub (q r : List Int) : ∀ k, k ≤ q.length → (filledK q r k).Sublist (q.take k) := by
  intro k
  induction k with
  | zero => intro _; simp [filledK]
  | succ k ih =>
    intro h
    have hk : q[k]? = some (q[k]'(by omega)) := List.getElem?_eq_getElem (by omega)
    rw [take_succ_of hk]
    simp only [filledK]
    split
    · exact (ih (by omega)).trans (List.sublist_append_left _ _)
    · rw [show q.getD k 0 = q[k]'(by omega) by simp [List.getD_eq_getElem?_getD, hk]]
      exact (ih (by omega)).append (List.Sublist.refl _)
theorem rising_pair {lo hi : Int} {q : List Int} (h : rising lo hi q = true) : q.Pairwise (· < ·) := by
  rw [List.pairwise_iff_getElem]
  have step : ∀ k (hk : k + 1 < q.length), q[k]'(by omega) < q[k + 1] := fun k hk => by
    have h1 := List.all_eq_true.1 h (k + 1) (List.mem_range.2 hk)
    unfold risAt at h1
    rw [List.getElem?_eq_getElem hk, Nat.add_sub_cancel, List.getElem?_eq_getElem (show k < q.length by omega)] at h1
    simp at h1
    exact h1.2
  intro i j hi' hj hij
  obtain ⟨d, rfl⟩ : ∃ d, j = i + 1 + d := ⟨j - (i + 1), by omega⟩
  induction d with
  | zero => exact step i hj
  | succ d ih => exact Int.lt_trans (ih (by omega) (by omega)) (step (i + 1 + d) hj)
theorem rising_of {lo hi : Int} {q : List Int} (hp : q.Pairwise (· < ·)) (hb : ∀ x ∈ q, lo ≤ x ∧ x ≤ hi) : rising lo hi q = true := by
  unfold rising
  refine List.all_eq_true.2 (fun k hk => ?_)
  have hk := List.mem_range.1 hk
  unfold risAt
  rw [List.getElem?_eq_getElem hk]
  have h1 := hb _ (List.getElem_mem hk)
  have h2 : inB q[k] lo hi = true := by unfold inB; simp; exact h1
  simp only [h2, Bool.true_and]
  rcases k with _ | k
  · simp
  · rw [Nat.add_sub_cancel, List.getElem?_eq_getElem (show k < q.length by omega)]
    have := (List.pairwise_iff_getElem.1 hp) k (k + 1) (by omega) hk (by omega)
    simp [this]
theorem goodSta_sub {n : Int} {l : List St} {q q' : List Int} (h : goodSta n l q = true) (hs : q'.Sublist q) : goodSta n l q' = true := by
  unfold goodSta at h ⊢
  simp only [Bool.and_eq_true, decide_eq_true_eq] at h ⊢
  exact ⟨h.1, rising_of ((rising_pair h.2.1).sublist hs) (fun x hx => rising_mem h.2.1 x (hs.subset hx)), Nat.le_trans hs.length_le h.2.2⟩

def askF (n : Int) (l : List St) (p q : List Int) (a : Int) (r : List Int) : Bool := askM n l p q a && fillB n.toNat (arcs l) p q a r
def coveredAfterV (n : Int) (l : List St) (p q : List Int) (a : Int) (r : List Int) : List Int × Bool := if askF n l p q a r = true then coveredNodesW n.toNat l (filledK q r r.length) a else ([], false)
theorem coveredAfterV_len (n : Int) (l : List St) (p q : List Int) (a : Int) (r : List Int) : (coveredAfterV n l p q a r).1.length ≤ 1000000 := by
  unfold coveredAfterV
  split
  · rename_i h
    unfold askF at h
    rw [Bool.and_eq_true] at h
    obtain ⟨g1, _⟩ := goodMv_true (askM_true h.1).1
    have h1 := goodTown_true g1
    unfold coveredNodesW
    have := covIdx_len (coverL n.toNat (arcs l) (filledK q r r.length)) a true n.toNat
    dsimp only
    omega
  · simp
end Go.Proofs.YtahehdgkbhjpoaaGreatDoor

namespace Go.Proofs.YtahehdgkbhjpoaaGreatDoor
set_option linter.unusedVariables false
set_option linter.unusedSimpArgs false
open Go.RowKit

set_option maxRecDepth 100000 in
set_option maxHeartbeats 4000000 in
theorem coveredAfterI_c (n : Int) (s : Value) (l : List St) (v : Value) (p : List Int) (u : Value) (q : List Int) (a : Int) (t : Value) (r : List Int) (w : World) (hr : Rd w s l.length (l.flatMap St.cells)) (hp : RdI w v p) (hq : RdI w u q) (hvr : RdI w t r) :
    Calls Tryz.prog 12 #[.agg #[.int .i64 n, s], v, u, .int .i64 a, t] w (OwnIB (coveredAfterV n l p q a r) w) := by
  have HR := Lib.hid hr
  have HQ := Lib.hid hq
  have HP := Lib.hid hp
  have HVR := Lib.hid hvr
  obtain ⟨A, c, rfl, hc, hm, hcr⟩ := hvr
  obtain ⟨Aq, cq, rfl, hcq, hmq, hqq⟩ := hq
  rw [maxLen_eq] at hm hmq
  have HCR := Lib.hid hcr
  have HQQ := Lib.hid hqq
  obtain ⟨i0, hi, hz0, hz1, hz2⟩ := info_parts Tryz.infoInt
  clear hr hp hcr hqq
  go_enter Tryz.func12, Tryz.ntmps12
  go_wp2_with fail
  generalize hW : World.alloc w _ = w0
  have t0 : w0.cell? ⟨w.heap.size, 0, none⟩ = some (.int .i64 n) := by subst hW; simp [go_sem]
  have t1 : w0.cell? ⟨w.heap.size, 1, none⟩ = some s := by subst hW; simp [go_sem]
  have hb0 : Below w.heap.size w w0 := by subst hW; exact bel_al (Below.refl _ _) _
  have z0 : w.heap.size < w0.heap.size := by subst hW; simp
  have HB := Lib.hid hb0
  clear hW hb0
  refine (moversFit_c n s l _ _ p q _ _ t0 t1 (rd_below HR.out HB.out) (rdi_below HP.out HB.out) (rdi_below HQ.out HB.out)).mono ?_; rintro e w1 ⟨rfl, hb1⟩
  have k0 := (hb1.cell (p := ⟨w.heap.size, 0, none⟩) z0).trans t0
  have k1 := (hb1.cell (p := ⟨w.heap.size, 1, none⟩) z0).trans t1
  have HB1 := Lib.hid (bel_then HB.out hb1)
  have hs1 := hb1.size
  clear t0 t1 hb1
  by_cases hok : goodMv n l p q = true
  · by_cases hlm : inB a 0 36000 = true
    · have hask : askM n l p q a = true := by unfold askM; rw [hok, hlm]; rfl
      have HASK := Lib.hid hask
      obtain ⟨g1, g2, g3, g4, g5⟩ := goodMv_true hok
      obtain ⟨m, rfl⟩ := nat_of (goodTown_true g1).1
      rw [hok]
      go_wp2_with fail
      refine (isLimit_c a _).mono ?_; rw [hlm]; rintro e w2 ⟨rfl, rfl⟩
      go_wp2_with fail
      refine (isFilling_c m s _ _ _ l p q a r _ _ g1 g5 g2 g4 g3 k0 k1 (rd_below HR.out HB1.out) (rdi_below HP.out HB1.out) (rdi_below HQ.out HB1.out) (rdi_below HVR.out HB1.out)).mono ?_; rintro e w3 ⟨rfl, hb3⟩
      have z0 := (hb3.cell (p := ⟨w.heap.size, 0, none⟩) (by show w.heap.size < _; omega)).trans k0
      have z1 := (hb3.cell (p := ⟨w.heap.size, 1, none⟩) (by show w.heap.size < _; omega)).trans k1
      have Z0 := Lib.hid z0
      have Z1 := Lib.hid z1
      have HB3 := Lib.hid (bel_then HB1.out hb3)
      have hs3 := hb3.size
      have HG1 := Lib.hid g1
      have HG2 := Lib.hid g2
      clear k0 k1 hb3 z0 z1 g1 g2 g5 hok hlm hask
      by_cases hfb : fillB m (arcs l) p q a r = true
      · have HF : Hid (coveredAfterV (m : Int) l p q a r = (covIdx (coverL m (arcs l) (filledK q r r.length)) a true m, true)) := Lib.hid (by unfold coveredAfterV askF; rw [Int.toNat_natCast, HASK.out, hfb, if_pos (by rfl)]; rfl)
        have hrq : r.length = q.length := by
          unfold fillB at hfb
          rw [Bool.and_eq_true] at hfb
          exact (goodOn_true hfb.1).1
        have HRQ := Lib.hid hrq
        rw [hfb]
        clear hrq hfb
        go_wp2_with fail
        go_loopw [12, 34] (fun v12 v34 wr => ∃ (k : Nat), k ≤ r.length ∧ v34 = .int .i64 k ∧ Hid (wr.ownsRow w3.heap.size 3 1 v12 (filledK q r k).length (ints (filledK q r k))) ∧ Hid (Below w3.heap.size w3 wr)) (fun _ v34 _ => r.length - (intOf v34).toNat)
        case atStart => exact ⟨0, Nat.zero_le _, rfl, Lib.hid (show w3.ownsRow w3.heap.size 3 1 (.slice none 0 0) 0 [] from World.ownsRow_nil _ _ _ _), Lib.hid (Below.refl _ _)⟩
        case round =>
          obtain ⟨k, hk, rfl, HOW, HBL⟩ := hrel
          obtain ⟨wA, rfl⟩ : ∃ wA : World, wA = wr := ⟨_, rfl⟩
          by_cases hlt : k < r.length
          · obtain ⟨b, off, rfl, hbl, hcell⟩ := HCR.out (by omega)
            obtain ⟨x, hx⟩ : ∃ x, r[k]? = some x := ⟨_, List.getElem?_eq_getElem hlt⟩
            have c0 := cell_at hcell (bel_then HB3.out HBL.out) hbl (ints_get hx)
            have HX := Lib.hid hx
            have hkq : k < q.length := by have := HRQ.out; omega
            have hsl := filledK_len q r k
            obtain ⟨S, hS⟩ : ∃ S, filledK q r k = S := ⟨_, rfl⟩
            rw [hS] at HOW hsl
            have HS := Lib.hid hS
            clear hcell hx hS
            by_cases hneg : x < 0
            · have HN : Hid (filledK q r (k + 1) = S) := Lib.hid (by rw [filledK_skip HX.out hneg, HS.out])
              go_wp2
              exact ⟨⟨k + 1, by omega, by go_num, by rw [HN.out]; exact HOW, HBL⟩, by simp [intOf]; omega⟩
            · obtain ⟨b3, off3, rfl, hbl3, hcell3⟩ := HQQ.out (by omega)
              obtain ⟨y, hy⟩ : ∃ y, q[k]? = some y := ⟨_, List.getElem?_eq_getElem hkq⟩
              have d0 := cell_at hcell3 (bel_then HB3.out HBL.out) hbl3 (ints_get hy)
              have HY : Hid (filledK q r (k + 1) = S ++ [y]) := Lib.hid (by rw [filledK_put HX.out hneg hy, HS.out])
              have x0 : 0 ≤ x := by omega
              have x1 : (0 : Int) ≤ (k : Int) := by omega
              have x2 : (k : Int) < (q.length : Int) := by omega
              have hq6 : q.length ≤ 6 := g3
              clear hy hcell3 hneg
              go_wp2_with (at_builtin; refine wpList_app_rd _ rfl _ _ 26 rfl w3.heap.size 3 i0 (.int .i64 0) 1 8 Tryz.underlying26 hi hz0 hz1 hz2 rfl (by decide) _ _ _ rfl (HOW.out.alloc _) _ 1 [.int .i64 y] rfl (rd_new _ rfl (Nat.le_refl _) (by rw [maxLen_eq]; omega)) rfl (ints_one [y]) (by rw [maxLen_eq]; omega) (by omega) (by have := HBL.out.size; simp; omega) ?_; intro v' w7 hown' hgrow _)
              refine ⟨⟨k + 1, by omega, by go_num, Lib.hid ?_, Lib.hid (bel_grown (bel_al HBL.out _) hgrow (fun q e => (HOW.out.lt q e).1))⟩, by simp [intOf]; omega⟩
              rw [HY.out, ints_append, List.length_append]; exact hown'
          · obtain rfl : k = r.length := by omega
            have hsub := filledK_sub q r r.length (by have := HRQ.out; omega)
            have hmem : ∀ x ∈ filledK q r r.length, 0 ≤ x ∧ x ≤ (m : Int) - 1 := fun x hx => HG2.out x (List.mem_of_mem_take (hsub.subset hx))
            have y0 := (HBL.out.cell (p := ⟨w.heap.size, 0, none⟩) (by show w.heap.size < _; omega)).trans Z0.out
            have y1 := (HBL.out.cell (p := ⟨w.heap.size, 1, none⟩) (by show w.heap.size < _; omega)).trans Z1.out
            have hbw := bel_then HB3.out HBL.out
            have hcov := coveredNodes_c m s _ l (filledK q r r.length) a true w.heap.size _ HG1.out hmem y0 y1 (rd_below HR.out hbw) (rdi_own HOW.out)
            have HC := Lib.hid hcov
            have HBW := Lib.hid hbw
            have hsA := hbw.size
            clear hcov hmem hsub y0 y1 hbw
            go_wp2_with fail
            refine HC.out.mono ?_; rintro e w8 ⟨v8, rfl, ho8, hb8⟩
            go_wp2
            go_ret2
            rw [HF.out]
            exact ⟨_, rfl, own_base ho8 hsA, bel_then HBW.out hb8⟩
      · have hfb : fillB m (arcs l) p q a r = false := by simpa using hfb
        have HF : Hid (coveredAfterV (m : Int) l p q a r = ([], false)) := Lib.hid (by unfold coveredAfterV askF; rw [Int.toNat_natCast, hfb, Bool.and_false, if_neg (by simp)])
        rw [hfb]
        go_wp2
        go_ret2
        rw [HF.out]
        exact ⟨_, rfl, World.ownsRow_nil _ _ _ _, HB3.out⟩
    · have hlm : inB a 0 36000 = false := by simpa using hlm
      have HF : Hid (coveredAfterV n l p q a r = ([], false)) := Lib.hid (by unfold coveredAfterV askF askM; rw [hlm, Bool.and_false, Bool.false_and, if_neg (by simp)])
      rw [hok]
      go_wp2_with fail
      refine (isLimit_c a _).mono ?_; rw [hlm]; rintro e w2 ⟨rfl, rfl⟩
      go_wp2
      go_ret2
      rw [HF.out]
      exact ⟨_, rfl, World.ownsRow_nil _ _ _ _, HB1.out⟩
  · have hok : goodMv n l p q = false := by simpa using hok
    have HF : Hid (coveredAfterV n l p q a r = ([], false)) := Lib.hid (by unfold coveredAfterV askF askM; rw [hok, Bool.false_and, Bool.false_and, if_neg (by simp)])
    rw [hok]
    go_wp2
    go_ret2
    rw [HF.out]
    exact ⟨_, rfl, World.ownsRow_nil _ _ _ _, HB1.out⟩
set_option maxRecDepth 100000 in
set_option maxHeartbeats 4000000 in
theorem coveredAfterS_c (n : Int) (s : Value) (l : List St) (v : Value) (p : List Int) (u : Value) (q : List Int) (a : Int) (t : Value) (r : List Int) (w : World) (hr : Rd w s l.length (l.flatMap St.cells)) (hp : RdI w v p) (hq : RdI w u q) (hvr : RdI w t r) :
    Calls Tryz.prog 13 #[.agg #[.int .i64 n, s], v, u, .int .i64 a, t] w (OwnIB (coveredAfterV n l p q a r) w) := by
  have HR := Lib.hid hr
  have HQ := Lib.hid hq
  have HP := Lib.hid hp
  have HVR := Lib.hid hvr
  obtain ⟨A, c, rfl, hc, hm, hcr⟩ := hvr
  obtain ⟨Aq, cq, rfl, hcq, hmq, hqq⟩ := hq
  rw [maxLen_eq] at hm hmq
  have HCR := Lib.hid hcr
  have HQQ := Lib.hid hqq
  obtain ⟨i0, hi, hz0, hz1, hz2⟩ := info_parts Tryz.infoInt
  clear hr hp hcr hqq
  go_enter Tryz.func13, Tryz.ntmps13
  go_wp2_with fail
  generalize hW : World.alloc w _ = w0
  have t0 : w0.cell? ⟨w.heap.size, 0, none⟩ = some (.int .i64 n) := by subst hW; simp [go_sem]
  have t1 : w0.cell? ⟨w.heap.size, 1, none⟩ = some s := by subst hW; simp [go_sem]
  have hb0 : Below w.heap.size w w0 := by subst hW; exact bel_al (Below.refl _ _) _
  have z0 : w.heap.size < w0.heap.size := by subst hW; simp
  have HB := Lib.hid hb0
  clear hW hb0
  go_wp2_with fail
  refine (isFillingS_c n s l _ p _ q a _ r _ (rd_below HR.out HB.out) (rdi_below HP.out HB.out) (rdi_below HQ.out HB.out) (rdi_below HVR.out HB.out)).mono ?_; rintro e w3 ⟨rfl, hb3⟩
  have z0' := (hb3.cell (p := ⟨w.heap.size, 0, none⟩) z0).trans t0
  have z1' := (hb3.cell (p := ⟨w.heap.size, 1, none⟩) z0).trans t1
  have Z0 := Lib.hid z0'
  have Z1 := Lib.hid z1'
  have HB3 := Lib.hid (bel_then HB.out hb3)
  have hs3 := hb3.size
  clear t0 t1 hb3 z0' z1'
  by_cases hask : askM n l p q a = true
  · have HASK := Lib.hid hask
    obtain ⟨hok, hlm⟩ := askM_true hask
    obtain ⟨g1, g2, g3, g4, g5⟩ := goodMv_true hok
    obtain ⟨m, rfl⟩ := nat_of (goodTown_true g1).1
    have HG1 := Lib.hid g1
    have HSTA : Hid (goodSta (m : Int) l q = true) := Lib.hid (by unfold goodMv at hok; rw [Bool.and_eq_true] at hok; exact hok.1)
    have HLM := Lib.hid hlm
    have hf : isFillingV (m : Int) l p q a r = (fillB m (arcs l) p q a r, true) := by unfold isFillingV; rw [if_pos hask]; rfl
    rw [hf]
    dsimp only
    clear hf hask hok hlm g1 g2 g5
    by_cases hfb : fillB m (arcs l) p q a r = true
    · have HF : Hid (coveredAfterV (m : Int) l p q a r = coveredNodesW m l (filledK q r r.length) a) := Lib.hid (by unfold coveredAfterV askF; rw [Int.toNat_natCast, HASK.out, hfb, if_pos (by rfl)])
      have hrq : r.length = q.length := by
        unfold fillB at hfb
        rw [Bool.and_eq_true] at hfb
        exact (goodOn_true hfb.1).1
      have HRQ := Lib.hid hrq
      rw [hfb]
      clear hrq hfb
      go_wp2_with fail
      go_loopw [14, 34] (fun v14 v34 wr => ∃ (k : Nat), k ≤ r.length ∧ v34 = .int .i64 k ∧ Hid (wr.ownsRow w3.heap.size 3 1 v14 (filledK q r k).length (ints (filledK q r k))) ∧ Hid (Below w3.heap.size w3 wr)) (fun _ v34 _ => r.length - (intOf v34).toNat)
      case atStart => exact ⟨0, Nat.zero_le _, rfl, Lib.hid (show w3.ownsRow w3.heap.size 3 1 (.slice none 0 0) 0 [] from World.ownsRow_nil _ _ _ _), Lib.hid (Below.refl _ _)⟩
      case round =>
        obtain ⟨k, hk, rfl, HOW, HBL⟩ := hrel
        obtain ⟨wA, rfl⟩ : ∃ wA : World, wA = wr := ⟨_, rfl⟩
        by_cases hlt : k < r.length
        · obtain ⟨b, off, rfl, hbl, hcell⟩ := HCR.out (by omega)
          obtain ⟨x, hx⟩ : ∃ x, r[k]? = some x := ⟨_, List.getElem?_eq_getElem hlt⟩
          have c0 := cell_at hcell (bel_then HB3.out HBL.out) hbl (ints_get hx)
          have HX := Lib.hid hx
          have hkq : k < q.length := by have := HRQ.out; omega
          have hsl := filledK_len q r k
          obtain ⟨S, hS⟩ : ∃ S, filledK q r k = S := ⟨_, rfl⟩
          rw [hS] at HOW hsl
          have HS := Lib.hid hS
          clear hcell hx hS
          by_cases hneg : x < 0
          · have HN : Hid (filledK q r (k + 1) = S) := Lib.hid (by rw [filledK_skip HX.out hneg, HS.out])
            go_wp2
            exact ⟨⟨k + 1, by omega, by go_num, by rw [HN.out]; exact HOW, HBL⟩, by simp [intOf]; omega⟩
          · obtain ⟨b3, off3, rfl, hbl3, hcell3⟩ := HQQ.out (by omega)
            obtain ⟨y, hy⟩ : ∃ y, q[k]? = some y := ⟨_, List.getElem?_eq_getElem hkq⟩
            have d0 := cell_at hcell3 (bel_then HB3.out HBL.out) hbl3 (ints_get hy)
            have HY : Hid (filledK q r (k + 1) = S ++ [y]) := Lib.hid (by rw [filledK_put HX.out hneg hy, HS.out])
            have x0 : 0 ≤ x := by omega
            have x1 : (0 : Int) ≤ (k : Int) := by omega
            have x2 : (k : Int) < (q.length : Int) := by omega
            have hq6 : q.length ≤ 6 := g3
            clear hy hcell3 hneg
            go_wp2_with (at_builtin; refine wpList_app_rd _ rfl _ _ 26 rfl w3.heap.size 3 i0 (.int .i64 0) 1 8 Tryz.underlying26 hi hz0 hz1 hz2 rfl (by decide) _ _ _ rfl (HOW.out.alloc _) _ 1 [.int .i64 y] rfl (rd_new _ rfl (Nat.le_refl _) (by rw [maxLen_eq]; omega)) rfl (ints_one [y]) (by rw [maxLen_eq]; omega) (by omega) (by have := HBL.out.size; simp; omega) ?_; intro v' w7 hown' hgrow _)
            refine ⟨⟨k + 1, by omega, by go_num, Lib.hid ?_, Lib.hid (bel_grown (bel_al HBL.out _) hgrow (fun q e => (HOW.out.lt q e).1))⟩, by simp [intOf]; omega⟩
            rw [HY.out, ints_append, List.length_append]; exact hown'
        · obtain rfl : k = r.length := by omega
          have hsub := (filledK_sub q r r.length (by have := HRQ.out; omega)).trans (List.take_sublist _ _)
          have hgs := goodSta_sub HSTA.out hsub
          have y0 := (HBL.out.cell (p := ⟨w.heap.size, 0, none⟩) (by show w.heap.size < _; omega)).trans Z0.out
          have y1 := (HBL.out.cell (p := ⟨w.heap.size, 1, none⟩) (by show w.heap.size < _; omega)).trans Z1.out
          have hbw := bel_then HB3.out HBL.out
          have hcov := coveredNodesS_c (m : Int) s l _ (filledK q r r.length) a _ (rd_below HR.out hbw) (rdi_own HOW.out)
          rw [show coveredNodesV (m : Int) l (filledK q r r.length) a = coveredNodesW m l (filledK q r r.length) a by unfold coveredNodesV askC; rw [hgs, HLM.out, if_pos (by rfl)]; rfl] at hcov
          have HC := Lib.hid hcov
          have HBW := Lib.hid hbw
          have hsA := hbw.size
          clear hcov hsub hgs hbw
          go_wp2_with fail
          refine HC.out.mono ?_; rintro e w8 ⟨v8, rfl, ho8, hb8⟩
          go_wp2
          go_ret2
          rw [HF.out]
          exact ⟨_, rfl, own_base ho8 hsA, bel_then HBW.out hb8⟩
    · have hfb : fillB m (arcs l) p q a r = false := by simpa using hfb
      have HF : Hid (coveredAfterV (m : Int) l p q a r = ([], false)) := Lib.hid (by unfold coveredAfterV askF; rw [Int.toNat_natCast, hfb, Bool.and_false, if_neg (by simp)])
      rw [hfb]
      go_wp2
      go_ret2
      rw [HF.out]
      exact ⟨_, rfl, World.ownsRow_nil _ _ _ _, HB3.out⟩
  · have hask' : askM n l p q a = false := by simpa using hask
    have hf : isFillingV n l p q a r = (false, false) := by unfold isFillingV; rw [if_neg hask]
    have HF : Hid (coveredAfterV n l p q a r = ([], false)) := Lib.hid (by unfold coveredAfterV askF; rw [hask', Bool.false_and, if_neg (by simp)])
    rw [hf]
    clear hf hask hask'
    go_wp2
    go_ret2
    rw [HF.out]
    exact ⟨_, rfl, World.ownsRow_nil _ _ _ _, HB3.out⟩
end Go.Proofs.YtahehdgkbhjpoaaGreatDoor
