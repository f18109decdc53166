/-
  The order of attendance: available appliances with a way, by their times. (joined by pack.py: Rdy)
-/
import Derived.Test.YthgegghdkoeofaaGreatDoorK13
import Derived.Test.YthgegghdkoeofaaGreatDoorK12
import Derived.Test.YthgegghdkoeofaaGreatDoorK14
import Derived.Test.YthgegghdkoeofaaGreatDoorK16
import Derived.Test.YthgegghdkoeofaaGreatDoorK3
import Derived.Test.YthgegghdkoeofaaGreatDoorK7
import Derived.Test.YthgegghdkoeofaaGreatDoorK10
namespace Go.Proofs.YthgegghdkoeofaaGreatDoor
set_option linter.unusedVariables false
set_option linter.unusedSimpArgs false
open Go.RowKit

/-- The time of the appliance with an index. -/
def rdyKey (ev : List Int) (f : List Ap) (i : Int) : Int := match f[i.toNat]? with
  | some a => ev.getD a.nd.toNat 0
  | none => 0
def rdyP (ev : List Int) (f : List Ap) (i : Nat) : Bool := match f[i]? with
  | some a => avB a && decide (0 ≤ ev.getD a.nd.toNat 0)
  | none => false
def rdyCf (ev : List Int) (f : List Ap) (x y : Int) : Int := cmpI (rdyKey ev f x) (rdyKey ev f y)
def readyL (ev : List Int) (f : List Ap) : List Int := isort (gtOf (rdyCf ev f)) (selD (rdyP ev f) f.length)
theorem rdyKey_at {ev : List Int} {f : List Ap} {k : Nat} {a : Ap} (h : f[k]? = some a) : rdyKey ev f (k : Int) = ev.getD a.nd.toNat 0 := by unfold rdyKey; rw [Int.toNat_natCast, h]
theorem rdyP_at {ev : List Int} {f : List Ap} {k : Nat} {a : Ap} (h : f[k]? = some a) : rdyP ev f k = (avB a && decide (0 ≤ ev.getD a.nd.toNat 0)) := by unfold rdyP; rw [h]
theorem readyL_mem {ev : List Int} {f : List Ap} {x : Int} (h : x ∈ readyL ev f) : ∃ (k : Nat) (a : Ap), x = (k : Int) ∧ f[k]? = some a ∧ rdyP ev f k = true ∧ 0 ≤ ev.getD a.nd.toNat 0 := by
  obtain ⟨k, rfl, hk, hp⟩ := selD_mem ((isort_perm _ _).mem_iff.1 h)
  obtain ⟨a, ha⟩ : ∃ a, f[k]? = some a := ⟨_, List.getElem?_eq_getElem hk⟩
  refine ⟨k, a, rfl, ha, hp, ?_⟩
  rw [rdyP_at ha, Bool.and_eq_true] at hp
  exact of_decide_eq_true hp.2
theorem readyL_len (ev : List Int) (f : List Ap) : (readyL ev f).length ≤ f.length := by unfold readyL; rw [isort_length]; exact selD_len _ _

set_option maxRecDepth 100000 in
set_option maxHeartbeats 2000000 in
theorem rdyCmp_c (ev : List Int) (f : List Ap) (C D h cap b off c n : Nat) (x y : Int) (W : World) (hC : W.cell? ⟨C, 0, none⟩ = some (.slice (some ⟨h, 0, none⟩) n cap)) (hD : W.cell? ⟨D, 0, none⟩ = some (.slice (some ⟨b, off, none⟩) f.length c))
    (hev : ∀ j, j < n → W.cell? ⟨h, j, none⟩ = some (.int .i64 (ev.getD j 0))) (hcell : ∀ j u, (f.flatMap Ap.cells)[j]? = some u → W.cell? ⟨b, off + j, none⟩ = some u) (hbl : b < W.heap.size)
    (hnd : ∀ a ∈ f, 0 ≤ a.nd ∧ a.nd ≤ (n : Int) - 1) (hx : 0 ≤ x ∧ x < f.length) (hy : 0 ≤ y ∧ y < f.length) :
    Calls Tryz.prog 143 (#[.int .i64 x, .int .i64 y] ++ #[.pointer (some ⟨C, 0, none⟩), .pointer (some ⟨D, 0, none⟩)]) W fun e W' => e = .returned (.int .i64 (rdyCf ev f x y)) ∧ ∃ q, W' = W.drewN q := by
  obtain ⟨x0, x1⟩ := hx
  obtain ⟨y0, y1⟩ := hy
  obtain ⟨i, rfl⟩ := Int.eq_ofNat_of_zero_le x0
  obtain ⟨k, rfl⟩ := Int.eq_ofNat_of_zero_le y0
  obtain ⟨nm, kd, nd, cr, sv, hi, c0, c1, c2, c3, c4⟩ := ap_at' hcell (Below.refl _ _) hbl (show i < f.length by omega)
  obtain ⟨nm', kd', nd', cr', sv', hk, d0, d1, d2, d3, d4⟩ := ap_at' hcell (Below.refl _ _) hbl (show k < f.length by omega)
  have ni := hnd _ (List.mem_of_getElem? hi)
  have nk := hnd _ (List.mem_of_getElem? hk)
  dsimp only at ni nk
  obtain ⟨ni0, ni1⟩ := ni
  obtain ⟨nk0, nk1⟩ := nk
  obtain ⟨p, rfl⟩ := Int.eq_ofNat_of_zero_le ni0
  obtain ⟨q, rfl⟩ := Int.eq_ofNat_of_zero_le nk0
  have e1 := hev p (by omega)
  have e2 := hev q (by omega)
  have hv : rdyCf ev f i k = cmpI (ev.getD p 0) (ev.getD q 0) := by unfold rdyCf; rw [rdyKey_at hi, rdyKey_at hk]; rfl
  obtain ⟨s, hs⟩ : ∃ s, ev.getD p 0 = s := ⟨_, rfl⟩
  obtain ⟨t, ht⟩ : ∃ t, ev.getD q 0 = t := ⟨_, rfl⟩
  rw [hs] at e1 hv
  rw [ht] at e2 hv
  have HV := Lib.hid hv
  have p1 : (p : Int) < (n : Int) := by omega
  have q1 : (q : Int) < (n : Int) := by omega
  clear hi hk hcell hev hnd hs ht hv ni1 nk1
  go_enter Tryz.func143, Tryz.ntmps143
  go_wp2_with fail
  go_quiet ((go_at_call 144; exact Calls.quiet_of_same ((cmpInt_c _ _ _).mono fun _ _ h => ⟨h.1, h.2.symm⟩)))
  go_wp2
  go_ret
  exact ⟨by rw [HV.out]; rfl, _, rfl⟩

set_option maxRecDepth 100000 in
set_option maxHeartbeats 4000000 in
theorem readyOrder_c (n : Nat) (s : Value) (l : List St) (v : Value) (f : List Ap) (src B : Nat) (w : World) (hg : goodTown n l = true) (hfl : goodFl f = true) (hnd : ∀ a ∈ f, 0 ≤ a.nd ∧ a.nd ≤ (n : Int) - 1) (hs : src < n)
    (t0 : w.cell? ⟨B, 0, none⟩ = some (.int .i64 n)) (t1 : w.cell? ⟨B, 1, none⟩ = some s) (hr : Rd w s l.length (l.flatMap St.cells)) (hf : Rd w v f.length (f.flatMap Ap.cells)) :
    Calls Tryz.prog 106 #[.pointer (some ⟨B, 0, none⟩), v, .int .i64 src] w (OwnI (readyL (distT n (arcs l) src) f) w) := by
  have hB : B < w.heap.size := World.block_lt_of_cell? w _ t0
  obtain ⟨hf12, hfg⟩ := goodFl_true hfl
  have hn1 := (goodTown_true hg).1
  have HR := Lib.hid hr
  have HF := Lib.hid hf
  have HG := Lib.hid hg
  have HND := Lib.hid hnd
  have HFG := Lib.hid hfg
  obtain ⟨A, c, rfl, hc, hm, hcell0⟩ := hf
  rw [maxLen_eq] at hm
  have HCELL := Lib.hid hcell0
  have hEG : ∀ args w, (callFunc 143 args).run Tryz.prog w = .ok (.enter 143 args) w := enters_of Tryz.func143 (by kernel_rfl) rfl
  have EG := Lib.hid hEG
  obtain ⟨i0, hi, hz0, hz1, hz2⟩ := info_parts Tryz.infoInt
  have T0 := Lib.hid t0
  have T1 := Lib.hid t1
  clear hr hcell0 hfl hfg hg hnd hEG t0 t1
  go_enter Tryz.func106, Tryz.ntmps106
  go_wp2_with fail
  generalize hW : World.alloc w _ = w0
  have b0 : w0.cell? ⟨w.heap.size, 0, none⟩ = some (.slice A f.length c) := by subst hW; simp [go_sem]
  have hb0 : Below w.heap.size w w0 := by subst hW; exact bel_al (Below.refl _ _) _
  have z0 : w.heap.size < w0.heap.size := by subst hW; simp
  have HB := Lib.hid hb0
  have y0 := (hb0.cell (p := ⟨B, 0, none⟩) hB).trans T0.out
  have y1 := (hb0.cell (p := ⟨B, 1, none⟩) hB).trans T1.out
  clear hW hb0
  refine (timesI_c n s l B src _ HG.out hs y0 y1 (rd_below HR.out HB.out)).mono ?_
  rintro e uA ⟨v5, rfl, ho5, hb1⟩
  rw [show (distT n (arcs l) src).length = n by unfold distT; rw [iterT_len, startT_len]] at ho5
  obtain ⟨h, cap5, rfl, hbh, hhl, hcap5, hcm5⟩ := own_shape ho5 (by omega)
  obtain ⟨ev, hev⟩ : ∃ ev, distT n (arcs l) src = ev := ⟨_, rfl⟩
  rw [hev] at ho5
  have HEV := Lib.hid hev
  have b1 := (hb1.cell (p := ⟨w.heap.size, 0, none⟩) z0).trans b0
  have HB1 := Lib.hid (bel_then HB.out hb1)
  have hs1 := hb1.size
  have HO5 := Lib.hid ho5
  have ba : ∀ o, (uA.alloc o).cell? ⟨w.heap.size, 0, none⟩ = some (.slice A f.length c) := fun o => (World.cell?_alloc_lt _ _ _ (by show w.heap.size < _; omega)).trans b1
  clear ho5 hb1 b0 y0 y1 hev
  go_wp2_with fail
  generalize hW : World.alloc uA _ = uB
  have d0 : uB.cell? ⟨uA.heap.size, 0, none⟩ = some (.slice (some ⟨h, 0, none⟩) n cap5) := by subst hW; simp [go_sem]
  have hb2 : Below uA.heap.size uA uB := by subst hW; exact bel_al (Below.refl _ _) _
  have z2 : uA.heap.size < uB.heap.size := by subst hW; simp
  have b2 := (hb2.cell (p := ⟨w.heap.size, 0, none⟩) (by show w.heap.size < _; omega)).trans b1
  have HO2 := Lib.hid (own_below HO5.out hb2)
  have HB2 := Lib.hid (bel_then HB1.out hb2)
  have D0 := Lib.hid d0
  have BB2 := Lib.hid b2
  have hs2 := hb2.size
  clear hW hb2 b1 ba
  go_loopw [8, 16] (fun v8 v16 wr => ∃ (k : Nat) (S : List Int), k ≤ f.length ∧ S.length ≤ k ∧ v16 = .int .i64 k ∧ Hid (selD (rdyP ev f) k = S) ∧ Hid (wr.ownsRow uB.heap.size 3 1 v8 S.length (ints S)) ∧ Hid (Below uB.heap.size uB wr)) (fun _ v16 _ => f.length - (intOf v16).toNat)
  case atStart => exact ⟨0, [], Nat.zero_le _, Nat.le_refl _, rfl, Lib.hid rfl, Lib.hid (show uB.ownsRow uB.heap.size 3 1 (.slice none 0 0) 0 [] from World.ownsRow_nil _ _ _ _), Lib.hid (Below.refl _ _)⟩
  case round =>
    obtain ⟨k, S, hk, hSk, rfl, HS, HOW, HBL⟩ := hrel
    obtain ⟨wA, rfl⟩ : ∃ wA : World, wA = wr := ⟨_, rfl⟩
    have hsA := HBL.out.size
    by_cases hlt : k < f.length
    · obtain ⟨b, off, rfl, hbl, hcell⟩ := HCELL.out (by omega)
      obtain ⟨nm, kd, nd, cr, sv, hx, c0, c1, c2, c3, c4⟩ := ap_at' hcell (bel_then HB2.out HBL.out) hbl hlt
      have hgood := goodAp_true (HFG.out _ (List.mem_of_getElem? hx))
      have hnn := HND.out _ (List.mem_of_getElem? hx)
      dsimp only at hgood hnn
      obtain ⟨_, hk0, hk3, _, _, _⟩ := hgood
      obtain ⟨nd0, nd1⟩ := hnn
      obtain ⟨p, rfl⟩ := Int.eq_ofNat_of_zero_le nd0
      have hP := rdyP_at (ev := ev) hx
      dsimp only at hP
      rw [Int.toNat_natCast] at hP
      have HPP := Lib.hid hP
      have hpn : p < n := by omega
      have p0 : (0 : Int) ≤ (p : Int) := by omega
      have p1 : (p : Int) < (n : Int) := by omega
      clear hcell hx hP nd1
      go_wp2_with fail
      (generalize hw1 : World.alloc wA _ = w1; have k0 : w1.cell? ⟨wA.heap.size, 0, none⟩ = some (.string nm) := (by subst hw1; simp [go_sem]); have k1 : w1.cell? ⟨wA.heap.size, 1, none⟩ = some (.int .i64 kd) := (by subst hw1; simp [go_sem]); have k2 : w1.cell? ⟨wA.heap.size, 2, none⟩ = some (.int .i64 p) := (by subst hw1; simp [go_sem]); have k3 : w1.cell? ⟨wA.heap.size, 3, none⟩ = some (.int .i64 cr) := (by subst hw1; simp [go_sem]); have k4 : w1.cell? ⟨wA.heap.size, 4, none⟩ = some (.int .i64 sv) := (by subst hw1; simp [go_sem]); have hb0 : Below wA.heap.size wA w1 := (by subst hw1; exact bel_al (Below.refl _ _) _); have hsz1 : wA.heap.size < w1.heap.size := (by subst hw1; simp); clear hw1)
      have HBX := Lib.hid (bel_then HBL.out hb0)
      refine (isAvailable_c nm kd p cr sv _ hk0 hk3).mono ?_; rintro e w3 ⟨rfl, hb3⟩
      have e2 := (hb3.cell (p := ⟨wA.heap.size, 2, none⟩) (by show wA.heap.size < _; omega)).trans k2
      have HB3 := Lib.hid (bel_then HBX.out hb3)
      have HBA := Lib.hid (bel_then hb0 hb3)
      have hs3 := hb3.size
      have x0 := (HB3.out.cell (p := ⟨uA.heap.size, 0, none⟩) z2).trans D0.out
      have xe := (HB3.out.cell (p := ⟨h, p, none⟩) (by show h < _; omega)).trans (own_cell HO2.out hpn)
      obtain ⟨t, ht⟩ : ∃ t, ev.getD p 0 = t := ⟨_, rfl⟩
      rw [ht] at xe
      have HT := Lib.hid ht
      have HOW3 := Lib.hid (own_below HOW.out HBA.out)
      clear hb0 hb3 ht k0 k1 k2 k3 k4
      by_cases hav : avB ⟨nm, kd, p, cr, sv⟩ = true
      · rw [hav]
        by_cases ht0 : 0 ≤ t
        · have HY : Hid (selD (rdyP ev f) (k + 1) = S ++ [(k : Int)]) := Lib.hid (by rw [selD_yes (by rw [HPP.out, hav, HT.out, decide_eq_true ht0]; rfl), HS.out])
          go_wp2_with (at_builtin; refine wpList_app_rd _ rfl _ _ 48 rfl uB.heap.size 3 i0 (.int .i64 0) 1 8 Tryz.underlying48 hi hz0 hz1 hz2 rfl (by decide) _ _ _ rfl (HOW3.out.alloc _) _ 1 [.int .i64 k] rfl (rd_new _ rfl (Nat.le_refl _) (by rw [maxLen_eq]; omega)) rfl (ints_one [(k : Int)]) (by rw [maxLen_eq]; omega) (by omega) (by have := HB3.out.size; simp; omega) ?_; intro v7 w7 hown7 hgrow7 _)
          refine ⟨⟨k + 1, S ++ [(k : Int)], by omega, by simp; omega, by go_num, HY, Lib.hid ?_, Lib.hid (bel_grown (bel_al HB3.out _) hgrow7 (fun q e => (HOW.out.lt q e).1))⟩, by simp [intOf]; omega⟩
          rw [ints_append, List.length_append]; exact hown7
        · have HN : Hid (selD (rdyP ev f) (k + 1) = S) := Lib.hid (by rw [selD_no (by rw [HPP.out, HT.out, decide_eq_false ht0]; simp), HS.out])
          have htn : t < 0 := by omega
          go_wp2
          exact ⟨⟨k + 1, S, by omega, by omega, by go_num, HN, HOW3, HB3⟩, by simp [intOf]; omega⟩
      · have hav' : avB ⟨nm, kd, p, cr, sv⟩ = false := by simpa using hav
        rw [hav']
        have HN : Hid (selD (rdyP ev f) (k + 1) = S) := Lib.hid (by rw [selD_no (by rw [HPP.out, hav']; rfl), HS.out])
        clear hav hav'
        go_wp2
        exact ⟨⟨k + 1, S, by omega, by omega, by go_num, HN, HOW3, HB3⟩, by simp [intOf]; omega⟩
    · obtain rfl : k = f.length := by omega
      have hlo := HOW.out.lt
      have HLO := Lib.hid hlo
      have hcmp : ∀ g, u8.ownBlock = some g → CmpOk 143 #[.pointer (some ⟨uA.heap.size, 0, none⟩), .pointer (some ⟨w.heap.size, 0, none⟩)] (rdyCf ev f) (fun x => 0 ≤ x ∧ x < f.length) g wA := by
        intro g hg' W x y hW hx hy
        have hgl := (HLO.out g hg').1
        obtain ⟨b, off, rfl, hbl, hcell⟩ := HCELL.out (by omega)
        have hbW : Below uB.heap.size uB W := bel_grown HBL.out hW (fun q e => by have : g = q := Option.some.inj e; omega)
        exact rdyCmp_c ev f uA.heap.size w.heap.size h cap5 b off c n x y W ((hbW.cell (p := ⟨uA.heap.size, 0, none⟩) z2).trans D0.out) ((hbW.cell (p := ⟨w.heap.size, 0, none⟩) (by show w.heap.size < _; omega)).trans BB2.out)
          (fun j hj => (hbW.cell (p := ⟨h, j, none⟩) (by show h < _; omega)).trans (own_cell HO2.out hj)) (fun j u hu => ((bel_then HB2.out hbW).cell (p := ⟨b, off + j, none⟩) hbl).trans (hcell j u hu)) (Nat.lt_of_lt_of_le hbl (bel_then HB2.out hbW).size) HND.out hx hy
      have HC : Aside _ := hcmp
      have HPU : Hid (∀ x ∈ S, 0 ≤ x ∧ x < (f.length : Int)) := Lib.hid (fun x hx => by
        rw [← HS.out] at hx
        obtain ⟨i, rfl, hi', _⟩ := selD_mem hx
        omega)
      clear hcmp hlo
      go_wp2_with (go_at_call 142; refine (sortStable_c (rdyCf ev f) (fun x => 0 ≤ x ∧ x < f.length) 143 #[.pointer (some ⟨uA.heap.size, 0, none⟩), .pointer (some ⟨w.heap.size, 0, none⟩)] _ uB.heap.size S.length S _ EG.out HC HPU.out HOW.out (by omega)).mono ?_; rintro e w' ⟨rfl, ho9, hg9⟩)
      go_ret
      refine ⟨_, rfl, ?_, bel_grown (bel_then HB2.out HBL.out) hg9 (fun q e => by have := (HLO.out q e).1; have := HB2.out.size; omega)⟩
      have hrl : readyL ev f = isort (gtOf (rdyCf ev f)) S := by unfold readyL; rw [HS.out]
      rw [HEV.out, hrl, isort_length]
      exact own_base ho9 HB2.out.size
end Go.Proofs.YthgegghdkoeofaaGreatDoor
