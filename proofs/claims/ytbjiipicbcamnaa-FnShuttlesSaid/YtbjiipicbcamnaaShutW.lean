/-
  The walk of FnShuttles (printed by gen_shw.py).
-/
import Derived.Test.YtbjiipicbcamnaaShutLaw
import Derived.Test.YtbjiipicbcamnaaDrawSh
import Derived.Test.YtbjiipicbcamnaaDelI
import Derived.Test.YtbjiipicbcamnaaDelS
import Derived.Test.YtbjiipicbcamnaaTankG
import Derived.Test.YtbjiipicbcamnaaTankH
import Derived.Test.YtbjiipicbcamnaaTankI
import Derived.Test.YtbjiipicbcamnaaTankJ
import Derived.Test.YtbjiipicbcamnaaQLists
import Derived.Test.YtbjiipicbcamnaaIntsC
import Derived.BigRegion
import Derived.BigQuiet
import Derived.Deep.QuietTactic
import Derived.Deep.CutRange
namespace Go.Proofs.Ytbjiipicbcamnaa
open Go.RowKit

theorem cyc_snd (t : Tk) : (cycSec t).2 = t.ok := by
  unfold cycSec; split <;> rename_i h
  · rw [h]
  · simp at h; rw [h]
theorem rowK {w : World} {A : Option Addr} {n c : Nat} {vs : List Value} {M : List (List Int)} (h : RdSv w (.slice A n c) vs M) {k : Nat} {x : List Int} (hx : M[k]? = some x) (hl : x.length = 3) :
    ∃ (g o b off cu : Nat), A = some ⟨g, o, none⟩ ∧ w.cell? ⟨g, o + k, none⟩ = some (.slice (some ⟨b, off, none⟩) 3 cu) ∧ w.cell? ⟨b, off, none⟩ = some (.int .i64 (x.getD 0 0)) ∧ w.cell? ⟨b, off + 1, none⟩ = some (.int .i64 (x.getD 1 0)) ∧ w.cell? ⟨b, off + 2, none⟩ = some (.int .i64 (x.getD 2 0)) := by
  obtain ⟨A', c', hA, _, _, h9⟩ := h.outer
  injection hA with hA _ _
  subst hA
  have hk := (List.getElem?_eq_some_iff.1 hx).1
  obtain ⟨g, o, rfl, _, hc⟩ := h9 (by omega)
  obtain ⟨u, hu⟩ : ∃ u, vs[k]? = some u := ⟨_, List.getElem?_eq_getElem (by have := h.len; omega)⟩
  have ho := h.inner k _ _ hu hx
  obtain ⟨Au, cu, eu, _, _, h8⟩ := ho
  obtain ⟨b, off, rfl, _, hcu⟩ := h8 (by omega)
  rw [hl] at eu
  have at' : ∀ j, j < 3 → w.cell? ⟨b, off + j, none⟩ = some (.int .i64 (x.getD j 0)) := fun j hj => hcu j _ (ints_get (by rw [List.getD_eq_getElem?_getD, List.getElem?_eq_getElem (by omega)]; rfl))
  refine ⟨g, o, b, off, cu, rfl, ?_, at' 0 (by omega), at' 1 (by omega), at' 2 (by omega)⟩
  have := hc k _ hu
  rw [eu] at this; exact this
/-- The last of the same tankers: the row without its first. -/
theorem rep_drop {w : World} {base g n c : Nat} {t : Tk} (h : w.ownsRow base 42 4 (.slice (some ⟨g, 0, none⟩) (n + 1) c) (n + 1) ((List.replicate (n + 1) t).flatMap Tk.cells)) :
    Rd w (.slice (some ⟨g, if c = 1 then 0 else 4, none⟩) n (c - 1)) (List.replicate n t).length ((List.replicate n t).flatMap Tk.cells) := by
  obtain ⟨A, c', e, h1, h2, h3⟩ := own_rd h
  injection e with e _ ec
  subst e; subst ec
  rw [List.length_replicate]
  refine ⟨_, _, rfl, by omega, by rw [maxLen_eq] at *; omega, fun hn => ?_⟩
  obtain ⟨b, off, e, hb, hc⟩ := h3 (by omega)
  injection e with e
  injection e with e1 e2
  subst e1; subst e2
  refine ⟨g, 4, by rw [if_neg (by omega)], hb, fun j u hu => ?_⟩
  have := hc (4 + j) u (by
    rw [List.replicate_succ, List.flatMap_cons, List.getElem?_append_right (by simp [Tk.cells])]
    simpa [Tk.cells] using hu)
  rw [Nat.zero_add] at this; exact this
theorem rep_snoc (t : Tk) (j : Nat) : (List.replicate (j + 1) t).flatMap Tk.cells = (List.replicate j t).flatMap Tk.cells ++ [.int .i64 t.l, .int .i64 t.f, .int .i64 t.d, .int .i64 t.e] := by
  rw [List.replicate_succ', List.flatMap_append]; simp [Tk.cells]
set_option maxRecDepth 100000 in
set_option maxHeartbeats 4000000 in
theorem walk_FnShuttles (w : World) (v0 : Value) (l0 : List Int) (hr0 : Rd w v0 l0.length (bys l0)) (hw0 : BytesOk l0 ∧ l0.length ≤ 9223372036854775807) (v1 : Value) (l1 : List Int) (hr1 : Rd w v1 l1.length (bys l1)) (hw1 : BytesOk l1 ∧ l1.length ≤ 9223372036854775807) :
    Calls Try.prog 4 #[v0, v1] w fun en w' => en = .returned (.bool true) ∧ Below w.heap.size w w' := by
  obtain ⟨ho0, hn0⟩ := hw0
  obtain ⟨ho1, hn1⟩ := hw1
  have HR0 := Lib.hid hr0
  have HR1 := Lib.hid hr1
  have HO0 := Lib.hid ho0
  have HO1 := Lib.hid ho1
  have HB := Lib.hid (Below.refl w.heap.size w)
  obtain ⟨A0, c0, rfl, -⟩ := hr0
  obtain ⟨A1, c1, rfl, -⟩ := hr1
  clear ho0 ho1
  obtain ⟨X, hX⟩ : ∃ X, IntKind.i64.wrap ((l0.length : Int) + (l1.length : Int)) = X := ⟨_, rfl⟩
  by_cases hbig : 1048576 < X
  · go_enter Try.func4, Try.ntmps4
    go_wp2
    go_ret
    exact ⟨rfl, Below.refl _ _⟩
  have hbig2 : X ≤ 1048576 := by omega
  clear hbig
  go_enter Try.func4, Try.ntmps4
  go_wp2_with fail
  refine (drawLeastStore_c _ l0 hn0 HO0.out _ (rd_below HR0.out HB.out)).mono ?_; rintro e w1 ⟨⟨v1, T1, f1, s1, rfl, hT1, -⟩, hb⟩
  replace HB := Lib.hid (bel_then HB.out hb)
  clear hb
  have HT1 := Lib.hid hT1
  clear hT1
  obtain ⟨z1, hz1⟩ : ∃ z, (leastStore T1 f1 s1).1 = z := ⟨_, rfl⟩
  obtain ⟨ok, hok⟩ : ∃ z, (leastStore T1 f1 s1).2 = z := ⟨_, rfl⟩
  go_wp2_with fail
  refine (leastStoreI_c _ T1 f1 s1 _ HT1.out).mono ?_; rw [hz1, hok]; rintro e w2 ⟨rfl, hb⟩
  replace HB := Lib.hid (bel_then HB.out hb)
  replace HT1 := Lib.hid (rd_below HT1.out hb)
  clear hb
  go_wp2_with fail
  refine (leastStoreS_c _ T1 f1 s1 _ HT1.out).mono ?_; rw [hz1, hok]; rintro e w3 ⟨rfl, hb⟩
  replace HB := Lib.hid (bel_then HB.out hb)
  replace HT1 := Lib.hid (rd_below HT1.out hb)
  clear hb
  go_wp2_with fail
  refine (drawDeliveries_c _ l1 hn1 HO1.out _ (rd_below HR1.out HB.out)).mono ?_; rintro e w4 ⟨⟨v2, T2, s2, rfl, hT2, -⟩, hb⟩
  replace HB := Lib.hid (bel_then HB.out hb)
  replace HT1 := Lib.hid (rd_below HT1.out hb)
  clear hb
  have HT2 := Lib.hid hT2
  clear hT2
  obtain ⟨D, hD⟩ : ∃ z, (deliveriesV T2 s2).1 = z := ⟨_, rfl⟩
  obtain ⟨one, hone⟩ : ∃ z, (deliveriesV T2 s2).2 = z := ⟨_, rfl⟩
  go_wp2_with fail
  refine (deliveriesI_c _ T2 s2 _ HT2.out).mono ?_; unfold OwnSB; rw [hD, hone]; rintro e w5 ⟨vHDI, rfl, ho, hb⟩
  replace HB := Lib.hid (bel_then HB.out hb)
  replace HT1 := Lib.hid (rd_below HT1.out hb)
  replace HT2 := Lib.hid (rd_below HT2.out hb)
  clear hb
  have HDI := Lib.hid (ho.rd)
  clear ho
  go_wp2_with fail
  refine (deliveriesS_c _ T2 s2 _ HT2.out).mono ?_; unfold OwnSB; rw [hD, hone]; rintro e w6 ⟨vHDS, rfl, ho, hb⟩
  replace HB := Lib.hid (bel_then HB.out hb)
  replace HT1 := Lib.hid (rd_below HT1.out hb)
  replace HT2 := Lib.hid (rd_below HT2.out hb)
  replace HDI := Lib.hid (RdSS.below HDI.out hb)
  clear hb
  have HDS := Lib.hid (ho.rd)
  clear ho
  go_wp2_with fail
  refine (drawTankersFor_c _ l1 hn1 HO1.out _ (rd_below HR1.out HB.out)).mono ?_; rintro e w7 ⟨⟨⟨tA, tB, tC, tD⟩, f2, rfl⟩, hb⟩
  replace HB := Lib.hid (bel_then HB.out hb)
  replace HT1 := Lib.hid (rd_below HT1.out hb)
  replace HT2 := Lib.hid (rd_below HT2.out hb)
  replace HDI := Lib.hid (RdSS.below HDI.out hb)
  replace HDS := Lib.hid (RdSS.below HDS.out hb)
  clear hb
  go_upto_region 10 with fail
  generalize hW : World.alloc w7 _ = w8
  have hr0 : w8.ownsRow w7.heap.size 42 4 (.slice (some ⟨w7.heap.size, 0, none⟩) 1 1) 1 [.int .i64 tA, .int .i64 tB, .int .i64 tC, .int .i64 tD] := by subst hW; exact row_new w7 [.int .i64 tA, .int .i64 tB, .int .i64 tC, .int .i64 tD] _ 1 4 rfl (by omega) (by omega)
  have hb : Below w7.heap.size w7 w8 := by subst hW; exact bel_al (Below.refl _ _) _
  clear hW
  replace HB := Lib.hid (bel_then HB.out hb)
  replace HT1 := Lib.hid (rd_below HT1.out hb)
  replace HT2 := Lib.hid (rd_below HT2.out hb)
  replace HDI := Lib.hid (RdSS.below HDI.out hb)
  replace HDS := Lib.hid (RdSS.below HDS.out hb)
  clear hb
  obtain ⟨RK1, hRK1⟩ : ∃ R, w7.heap.size = R := ⟨_, rfl⟩
  rw [hRK1] at hr0 ⊢
  clear hRK1
  have K1 := Lib.hid hr0
  clear hr0
  obtain ⟨n2, hn2⟩ : ∃ z, (tankersFor (Tk.mk tA tB tC tD) f2).1 = z := ⟨_, rfl⟩
  obtain ⟨three, hthree⟩ : ∃ z, (tankersFor (Tk.mk tA tB tC tD) f2).2 = z := ⟨_, rfl⟩
  obtain ⟨c1, hc1⟩ : ∃ z, (cycSec (Tk.mk tA tB tC tD)).1 = z := ⟨_, rfl⟩
  obtain ⟨five, hfive⟩ : ∃ z, (Tk.mk tA tB tC tD).ok = z := ⟨_, rfl⟩
  have hc2 : (cycSec (Tk.mk tA tB tC tD)).2 = five := by rw [cyc_snd, hfive]
  have t0 := K1.out.cellAt 0 (by omega)
  have t1 := K1.out.cellAt 1 (by omega)
  have t2 := K1.out.cellAt 2 (by omega)
  have t3 := K1.out.cellAt 3 (by omega)
  dsimp only [List.getElem?_cons_zero, List.getElem?_cons_succ] at t0 t1 t2 t3
  go_wp2_with fail
  refine (tankersForI_c tA tB tC tD f2 _).mono ?_; rw [hn2, hthree]; rintro e w9 ⟨rfl, hb⟩
  clear t0 t1 t2 t3
  replace HB := Lib.hid (bel_then HB.out hb)
  replace HT1 := Lib.hid (rd_below HT1.out hb)
  replace HT2 := Lib.hid (rd_below HT2.out hb)
  replace HDI := Lib.hid (RdSS.below HDI.out hb)
  replace HDS := Lib.hid (RdSS.below HDS.out hb)
  replace K1 := Lib.hid (own_below K1.out hb)
  clear hb
  have t0 := K1.out.cellAt 0 (by omega)
  have t1 := K1.out.cellAt 1 (by omega)
  have t2 := K1.out.cellAt 2 (by omega)
  have t3 := K1.out.cellAt 3 (by omega)
  dsimp only [List.getElem?_cons_zero, List.getElem?_cons_succ] at t0 t1 t2 t3
  go_wp2_with fail
  refine (tankersForS_c tA tB tC tD f2 _).mono ?_; rw [hn2, hthree]; rintro e w10 ⟨rfl, hb⟩
  clear t0 t1 t2 t3
  replace HB := Lib.hid (bel_then HB.out hb)
  replace HT1 := Lib.hid (rd_below HT1.out hb)
  replace HT2 := Lib.hid (rd_below HT2.out hb)
  replace HDI := Lib.hid (RdSS.below HDI.out hb)
  replace HDS := Lib.hid (RdSS.below HDS.out hb)
  replace K1 := Lib.hid (own_below K1.out hb)
  clear hb
  have t0 := K1.out.cellAt 0 (by omega)
  have t1 := K1.out.cellAt 1 (by omega)
  have t2 := K1.out.cellAt 2 (by omega)
  have t3 := K1.out.cellAt 3 (by omega)
  dsimp only [List.getElem?_cons_zero, List.getElem?_cons_succ] at t0 t1 t2 t3
  go_wp2_with fail
  refine (cycSecI_c tA tB tC tD _).mono ?_; rw [hc1, hc2]; rintro e w11 ⟨rfl, hb⟩
  clear t0 t1 t2 t3
  replace HB := Lib.hid (bel_then HB.out hb)
  replace HT1 := Lib.hid (rd_below HT1.out hb)
  replace HT2 := Lib.hid (rd_below HT2.out hb)
  replace HDI := Lib.hid (RdSS.below HDI.out hb)
  replace HDS := Lib.hid (RdSS.below HDS.out hb)
  replace K1 := Lib.hid (own_below K1.out hb)
  clear hb
  have t0 := K1.out.cellAt 0 (by omega)
  have t1 := K1.out.cellAt 1 (by omega)
  have t2 := K1.out.cellAt 2 (by omega)
  have t3 := K1.out.cellAt 3 (by omega)
  dsimp only [List.getElem?_cons_zero, List.getElem?_cons_succ] at t0 t1 t2 t3
  go_wp2_with fail
  refine (cycSecS_c tA tB tC tD _).mono ?_; rw [hc1, hc2]; rintro e w12 ⟨rfl, hb⟩
  clear t0 t1 t2 t3
  replace HB := Lib.hid (bel_then HB.out hb)
  replace HT1 := Lib.hid (rd_below HT1.out hb)
  replace HT2 := Lib.hid (rd_below HT2.out hb)
  replace HDI := Lib.hid (RdSS.below HDI.out hb)
  replace HDS := Lib.hid (RdSS.below HDS.out hb)
  replace K1 := Lib.hid (own_below K1.out hb)
  clear hb
  go_wp2_with fail
  refine (drawDryAt_c _ l1 hn1 HO1.out _ (rd_below HR1.out HB.out)).mono ?_; rintro e w13 ⟨⟨v3, T3, b3, f3, rfl, hT3, -⟩, hb⟩
  replace HB := Lib.hid (bel_then HB.out hb)
  replace HT1 := Lib.hid (rd_below HT1.out hb)
  replace HT2 := Lib.hid (rd_below HT2.out hb)
  replace HDI := Lib.hid (RdSS.below HDI.out hb)
  replace HDS := Lib.hid (RdSS.below HDS.out hb)
  replace K1 := Lib.hid (own_below K1.out hb)
  clear hb
  have HT3 := Lib.hid hT3
  clear hT3
  obtain ⟨y3, hy3⟩ : ∃ z, (dryAt T3 b3 f3).1 = z := ⟨_, rfl⟩
  obtain ⟨seven, hseven⟩ : ∃ z, (dryAt T3 b3 f3).2 = z := ⟨_, rfl⟩
  go_wp2_with fail
  refine (dryAtI_c _ T3 b3 f3 _ HT3.out).mono ?_; rw [hy3, hseven]; rintro e w14 ⟨rfl, hb⟩
  replace HB := Lib.hid (bel_then HB.out hb)
  replace HT1 := Lib.hid (rd_below HT1.out hb)
  replace HT2 := Lib.hid (rd_below HT2.out hb)
  replace HDI := Lib.hid (RdSS.below HDI.out hb)
  replace HDS := Lib.hid (RdSS.below HDS.out hb)
  replace K1 := Lib.hid (own_below K1.out hb)
  replace HT3 := Lib.hid (rd_below HT3.out hb)
  clear hb
  go_wp2_with fail
  refine (dryAtS_c _ T3 b3 f3 _ HT3.out).mono ?_; rw [hy3, hseven]; rintro e w15 ⟨rfl, hb⟩
  replace HB := Lib.hid (bel_then HB.out hb)
  replace HT1 := Lib.hid (rd_below HT1.out hb)
  replace HT2 := Lib.hid (rd_below HT2.out hb)
  replace HDI := Lib.hid (RdSS.below HDI.out hb)
  replace HDS := Lib.hid (RdSS.below HDS.out hb)
  replace K1 := Lib.hid (own_below K1.out hb)
  replace HT3 := Lib.hid (rd_below HT3.out hb)
  clear hb
  have z1H := Lib.hid hz1
  clear hz1
  have okH := Lib.hid hok
  clear hok
  have DH := Lib.hid hD
  clear hD
  have oneH := Lib.hid hone
  clear hone
  have n2H := Lib.hid hn2
  clear hn2
  have threeH := Lib.hid hthree
  clear hthree
  have c1H := Lib.hid hc1
  clear hc1
  have fiveH := Lib.hid hfive
  clear hfive
  have y3H := Lib.hid hy3
  clear hy3
  have sevenH := Lib.hid hseven
  clear hseven
  clear hc2
  have nx : ∀ b : Bool, (b != b) = false := by simp
  have m1x := nx ok
  have m2x := nx one
  have m3x := nx three
  have m4x := nx five
  have m5x := nx seven
  have m6x : (z1 != z1) = false := by simp
  have m7x : (n2 != n2) = false := by simp
  have m8x : (c1 != c1) = false := by simp
  have m9x : (y3 != y3) = false := by simp
  clear nx
  obtain ⟨wN, rfl⟩ : ∃ x : World, x = w15 := ⟨_, rfl⟩
  go_upto_region 17 with fail
  go_cut [201] from 140 to 201 (fun v wx => v = .bool false ∧ Below wN.heap.size wN wx)
  case first =>
    have HZ := Lib.hid (Below.refl wN.heap.size wN)
    go_wp2_with fail
    refine (qLists_c _ _ D D _ HDI.out HDS.out).mono ?_; rw [decide_eq_true rfl]; rintro e w16 ⟨rfl, hb⟩
    replace HZ := Lib.hid (bel_then HZ.out hb)
    replace HB := Lib.hid (bel_then HB.out hb)
    replace HT1 := Lib.hid (rd_below HT1.out hb)
    replace HT2 := Lib.hid (rd_below HT2.out hb)
    replace HDI := Lib.hid (RdSS.below HDI.out hb)
    replace HDS := Lib.hid (RdSS.below HDS.out hb)
    replace K1 := Lib.hid (own_below K1.out hb)
    replace HT3 := Lib.hid (rd_below HT3.out hb)
    clear hb
    have t0 := K1.out.cellAt 0 (by omega)
    have t1 := K1.out.cellAt 1 (by omega)
    have t2 := K1.out.cellAt 2 (by omega)
    have t3 := K1.out.cellAt 3 (by omega)
    dsimp only [List.getElem?_cons_zero, List.getElem?_cons_succ] at t0 t1 t2 t3
    go_wp2_with fail
    refine (isTankerI_c tA tB tC tD _).mono ?_; rw [fiveH.out]; rintro e w17 ⟨rfl, hb⟩
    clear t0 t1 t2 t3
    replace HZ := Lib.hid (bel_then HZ.out hb)
    replace HB := Lib.hid (bel_then HB.out hb)
    replace HT1 := Lib.hid (rd_below HT1.out hb)
    replace HT2 := Lib.hid (rd_below HT2.out hb)
    replace HDI := Lib.hid (RdSS.below HDI.out hb)
    replace HDS := Lib.hid (RdSS.below HDS.out hb)
    replace K1 := Lib.hid (own_below K1.out hb)
    replace HT3 := Lib.hid (rd_below HT3.out hb)
    clear hb
    cases three with
    | false => go_wp2_with fail; go_meet; exact ⟨rfl, HZ.out⟩
    | true =>
      obtain rfl : five = true := by rw [← fiveH.out]; exact (tankersFor_law threeH.out).1
      go_wp2_with fail
      go_meet
      exact ⟨rfl, HZ.out⟩
  case rest => as_aux_lemma =>
    obtain ⟨rfl, hb⟩ := hcut
    clear HDI HT3 m1x m2x m3x m4x m5x m6x m7x m8x m9x c1H fiveH
    replace HB := Lib.hid (bel_then HB.out hb)
    replace HT1 := Lib.hid (rd_below HT1.out hb)
    replace HT2 := Lib.hid (rd_below HT2.out hb)
    replace HDS := Lib.hid (RdSS.below HDS.out hb)
    replace K1 := Lib.hid (own_below K1.out hb)
    clear hb
    obtain ⟨wY, rfl⟩ : ∃ x : World, x = wc := ⟨_, rfl⟩
    go_upto_if 202 with fail
    go_cut [251] from 35 to 251 (fun v wx => Below wY.heap.size wY wx)
    case first =>
      cases ok with
      | false => go_wp2_with fail; go_meet; exact Below.refl _ _
      | true =>
        have HZ := Lib.hid (Below.refl wY.heap.size wY)
        obtain ⟨d1, hd1⟩ : ∃ z, (dryAt T1 z1 f1).1 = z := ⟨_, rfl⟩
        obtain ⟨is1, his1⟩ : ∃ z, (dryAt T1 z1 f1).2 = z := ⟨_, rfl⟩
        go_wp2_with fail
        refine (dryAtI_c _ T1 z1 f1 _ HT1.out).mono ?_; rw [hd1, his1]; rintro e w16 ⟨rfl, hb⟩
        replace HZ := Lib.hid (bel_then HZ.out hb)
        replace HT1 := Lib.hid (rd_below HT1.out hb)
        clear hb
        go_wp2_with fail
        refine (dryAtS_c _ T1 z1 f1 _ HT1.out).mono ?_; rw [hd1, his1]; rintro e w17 ⟨rfl, hb⟩
        replace HZ := Lib.hid (bel_then HZ.out hb)
        replace HT1 := Lib.hid (rd_below HT1.out hb)
        clear hb
        have HENO : Hid (is1 = true → 1 ≤ d1 ∧ d1 ≤ 600 ∧ s1 < 60 * d1) := Lib.hid (fun h => by
          have h2 : (dryAt T1 (leastStore T1 f1 s1).1 f1).2 = true := by rw [z1H.out, his1, h]
          have h3 := least_enough okH.out h2
          obtain ⟨h4, h5, _⟩ := dryAt_yes h2
          rw [z1H.out, hd1] at h3 h4 h5
          exact ⟨h4, h5, h3⟩)
        have HLST : Hid (0 < z1 → (dryAt T1 (z1 - 1) f1).2 = true ∧ 1 ≤ (dryAt T1 (z1 - 1) f1).1 ∧ (dryAt T1 (z1 - 1) f1).1 ≤ 600 ∧ 60 * (dryAt T1 (z1 - 1) f1).1 ≤ s1) := Lib.hid (fun h => by
          obtain ⟨h2, h3⟩ := least_least okH.out (by rw [z1H.out]; exact h)
          rw [z1H.out] at h2 h3
          obtain ⟨h4, h5, _⟩ := dryAt_yes h2
          exact ⟨h2, h4, h5, h3⟩)
        have HZB : Hid (0 ≤ z1 ∧ z1 ≤ 100000) := Lib.hid (by
          obtain ⟨_, _, _, _, h5, h6⟩ := least_yes okH.out
          rw [z1H.out] at h5 h6; exact ⟨h5, h6⟩)
        have n1x : (is1 != is1) = false := by simp
        have n2x : (d1 != d1) = false := by simp
        clear hd1 his1
        cases is1 with
        | true =>
          obtain ⟨j1, j2, j3⟩ := HENO.out rfl
          have e0 : IntKind.i64.wrap (60 * d1) = 60 * d1 := IntWalk.i64_in _ (by omega)
          go_upto_region 24 with fail
          clear e0 j1 j2 j3 n1x n2x
          obtain ⟨zb0, zb1⟩ := HZB.out
          by_cases hpos : 0 < z1
          · obtain ⟨k1, k2, k3, k4⟩ := HLST.out hpos
            have e1 : IntKind.i64.wrap (z1 - 1) = z1 - 1 := IntWalk.i64_in _ (by omega)
            obtain ⟨d2, hd2⟩ : ∃ z, (dryAt T1 (z1 - 1) f1).1 = z := ⟨_, rfl⟩
            obtain ⟨is2, his2⟩ : ∃ z, (dryAt T1 (z1 - 1) f1).2 = z := ⟨_, rfl⟩
            rw [hd2] at k2 k3 k4
            rw [his2] at k1
            subst k1
            have e2 : IntKind.i64.wrap (60 * d2) = 60 * d2 := IntWalk.i64_in _ (by omega)
            have HK4 := Lib.hid k4
            go_wp2_with fail
            refine (dryAtI_c _ T1 (z1 - 1) f1 _ HT1.out).mono ?_; rw [hd2, his2]; rintro e w18 ⟨rfl, hb⟩
            replace HZ := Lib.hid (bel_then HZ.out hb)
            replace HT1 := Lib.hid (rd_below HT1.out hb)
            clear hb
            clear hd2 his2
            go_wp2_with fail
            go_meet
            exact HZ.out
          · have hle : z1 ≤ 0 := by omega
            go_wp2_with fail
            go_meet
            exact HZ.out
        | false =>
          go_upto_region 24 with fail
          clear n1x n2x
          obtain ⟨zb0, zb1⟩ := HZB.out
          by_cases hpos : 0 < z1
          · obtain ⟨k1, k2, k3, k4⟩ := HLST.out hpos
            have e1 : IntKind.i64.wrap (z1 - 1) = z1 - 1 := IntWalk.i64_in _ (by omega)
            obtain ⟨d2, hd2⟩ : ∃ z, (dryAt T1 (z1 - 1) f1).1 = z := ⟨_, rfl⟩
            obtain ⟨is2, his2⟩ : ∃ z, (dryAt T1 (z1 - 1) f1).2 = z := ⟨_, rfl⟩
            rw [hd2] at k2 k3 k4
            rw [his2] at k1
            subst k1
            have e2 : IntKind.i64.wrap (60 * d2) = 60 * d2 := IntWalk.i64_in _ (by omega)
            have HK4 := Lib.hid k4
            go_wp2_with fail
            refine (dryAtI_c _ T1 (z1 - 1) f1 _ HT1.out).mono ?_; rw [hd2, his2]; rintro e w18 ⟨rfl, hb⟩
            replace HZ := Lib.hid (bel_then HZ.out hb)
            replace HT1 := Lib.hid (rd_below HT1.out hb)
            clear hb
            clear hd2 his2
            go_wp2_with fail
            go_meet
            exact HZ.out
          · have hle : z1 ≤ 0 := by omega
            go_wp2_with fail
            go_meet
            exact HZ.out
    case rest => as_aux_lemma =>
      have hb := hcut
      clear hcut HT1 z1H okH
      replace HB := Lib.hid (bel_then HB.out hb)
      replace HT2 := Lib.hid (rd_below HT2.out hb)
      replace HDS := Lib.hid (RdSS.below HDS.out hb)
      replace K1 := Lib.hid (own_below K1.out hb)
      clear hb
      obtain ⟨wX, rfl⟩ : ∃ x : World, x = wc := ⟨_, rfl⟩
      go_upto_if 252 with fail
      go_cut [287] from 41 to 287 (fun v wx => Below wX.heap.size wX wx)
      case first =>
        cases one with
        | false => go_wp2_with fail; go_meet; exact Below.refl _ _
        | true =>
          have HMEM : Hid (∀ (k : Nat) (x : List Int), D[k]? = some x → ∃ (i : Nat) (t : Tk) (a : Int), x = [a, (i : Int), t.l] ∧ T2[i]? = some t ∧ 0 ≤ a ∧ a ≤ s2) := Lib.hid (fun k x hx => del_mem oneH.out (by rw [DH.out]; exact List.mem_of_getElem? hx))
          have HRISE : Hid (∀ (k : Nat) (x y : List Int), D[k]? = some x → D[k + 1]? = some y → aOf x ≤ aOf y) := Lib.hid (fun k x y hx hy => del_rise (l := T2) (s := s2) oneH.out (by rw [DH.out]; exact hx) (by rw [DH.out]; exact hy))
          have HDL : Hid (D.length ≤ 1000000) := Lib.hid (by
            have h := (deliveriesV_len T2 s2)
            rw [DH.out] at h
            have : ∀ L : List (List Int), (∀ x ∈ L, x.length = 3) → L.length ≤ totL L := fun L => by
              induction L with
              | nil => intro _; exact Nat.zero_le _
              | cons x L ih =>
                intro hL
                have e : totL (x :: L) = x.length + totL L := by unfold totL; simp
                have := ih (fun y hy => hL y (by simp [hy]))
                have := hL x (by simp)
                rw [e, List.length_cons]; omega
            have := this D (fun x hx => by
              obtain ⟨k, hk, rfl⟩ := List.getElem_of_mem hx
              obtain ⟨_, _, _, e, _⟩ := HMEM.out k _ (List.getElem?_eq_getElem hk)
              rw [e]; rfl)
            omega)
          obtain ⟨vs, hvs⟩ := HDS.out
          obtain ⟨Ad, cd, rfl, hcd, hmd, -⟩ := hvs.outer
          rw [maxLen_eq] at hmd
          have HV := Lib.hid hvs
          obtain ⟨A2, c2, rfl, hc2, hm2, hcl2⟩ := HT2.out
          rw [maxLen_eq] at hm2
          have HC2 := Lib.hid hcl2
          have hdl := HDL.out
          clear hvs hcl2 HDS
          go_wp2_with fail
          go_loopw [41, 255] (fun va vi wr => ∃ (k : Nat) (last : Int), k ≤ D.length ∧ vi = .int .i64 k ∧ va = .int .i64 last ∧ Hid ((k = 0 → last = 0) ∧ ∀ (j : Nat) (x : List Int), k = j + 1 → D[j]? = some x → last = aOf x) ∧ Hid (Below wX.heap.size wX wr)) (fun _ vi _ => D.length - (intOf vi).toNat)
          case atStart => exact ⟨0, 0, Nat.zero_le _, rfl, rfl, Lib.hid ⟨fun _ => rfl, fun j x h => by omega⟩, Lib.hid (Below.refl _ _)⟩
          case round =>
            obtain ⟨k, last, hk, rfl, rfl, HLAST, HBL⟩ := hrel
            obtain ⟨wA, rfl⟩ : ∃ wA : World, wA = wr := ⟨_, rfl⟩
            have k0 : (0 : Int) ≤ (k : Int) := by omega
            by_cases hlt : k < D.length
            · obtain ⟨x, hx⟩ : ∃ x, D[k]? = some x := ⟨_, List.getElem?_eq_getElem hlt⟩
              obtain ⟨i, ⟨tl, tf, td, te⟩, a, hxe, ht, a0, a1⟩ := HMEM.out k x hx
              obtain ⟨g, o, bx, ox, cu, rfl, y9, y0, y1, y2⟩ := rowK (HV.out.below HBL.out) hx (by rw [hxe]; rfl)
              rw [hxe] at y0 y1 y2
              dsimp only [List.getD, List.getElem?_cons_zero, List.getElem?_cons_succ, Option.getD_some] at y0 y1 y2
              have hle : last ≤ a := by
                rcases k with _ | j
                · rw [HLAST.out.1 rfl]; exact a0
                · obtain ⟨z, hz⟩ : ∃ z, D[j]? = some z := ⟨_, List.getElem?_eq_getElem (by omega)⟩
                  rw [HLAST.out.2 j z rfl hz]
                  have := HRISE.out j z x hz hx
                  rw [hxe] at this
                  exact this
              have hit : i < T2.length := (List.getElem?_eq_some_iff.1 ht).1
              obtain ⟨b2, o2, rfl, hb2, hcell2⟩ := HC2.out (by omega)
              obtain ⟨ul, uf, ud, ue, hu, u0, -, -, -⟩ := tk_at' hcell2 HBL.out hb2 hit
              rw [ht] at hu
              obtain rfl : tl = ul := by injection Option.some.inj hu
              have HNX : Hid ((k + 1 = 0 → a = 0) ∧ ∀ (j : Nat) (z : List Int), k + 1 = j + 1 → D[j]? = some z → a = aOf z) := Lib.hid ⟨fun h => by omega, fun j z hj hz => by
                obtain rfl : k = j := by omega
                rw [hx] at hz
                obtain rfl := Option.some.inj hz
                rw [hxe]; rfl⟩
              have k1 : (k : Int) < (D.length : Int) := by omega
              have i0 : (0 : Int) ≤ (i : Int) := Int.natCast_nonneg _
              have i1 : (i : Int) < (T2.length : Int) := by omega
              have g1 : decide (a < last) = false := decide_eq_false (by omega)
              have g2 : decide (s2 < a) = false := decide_eq_false (by omega)
              have g3 : (tl != tl) = false := by simp
              clear hx hxe ht hu hcell2 hit a0 a1
              go_upto_region 33 with fail
              go_quiet (fail)
              have HBQ := Lib.hid (below_drewN HBL.out nq)
              have y0' : (wA.drewN nq).cell? ⟨bx, ox, none⟩ = some (.int .i64 a) := by rw [World.cell?_drewN]; exact y0
              clear g1 g2 g3 u0 y1 y2
              go_wp2
              exact ⟨⟨k + 1, a, by omega, by go_num, rfl, HNX, HBQ⟩, by simp [intOf]; omega⟩
            · obtain rfl : k = D.length := by omega
              go_wp2_with fail
              go_meet
              exact HBL.out
      case rest => as_aux_lemma =>
        have hb := hcut
        clear hcut HT2 HDS DH oneH
        replace HB := Lib.hid (bel_then HB.out hb)
        replace K1 := Lib.hid (own_below K1.out hb)
        clear hb
        obtain ⟨wV, rfl⟩ : ∃ x : World, x = wc := ⟨_, rfl⟩
        go_upto_if 288 with fail
        go_cut [328] from 44 to 328 (fun v wx => Below wV.heap.size wV wx)
        case first =>
          cases three with
          | false => go_wp2_with fail; go_meet; exact Below.refl _ _
          | true =>
            obtain ⟨-, n, hn, hn1, hn12, hfl, hfl2, hr1, hr2⟩ := tankersFor_law threeH.out
            rw [n2H.out] at hn
            subst hn
            obtain ⟨R1, hR1⟩ : ∃ z, (n : Int) * (Tk.mk tA tB tC tD).rate = z := ⟨_, rfl⟩
            obtain ⟨R2, hR2⟩ : ∃ z, ((n - 1 : Nat) : Int) * (Tk.mk tA tB tC tD).rate = z := ⟨_, rfl⟩
            rw [hR1] at hfl hr1
            rw [hR2] at hfl2 hr2
            have HF1 := Lib.hid hfl
            have HF2 := Lib.hid hfl2
            obtain ⟨i0, hi, hz0, hz1, hz2⟩ := info_parts Try.infoTkD
            clear hR1 hR2 hfl hfl2
            go_wp2_with fail
            go_loopw [44, 45] (fun va vi wr => ∃ (j : Nat) (A : Option Addr) (c : Nat), j ≤ n ∧ vi = .int .i64 j ∧ va = .slice A j c ∧ Hid (wr.ownsRow wV.heap.size 42 4 (.slice A j c) j ((List.replicate j (Tk.mk tA tB tC tD)).flatMap Tk.cells)) ∧ Hid (Below wV.heap.size wV wr)) (fun _ vi _ => n - (intOf vi).toNat)
            case atStart => exact ⟨0, none, 0, Nat.zero_le _, rfl, rfl, Lib.hid (World.ownsRow_nil _ _ _ _), Lib.hid (Below.refl _ _)⟩
            case round =>
              obtain ⟨j, A, c, hj, rfl, rfl, HOW, HBL⟩ := hrel
              obtain ⟨wA, rfl⟩ : ∃ wA : World, wA = wr := ⟨_, rfl⟩
              have j0 : (0 : Int) ≤ (j : Int) := by omega
              by_cases hlt : j < n
              · have j1 : (j : Int) < (n : Int) := by omega
                have KA := Lib.hid (own_below K1.out HBL.out)
                have x0 := KA.out.cellAt 0 (by omega)
                have x1 := KA.out.cellAt 1 (by omega)
                have x2 := KA.out.cellAt 2 (by omega)
                have x3 := KA.out.cellAt 3 (by omega)
                dsimp only [List.getElem?_cons_zero, List.getElem?_cons_succ] at x0 x1 x2 x3
                have hlow := HOW.out.lt
                have hsz := HBL.out.size
                clear KA
                go_wp2_with (at_builtin; refine wpList_app_rd _ rfl _ _ 27 rfl wV.heap.size 42 i0 _ 4 32 Try.underlying27 hi hz0 hz1 hz2 rfl (by decide) _ _ _ rfl (HOW.out.alloc _) _ 1 [.int .i64 tA, .int .i64 tB, .int .i64 tC, .int .i64 tD] rfl (rd_new _ rfl (Nat.le_refl _) (by rw [maxLen_eq]; omega)) rfl (by intro u hu; simp at hu; rcases hu with rfl | rfl | rfl | rfl <;> rfl) (by rw [maxLen_eq]; omega) (by omega) (by simp; omega) ?_; intro v7 w7 hown7 hgrow7 _)
                obtain ⟨A7, c7, rfl, _⟩ := own_rd hown7
                have hg7 : Below wV.heap.size wV w7 := bel_grown (bel_al HBL.out _) hgrow7 (fun q e => (hlow q e).1)
                refine ⟨⟨j + 1, A7, c7, by omega, by go_num, rfl, Lib.hid ?_, Lib.hid hg7⟩, by simp [intOf]; omega⟩
                rw [rep_snoc]; exact hown7
              · obtain rfl : j = n := by omega
                obtain ⟨p, rfl⟩ : ∃ p, j = p + 1 := ⟨j - 1, by omega⟩
                rw [Nat.add_sub_cancel] at HF2
                have hrd := own_rd HOW.out
                rw [show (p + 1 : Nat) = (List.replicate (p + 1) (Tk.mk tA tB tC tD)).length by simp] at hrd
                have HRD : Hid (Rd wA (.slice A (p + 1) c) (List.replicate (p + 1) (Tk.mk tA tB tC tD)).length ((List.replicate (p + 1) (Tk.mk tA tB tC tD)).flatMap Tk.cells)) := Lib.hid (by
                  have h := own_rd HOW.out
                  rw [List.length_replicate]; exact h)
                clear hrd
                obtain ⟨gA, hgA⟩ : ∃ gA, A = some ⟨gA, 0, none⟩ := by
                  rcases HOW.out.2 with ⟨h, _⟩ | ⟨g', c', cur', h, _⟩
                  · injection h with _ h _; omega
                  · injection h with h _ _; exact ⟨g', h⟩
                subst hgA
                have hpc : p + 1 ≤ c := by obtain ⟨_, _, e, h1, _⟩ := own_rd HOW.out; injection e with _ _ e; omega
                have HRP := Lib.hid (rep_drop HOW.out)
                go_wp2_with fail
                refine (flowOfI_c _ (List.replicate (p + 1) (Tk.mk tA tB tC tD)) _ HRD.out).mono ?_; rw [HF1.out]; rintro e wF ⟨rfl, hb⟩
                replace HRP := Lib.hid (rd_below HRP.out hb)
                replace HBL := Lib.hid (bel_then HBL.out hb)
                clear hb HRD HOW
                have p0 : (1 : Int) ≤ (p : Int) + 1 := by omega
                have p1 : (1 : Int) ≤ (c : Int) := by omega
                have p2 : ((p : Int) + 1) - 1 = (p : Int) := by omega
                rcases Nat.lt_or_ge 1 c with hc1 | hc1
                · have hrp := HRP.out
                  rw [if_neg (by omega)] at hrp
                  have HRP2 := Lib.hid hrp
                  clear hrp HRP
                  have hne : ¬ c = 1 := by omega
                  go_wp2_with fail
                  refine (flowOfI_c _ (List.replicate p (Tk.mk tA tB tC tD)) _ HRP2.out).mono ?_; rw [HF2.out]; rintro e wG ⟨rfl, hb⟩
                  replace HBL := Lib.hid (bel_then HBL.out hb)
                  clear hb
                  go_wp2_with fail
                  go_meet
                  exact HBL.out
                · obtain rfl : c = 1 := by omega
                  have HRP2 : Hid (Rd wF (.slice (some ⟨gA, 0, none⟩) 0 0) ([] : List Tk).length (([] : List Tk).flatMap Tk.cells)) := Lib.hid ⟨_, _, rfl, Nat.le_refl _, Nat.zero_le _, fun h => absurd h (by simp)⟩
                  have HF3 : Hid (flowOf ([] : List Tk) = (R2, true)) := Lib.hid (by
                    have h := HF2.out
                    rw [show p = 0 by omega] at h
                    exact h)
                  clear HRP HF2
                  go_wp2_with fail
                  refine (flowOfI_c _ ([] : List Tk) _ HRP2.out).mono ?_; rw [HF3.out]; rintro e wG ⟨rfl, hb⟩
                  replace HBL := Lib.hid (bel_then HBL.out hb)
                  clear hb
                  clear HF3 HRP2
                  go_wp2_with fail
                  all_goals first
                    | (exfalso; omega)
                    | (go_meet; exact HBL.out)
        case rest => as_aux_lemma =>
          have hb := hcut
          clear hcut K1 n2H threeH
          replace HB := Lib.hid (bel_then HB.out hb)
          clear hb
          cases seven with
          | false =>
            go_wp2
            go_ret
            exact ⟨rfl, HB.out⟩
          | true =>
            obtain ⟨e1, e2, -⟩ := dryAt_yes sevenH.out
            rw [y3H.out] at e1 e2
            have e3 : decide (1 ≤ y3) = true := decide_eq_true e1
            have e4 : decide (y3 ≤ 600) = true := decide_eq_true e2
            go_wp2
            go_ret
            exact ⟨rfl, HB.out⟩
end Go.Proofs.Ytbjiipicbcamnaa
