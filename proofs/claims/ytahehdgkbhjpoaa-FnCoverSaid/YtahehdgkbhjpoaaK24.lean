/-
  impl.fewestStations and impl.FewestStations. (joined by pack.py: FewM)
-/
import Derived.Test.YtahehdgkbhjpoaaK13
import Derived.Test.YtahehdgkbhjpoaaK9
import Derived.OneCell
import Derived.Laws.EntriesVeiled
namespace Go.Proofs.Ytahehdgkbhjpoaa
set_option linter.unusedVariables false
set_option linter.unusedSimpArgs false
open Go.RowKit

theorem one_grow {a b : World} {r : Option Nat} {B : Nat} {o : Obj} (h : a.heap[B]? = some o) (g : a.grownBy b r) (hne : ∀ q, r = some q → B ≠ q) : b.heap[B]? = some o :=
  (g.block B (Array.getElem?_eq_some_iff.1 h).1 (fun e => hne B e.symm rfl)).trans h
theorem gro_mark2 {a b c : World} {g : Nat} {r : Option Nat} (h : a.grownBy b (some g)) (k : b.grownBy c r) (hr : ∀ q, r = some q → a.heap.size ≤ q) : a.grownBy c (some g) :=
  ⟨k.os.trans h.os, k.tape.trans h.tape, k.output.trans h.output, Nat.le_trans h.size k.size, fun i hi hne => (k.block i (Nat.lt_of_lt_of_le hi h.size) (fun e => by have := hr i e.symm; omega)).trans (h.block i hi hne)⟩
theorem one_below {a b : World} {B : Nat} {o : Obj} (h : a.heap[B]? = some o) (g : Below a.heap.size a b) : b.heap[B]? = some o := (g.block B (Array.getElem?_eq_some_iff.1 h).1).trans h

set_option maxRecDepth 100000 in
set_option maxHeartbeats 2000000 in
theorem fewestStations_c (m : Nat) (s : Value) (l : List St) (a : Int) (B : Nat) (w : World) (hg : goodTown m l = true) (t0 : w.cell? ⟨B, 0, none⟩ = some (.int .i64 m)) (t1 : w.cell? ⟨B, 1, none⟩ = some s) (hr : Rd w s l.length (l.flatMap St.cells)) :
    Calls Try.prog 67 #[.pointer (some ⟨B, 0, none⟩), .int .i64 a] w (OwnIB (fewestStationsW m l a) w) := by
  have HR := Lib.hid hr
  have HT0 := Lib.hid t0
  have HT1 := Lib.hid t1
  have hB : B < w.heap.size := World.block_lt_of_cell? w _ t0
  obtain ⟨hn1, hn2, hl40, _⟩ := goodTown_true hg
  obtain ⟨i0, hi0, hz0, hz1, hz2⟩ := info_parts Try.infoInt
  have HG := Lib.hid hg
  have hpw : 1 ≤ 2 ^ m := Nat.one_le_two_pow
  have hpb := pow_bd (show m ≤ 14 by omega)
  obtain ⟨all, hall⟩ : ∃ all, all = 2 ^ m - 1 := ⟨_, rfl⟩
  obtain ⟨pw, hpwe⟩ : ∃ pw : Nat, 2 ^ m = pw := ⟨_, rfl⟩
  have HALL : Hid (2 ^ m - 1 = all) := Lib.hid hall.symm
  rw [hpwe] at hpw hpb hall
  have e1 : IntKind.i64.wrap ((2 : Int) ^ m) = (pw : Int) := by
    have : (2 : Int) ^ m = (pw : Int) := by rw [← hpwe, Int.natCast_pow]; rfl
    rw [this, IntKind.wrap_i64]; omega
  have e2 : (pw : Int) - 1 = (all : Int) := by omega
  have hallb : all < 16384 := by omega
  have E1 := Lib.hid e1
  have E2 := Lib.hid e2
  clear hr hg t0 hpwe hall e1 e2
  have t0 := HT0.out
  go_enter Try.func67, Try.ntmps67
  go_wp2_with fail
  clear t0 t1
  generalize hW3 : World.alloc w _ = w3
  have hbs : w3.heap[w.heap.size]? = some (.cells #[.slice none 0 0] 27 (0, 0)) := by subst hW3; exact heap_alloc_new w _
  have HB3 : Hid (Below w.heap.size w w3) := Lib.hid (by subst hW3; exact bel_al (Below.refl _ _) _)
  have hz3 : w.heap.size < w3.heap.size := by subst hW3; simp
  have HBS := Lib.hid hbs
  clear hW3 hbs
  go_loopw [20] (fun v20 wr => ∃ (n c : Nat) (A : Option Addr), n ≤ m ∧ v20 = .int .i64 n ∧ Hid (wr.heap[w.heap.size]? = some (.cells #[.slice A n c] 27 (0, 0))) ∧ Hid (wr.ownsRow w3.heap.size 3 1 (.slice A n c) n (ints ((reachL m (arcs l) a).take n))) ∧ Hid (w3.grownBy wr (some w.heap.size))) (fun v20 _ => m - (intOf v20).toNat)
  case atStart => exact ⟨0, 0, none, Nat.zero_le _, rfl, HBS, Lib.hid (World.ownsRow_nil _ _ _ _), Lib.hid (World.grownBy.refl _ _)⟩
  case round =>
    obtain ⟨n, c, A, hn, rfl, HBN, HOW, HGR⟩ := hrel
    obtain ⟨wA, rfl⟩ : ∃ wA : World, wA = wr := ⟨_, rfl⟩
    have hsA := HGR.out.size
    have HBA : Hid (Below w.heap.size w wA) := Lib.hid (bel_mark HB3.out HB3.out.size HGR.out (fun q e => by have := Option.some.inj e; omega))
    have d0 := (HBA.out.cell (p := ⟨B, 0, none⟩) hB).trans HT0.out
    have d1 := (HBA.out.cell (p := ⟨B, 1, none⟩) hB).trans HT1.out
    by_cases hlt : n < m
    · go_wp2_with fail
      refine (timesI_c m _ l B n _ HG.out hlt d0 d1 (rd_below HR.out HBA.out)).mono ?_
      rintro e w5 ⟨v5, rfl, ho5, hb5⟩
      rw [distT_len] at ho5
      obtain ⟨h, cap5, rfl, hbh, hhl, hcap5, hcm5⟩ := own_shape ho5 (by omega)
      have HO5 := Lib.hid ho5
      have hs5 := hb5.size
      have HBN5 := Lib.hid (one_below HBN.out hb5)
      have HOW5 := Lib.hid (own_below HOW.out hb5)
      have HGR5 : Hid (w3.grownBy w5 (some w.heap.size)) := Lib.hid (gro_bel HGR.out hb5)
      have IW := Lib.hid HOW5.out.lt
      clear ho5 hb5 d0 d1
      go_wp2_with fail
      go_loopw [8, 27] (fun v8 v27 wr2 => ∃ (j M : Nat), j ≤ m ∧ v27 = .int .i64 j ∧ v8 = .int .i64 M ∧ Hid (maskP (reachP m (arcs l) a n) j = M) ∧ wr2 = w5) (fun _ v27 _ => m - (intOf v27).toNat)
      case atStart => exact ⟨0, 0, Nat.zero_le _, rfl, rfl, Lib.hid rfl, rfl⟩
      case round =>
        obtain ⟨j, M, hj, rfl, rfl, HM, rfl⟩ := hrel
        by_cases hjm : j < m
        · have ce := own_cell HO5.out hjm
          obtain ⟨x, hx⟩ : ∃ x, (distT m (arcs l) n).getD j 0 = x := ⟨_, rfl⟩
          rw [hx] at ce
          obtain ⟨b, hb⟩ : ∃ b : Nat, 2 ^ j = b := ⟨_, rfl⟩
          have hMlt := maskP_lt (reachP m (arcs l) a n) j
          have hpbj := pow_bd (show j ≤ 14 by omega)
          rw [HM.out, hb] at hMlt
          rw [hb] at hpbj
          have HX := Lib.hid hx
          have HBE := Lib.hid hb
          have e1 : IntKind.i64.wrap ((2 : Int) ^ j) = (b : Int) := by
            have : (2 : Int) ^ j = (b : Int) := by rw [← hb, Int.natCast_pow]; rfl
            rw [this, IntKind.wrap_i64]; omega
          obtain ⟨M2, hM2⟩ : ∃ M2, M ||| b = M2 := ⟨_, rfl⟩
          have e3 : bits .or .i64 (M : Int) (b : Int) = (M2 : Int) := by rw [bits_or_i64_nat M b (by omega) (by omega), hM2]
          have HM2 := Lib.hid hM2
          clear hx hb hM2
          go_wp2_with fail
          refine (inside_c _ _ _ _).mono ?_; rintro e w' ⟨rfl, rfl⟩
          by_cases hin : inB x 0 a = true
          · rw [hin]
            have HMK : Hid (maskP (reachP m (arcs l) a n) (j + 1) = M2) := Lib.hid (by
              show (if reachP m (arcs l) a n j = true then maskP (reachP m (arcs l) a n) j ||| 2 ^ j else maskP (reachP m (arcs l) a n) j) = M2
              rw [if_pos (by unfold reachP; rw [HX.out]; exact hin), HM.out, HBE.out, HM2.out])
            clear hin
            go_wp2
            exact ⟨⟨j + 1, M2, by omega, by go_num, rfl, HMK, (by first | rfl | trivial)⟩, by simp [intOf]; omega⟩
          · have hin' : inB x 0 a = false := by simpa using hin
            rw [hin']
            have HMK : Hid (maskP (reachP m (arcs l) a n) (j + 1) = M) := Lib.hid (by
              show (if reachP m (arcs l) a n j = true then maskP (reachP m (arcs l) a n) j ||| 2 ^ j else maskP (reachP m (arcs l) a n) j) = _
              rw [if_neg (by unfold reachP; rw [HX.out, hin']; simp), HM.out])
            clear hin hin' e1 e3
            go_wp2
            exact ⟨⟨j + 1, M, by omega, by go_num, rfl, HMK, (by first | rfl | trivial)⟩, by simp [intOf]; omega⟩
        · obtain rfl : j = m := by omega
          have hx : (reachL j (arcs l) a)[n]? = some (M : Int) := by
            have := HM.out
            simp only [reachL, List.getElem?_map, List.getElem?_range hlt]
            show some ((reachM j (arcs l) a n : Nat) : Int) = _
            unfold reachM; rw [this]
          have HX := Lib.hid (take_succ_of hx)
          have c5 := cell_of_one HBN5.out
          have htl : ((reachL j (arcs l) a).take n).length = n := by rw [List.length_take, reachL_len]; omega
          have hg5 : w.heap.size < wr.heap.size := by omega
          clear hx
          go_wp2_with (at_builtin; refine wpList_app_rd _ rfl _ _ 27 rfl w3.heap.size 3 i0 (.int .i64 0) 1 8 Try.underlying27 hi0 hz0 hz1 hz2 rfl (by decide) _ _ _ rfl (HOW5.out.alloc _) _ 1 [.int .i64 M] rfl (rd_new _ rfl (Nat.le_refl _) (by rw [maxLen_eq]; omega)) rfl (ints_one [(M : Int)]) (by rw [maxLen_eq]; omega) (by omega) (by simp; omega) ?_; intro v' w7 hown' hgrow hat; obtain ⟨A', c', hx', _⟩ := own_rd hown'; subst hx'; have hb7 := one_grow (one_below HBN5.out (bel_al (Below.refl _ _) _)) hgrow (fun q e => by have := (IW.out q e).1; omega); have c7 := cell_of_one hb7; have f7 := free_of_one hb7)
          refine ⟨⟨n + 1, c', A', by omega, by go_num, Lib.hid (one_setCell hb7), Lib.hid ?_, Lib.hid (only_setCell (gro_mark2 (gro_al HGR5.out _) hgrow (fun q e => (IW.out q e).1)) 0 _)⟩, by simp [intOf]; omega⟩
          rw [HX.out, ints_append]
          exact ownsRow_setCell_other hown' (fun e => by have := (hown'.lt _ e).1; simp at this; omega) _
    · obtain rfl : n = m := by omega
      have htk : (reachL n (arcs l) a).take n = natI (setsL n (arcs l) a) := by rw [setsL_natI, List.take_of_length_le (by rw [reachL_len]; exact Nat.le_refl _)]
      have HOW2 := HOW
      rw [htk] at HOW2
      have hRD : RdI wA (.slice A n c) (natI (setsL n (arcs l) a)) := by unfold RdI; rw [natI_len, setsL_len]; exact own_rd HOW2.out
      have hSL := setsL_len n (arcs l) a
      obtain ⟨SS, hSS⟩ : ∃ SS, setsL n (arcs l) a = SS := ⟨_, rfl⟩
      have HST := Lib.hid (sets_lt n (by omega) (arcs l) a)
      have HWV : Hid (fewestStationsW n l a = optL (firstN (fun j => implS SS all j 0 0) 1 6)) := Lib.hid (by unfold fewestStationsW; rw [HALL.out, hSS])
      rw [hSS] at hRD HST hSL
      have HRD := Lib.hid hRD
      obtain ⟨G, hG⟩ : ∃ G : Nat → Option (List Int), G = fun j => implS SS all j 0 0 := ⟨_, rfl⟩
      have HGE : Hid (∀ j, G j = implS SS all j 0 0) := Lib.hid (fun j => by rw [hG])
      rw [← hG] at HWV
      have HSL := Lib.hid hSL
      have e1 := E1.out
      have e2 := E2.out
      clear HOW HOW2 htk hRD hSS hG hSL d1
      go_wp2_with fail
      generalize hWS : World.alloc (World.alloc wA _) _ = wS
      have y0 : wS.cell? ⟨wA.heap.size, 0, none⟩ = some (.int .i64 all) := by subst hWS; simp [go_sem]
      have y2 : wS.cell? ⟨wA.heap.size + 1, 0, none⟩ = some (srchF wA.heap.size w.heap.size (wA.heap.size + 1)) := by subst hWS; simp [go_sem, srchF]
      have hwA : w.heap.size < wA.heap.size := by omega
      have y1 : wS.cell? ⟨w.heap.size, 0, none⟩ = some (.slice A n c) := by
        subst hWS
        rw [World.cell?_alloc_lt _ _ _ (by show w.heap.size < _; simp; omega), World.cell?_alloc_lt _ _ _ (by show w.heap.size < _; omega)]
        exact cell_of_one HBN.out
      have hzS : wA.heap.size + 1 < wS.heap.size := by subst hWS; simp
      have HBS2 : Hid (Below wA.heap.size wA wS) := Lib.hid (by subst hWS; exact bel_al (bel_al (Below.refl _ _) _) _)
      have HRS := Lib.hid (rdi_below HRD.out HBS2.out)
      have Y0 := Lib.hid y0
      have Y1 := Lib.hid y1
      have Y2 := Lib.hid y2
      have HBW : Hid (Below w.heap.size w wS) := Lib.hid (bel_then HBA.out HBS2.out)
      have eg : ∀ args w, (callFunc 110 args).run Try.prog w = .ok (.enter 110 args) w := enters_of Try.func110 (by kernel_rfl) rfl
      clear hWS y0 y1 y2 e1 e2
      go_loopw [13] (fun v7 wr => ∃ (k : Nat), 1 ≤ k ∧ k ≤ 7 ∧ v7 = .int .i64 k ∧ Hid (firstN G 1 6 = firstN G k (7 - k)) ∧ Hid (Below wS.heap.size wS wr)) (fun v7 _ => 7 - (intOf v7).toNat)
      case atStart => exact ⟨1, by omega, by omega, by go_num, Lib.hid rfl, Lib.hid (Below.refl _ _)⟩
      case round =>
        obtain ⟨k, hk1, hk7, rfl, HK, HBL⟩ := hrel
        obtain ⟨wC, rfl⟩ : ∃ wC : World, wC = wr := ⟨_, rfl⟩
        by_cases hk : k ≤ 6
        · have hst := firstN_step G k (7 - (k + 1))
          rw [show (7 - (k + 1)) + 1 = 7 - k by omega] at hst
          have x0 := (HBL.out.cell (p := ⟨wA.heap.size, 0, none⟩) (by show wA.heap.size < _; omega)).trans Y0.out
          have x1 := (HBL.out.cell (p := ⟨w.heap.size, 0, none⟩) (by show w.heap.size < _; omega)).trans Y1.out
          have x2 := (HBL.out.cell (p := ⟨wA.heap.size + 1, 0, none⟩) (by show wA.heap.size + 1 < _; omega)).trans Y2.out
          have hc := searchI_c wA.heap.size w.heap.size (wA.heap.size + 1) SS all c A hallb HST.out (by rw [HSL.out]; omega) k 0 0 wC hk (Nat.zero_le _) (by omega) x0 (by rw [HSL.out]; exact x1) (by rw [HSL.out]; exact rdi_below HRS.out HBL.out) x2
          rw [← HGE.out k] at hc
          unfold srchF at x2
          cases hR : G k with
          | some r =>
            rw [hR] at hc hst
            have hc2 : Calls Try.prog 110 #[.int .i64 (0 : Nat), .int .i64 k, .int .i64 (0 : Nat), .pointer (some ⟨wA.heap.size, 0, none⟩), .pointer (some ⟨w.heap.size, 0, none⟩), .pointer (some ⟨wA.heap.size + 1, 0, none⟩)] wC (OwnIB (r, true) wC) := hc
            have HC := Lib.hid hc2
            have HV : Hid (fewestStationsW n l a = (r, true)) := Lib.hid (by rw [HWV.out, HK.out, hst]; rfl)
            clear hc hc2 hst hR x0 x1
            go_wp2_with fail
            refine HC.out.mono ?_; intro e w9 hh; obtain ⟨x9, rfl, ho9, hb9⟩ := ownIB_open hh; clear hh
            have HO9 := Lib.hid ho9
            have HB9 := Lib.hid (bel_then HBL.out hb9)
            have hsb := HBW.out.size
            have hsl := HBL.out.size
            clear ho9 hb9
            go_wp2
            go_ret2
            rw [HV.out]
            refine ⟨_, rfl, ?_, bel_then HBW.out HB9.out⟩
            exact own_base HO9.out (by omega)
          | none =>
            rw [hR] at hc hst
            have hc2 : Calls Try.prog 110 #[.int .i64 (0 : Nat), .int .i64 k, .int .i64 (0 : Nat), .pointer (some ⟨wA.heap.size, 0, none⟩), .pointer (some ⟨w.heap.size, 0, none⟩), .pointer (some ⟨wA.heap.size + 1, 0, none⟩)] wC (OwnIB ([], false) wC) := hc
            have HC := Lib.hid hc2
            have HK' : Hid (firstN G 1 6 = firstN G (k + 1) (7 - (k + 1))) := Lib.hid (by rw [HK.out, hst])
            clear hc hc2 hst hR x0 x1
            go_wp2_with fail
            refine HC.out.mono ?_; intro e w9 hh; obtain ⟨x9, rfl, ho9, hb9⟩ := ownIB_open hh; clear hh
            have HB9 := Lib.hid (bel_then HBL.out hb9)
            clear ho9 hb9 x2
            go_wp2
            exact ⟨⟨k + 1, by omega, by omega, by go_num, HK', HB9⟩, by simp [intOf]; omega⟩
        · obtain rfl : k = 7 := by omega
          have HV : Hid (fewestStationsW n l a = ([], false)) := Lib.hid (by rw [HWV.out, HK.out]; rfl)
          go_wp2
          go_ret2
          rw [HV.out]
          exact ⟨_, rfl, World.ownsRow_nil _ _ _ _, bel_then HBW.out HBL.out⟩

set_option maxRecDepth 100000 in
set_option maxHeartbeats 1000000 in
theorem fewestStationsI_c (n : Int) (s : Value) (l : List St) (a : Int) (w : World) (hr : Rd w s l.length (l.flatMap St.cells)) :
    Calls Try.prog 18 #[.agg #[.int .i64 n, s], .int .i64 a] w (OwnIB (fewestStationsV n l a) w) := by
  have HR := Lib.hid hr
  have hbx : ∀ o, Below w.heap.size w (w.alloc o) := fun o => bel_al (Below.refl _ _) o
  obtain ⟨As, cs, rfl, _⟩ := hr
  by_cases hg : goodTown n l = true
  · by_cases hl : inB a 0 36000 = true
    · obtain ⟨m, rfl⟩ := nat_of (goodTown_true hg).1
      have HF : Hid (fewestStationsV m l a = fewestStationsW m l a) := Lib.hid (by unfold fewestStationsV; rw [hg, hl, Int.toNat_natCast]; rfl)
      obtain ⟨hm1, hm2, _, _⟩ := goodTown_true hg
      obtain ⟨hlim0, hlim1⟩ := inB_true hl
      have HG := Lib.hid hg
      have HL := Lib.hid hl
      clear hg hl
      go_enter Try.func18, Try.ntmps18
      go_wp2_with fail
      generalize hw1 : World.alloc w _ = w1
      have k0 : w1.cell? ⟨w.heap.size, 0, none⟩ = some (.int .i64 m) := by subst hw1; simp [go_sem]
      have k1 : w1.cell? ⟨w.heap.size, 1, none⟩ = some (.slice As l.length cs) := by subst hw1; simp [go_sem]
      have hb1 : Below w.heap.size w w1 := by subst hw1; exact hbx _
      have hz : w.heap.size < w1.heap.size := by subst hw1; simp
      clear hw1 hbx
      refine (isTown_c m _ l _ _ k0 k1 (rd_below HR.out hb1)).mono ?_; rw [HG.out]; rintro e w2 ⟨rfl, hb2⟩
      have hz2 : w.heap.size < w2.heap.size := Nat.lt_of_lt_of_le hz hb2.size
      have z0 := (hb2.cell (p := ⟨w.heap.size, 0, none⟩) hz).trans k0
      have z1 := (hb2.cell (p := ⟨w.heap.size, 1, none⟩) hz).trans k1
      have HB := Lib.hid (bel_then hb1 hb2)
      have HR2 := Lib.hid (rd_below HR.out (bel_then hb1 hb2))
      clear k0 k1 hb1 hb2 hz
      go_wp2_with fail
      refine (isLimit_c a _).mono ?_; rw [HL.out]; rintro e w2 ⟨rfl, rfl⟩
      go_wp2_with fail
      refine (fewestStations_c m _ l a _ _ HG.out z0 z1 HR2.out).mono ?_; intro e w3 hh; obtain ⟨x9, rfl, ho9, hb9⟩ := ownIB_open hh; clear hh
      have HO9 := Lib.hid ho9
      have HB9 := Lib.hid (bel_then HB.out hb9)
      have hsb := HB.out.size
      clear ho9 hb9
      go_wp2
      go_ret2
      rw [HF.out]
      refine ⟨_, rfl, ?_, HB9.out⟩
      exact own_base HO9.out hsb
    · have hl : inB a 0 36000 = false := by simpa using hl
      have HF : Hid (fewestStationsV n l a = ([], false)) := Lib.hid (by unfold fewestStationsV; rw [hl, Bool.and_false]; rfl)
      have HG := Lib.hid hg
      have HL := Lib.hid hl
      clear hg hl
      go_enter Try.func18, Try.ntmps18
      go_wp2_with fail
      refine (isTown_c n _ l _ _ (by simp [go_sem]) (by simp [go_sem]) (rd_below HR.out (hbx _))).mono ?_; rw [HG.out]; rintro e w2 ⟨rfl, hb2⟩
      go_wp2_with fail
      refine (isLimit_c a _).mono ?_; rw [HL.out]; rintro e w2 ⟨rfl, rfl⟩
      go_wp2
      go_ret2
      rw [HF.out]
      exact ⟨_, rfl, World.ownsRow_nil _ _ _ _, bel_then (hbx _) hb2⟩
  · have hg : goodTown n l = false := by simpa using hg
    have HF : Hid (fewestStationsV n l a = ([], false)) := Lib.hid (by unfold fewestStationsV; rw [hg]; rfl)
    have HG := Lib.hid hg
    clear hg
    go_enter Try.func18, Try.ntmps18
    go_wp2_with fail
    refine (isTown_c n _ l _ _ (by simp [go_sem]) (by simp [go_sem]) (rd_below HR.out (hbx _))).mono ?_; rw [HG.out]; rintro e w2 ⟨rfl, hb2⟩
    go_wp2
    go_ret2
    rw [HF.out]
    exact ⟨_, rfl, World.ownsRow_nil _ _ _ _, bel_then (hbx _) hb2⟩
end Go.Proofs.Ytahehdgkbhjpoaa
