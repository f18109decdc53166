/-
  The walk of FnAppliances (printed by gen_apw.py). (joined by pack.py: ApW)
-/
import Derived.Test.YtgcdgcidjjdhmaaGreatDoorK39
import Derived.Test.YtgcdgcidjjdhmaaGreatDoorK41
import Derived.Test.YtgcdgcidjjdhmaaGreatDoorK32
import Derived.Test.YtgcdgcidjjdhmaaGreatDoorK42
import Derived.Test.YtgcdgcidjjdhmaaGreatDoorK43
import Derived.Test.YtgcdgcidjjdhmaaGreatDoorK45
import Derived.Test.YtgcdgcidjjdhmaaGreatDoorK20
import Derived.Test.YtgcdgcidjjdhmaaGreatDoorK27
import Derived.Test.YtgcdgcidjjdhmaaGreatDoorK28
import Derived.BigRegion
import Derived.BigQuiet
import Derived.Deep.QuietTactic
import Derived.Deep.CutRange
import Derived.Deep.RegionHeld3
namespace Go.Proofs.YtgcdgcidjjdhmaaGreatDoor
set_option linter.unusedVariables false
set_option linter.unusedSimpArgs false
open Go.RowKit

set_option maxRecDepth 100000 in
set_option maxHeartbeats 8000000 in
theorem walk_FnAppliances (w : World) (v0 : Value) (l0 : List Int) (hr0 : Rd w v0 l0.length (bys l0)) (hw0 : BytesOk l0 ∧ l0.length ≤ 9223372036854775807) (v1 : Value) (l1 : List Int) (hr1 : Rd w v1 l1.length (bys l1)) (hw1 : BytesOk l1 ∧ l1.length ≤ 9223372036854775807) (hlib : LibW w) :
    Calls Tryz.prog 3 #[v0, v1] w fun en w' => en = .returned (.bool true) ∧ Below w.heap.size w w' := by
  have HLIB := Lib.hid hlib
  clear hlib
  obtain ⟨ho0, hn0⟩ := hw0
  obtain ⟨ho1, hn1⟩ := hw1
  have HR0 := Lib.hid hr0
  have HR1 := Lib.hid hr1
  have HO0 := Lib.hid ho0
  have HO1 := Lib.hid ho1
  have HB := Lib.hid (Below.refl w.heap.size w)
  obtain ⟨A0, c0, rfl, -⟩ := hr0
  obtain ⟨A1, c1, rfl, -⟩ := hr1
  clear ho0 ho1
  go_enter Tryz.func3, Tryz.ntmps3
  go_wp2_with fail
  refine (big_c _ _ _ _ _ _ _).mono ?_; rintro e w' ⟨rfl, hw⟩; subst hw
  cases bigB l0.length l1.length with
  | true =>
    go_wp2
    go_ret
    exact ⟨rfl, Below.refl _ _⟩
  | false =>
    go_wp2_with fail
    refine (drawChangeState_c _ l0 hn0 HO0.out _ (rd_below HR0.out HB.out)).mono ?_; rintro e w1 ⟨⟨vf1, F1, nm1, st1, rfl, hF1, hFl1, hFs1, hnm1⟩, hb⟩
    replace HB := Lib.hid (bel_then HB.out hb)
    clear hb
    have HF1 := Lib.hid hF1
    clear hF1
    obtain ⟨Af1, cf1, rfl, hcf1, hmf1, -⟩ := HF1.out
    rw [maxLen_eq] at hmf1
    have HZ1 : Hid (∀ x ∈ F1, x.nm.size ≤ 9223372036854775807) := Lib.hid (fun x hx => Nat.le_trans (hFs1 x hx) (by decide))
    clear hFs1
    have HLAW := Lib.hid (fun h => ch_law (nm := nm1) (s := st1) (f := F1) h)
    obtain ⟨C, hC⟩ : ∃ z, (chV nm1 st1 F1).1 = z := ⟨_, rfl⟩
    obtain ⟨ok, hok⟩ : ∃ z, (chV nm1 st1 F1).2 = z := ⟨_, rfl⟩
    obtain ⟨K, hK⟩ : ∃ z, (findV nm1 F1).1 = z := ⟨_, rfl⟩
    obtain ⟨one, hone⟩ : ∃ z, (findV nm1 F1).2 = z := ⟨_, rfl⟩
    rw [hC, hok] at HLAW
    go_wp2_with fail
    refine (changeI_c _ F1 nm1 st1 _ HZ1.out HF1.out).mono ?_; unfold FlR; rw [hC, hok]; rintro e w2 ⟨vCI, rfl, hr, hb⟩
    replace HB := Lib.hid (bel_then HB.out hb)
    replace HF1 := Lib.hid (rd_below HF1.out hb)
    clear hb
    have HCI := Lib.hid (hr)
    clear hr
    go_wp2_with fail
    refine (changeS_c _ F1 nm1 st1 _ HZ1.out HF1.out).mono ?_; unfold FlR; rw [hC, hok]; rintro e w3 ⟨vCS, rfl, hr, hb⟩
    replace HB := Lib.hid (bel_then HB.out hb)
    replace HF1 := Lib.hid (rd_below HF1.out hb)
    replace HCI := Lib.hid (rd_below HCI.out hb)
    clear hb
    have HCS := Lib.hid (hr)
    clear hr
    go_wp2_with fail
    refine (findApplianceI_c _ F1 nm1 _ HZ1.out HF1.out).mono ?_; rw [hK, hone]; rintro e w4 ⟨rfl, hb⟩
    replace HB := Lib.hid (bel_then HB.out hb)
    replace HF1 := Lib.hid (rd_below HF1.out hb)
    replace HCI := Lib.hid (rd_below HCI.out hb)
    replace HCS := Lib.hid (rd_below HCS.out hb)
    clear hb
    go_wp2_with fail
    refine (findApplianceS_c _ F1 nm1 _ HZ1.out HF1.out).mono ?_; rw [hK, hone]; rintro e w5 ⟨rfl, hb⟩
    replace HB := Lib.hid (bel_then HB.out hb)
    replace HF1 := Lib.hid (rd_below HF1.out hb)
    replace HCI := Lib.hid (rd_below HCI.out hb)
    replace HCS := Lib.hid (rd_below HCS.out hb)
    clear hb
    have HONE : Hid (ok = true → one = true) := Lib.hid (fun h => by obtain ⟨i, a, hfv, -⟩ := HLAW.out h; rw [← hone, hfv])
    have HKI : Hid (∀ i : Nat, findV nm1 F1 = ((i : Int), true) → K = (i : Int)) := Lib.hid (fun i h => by rw [← hK, h])
    clear hC hok hK hone
    obtain ⟨wN, rfl⟩ : ∃ x : World, x = w5 := ⟨_, rfl⟩
    go_upto_region 8 with fail
    go_cut [109] from 84 to 109 (fun v wx => v = .bool false ∧ Below wN.heap.size wN wx)
    case first =>
      cases ok with
      | false =>
        have HZ := Lib.hid (Below.refl wN.heap.size wN)
        have e1 : (one != one) = false := by simp
        have e2 : (K != K) = false := by simp
        go_wp2_with fail
        refine (pSameFleet_c _ _ C _ HCI.out HCS.out).mono ?_; rintro e w6 ⟨rfl, hb⟩
        replace HZ := Lib.hid (bel_then HZ.out hb)
        replace HF1 := Lib.hid (rd_below HF1.out hb)
        replace HCI := Lib.hid (rd_below HCI.out hb)
        replace HCS := Lib.hid (rd_below HCS.out hb)
        clear hb
        go_wp2_with fail
        go_meet
        exact ⟨rfl, HZ.out⟩
      | true =>
        obtain rfl : one = true := HONE.out rfl
        have HZ := Lib.hid (Below.refl wN.heap.size wN)
        have e2 : (K != K) = false := by simp
        go_wp2_with fail
        refine (pSameFleet_c _ _ C _ HCI.out HCS.out).mono ?_; rintro e w6 ⟨rfl, hb⟩
        replace HZ := Lib.hid (bel_then HZ.out hb)
        replace HF1 := Lib.hid (rd_below HF1.out hb)
        replace HCI := Lib.hid (rd_below HCI.out hb)
        replace HCS := Lib.hid (rd_below HCS.out hb)
        clear hb
        go_wp2_with fail
        go_meet
        exact ⟨rfl, HZ.out⟩
    case rest => as_aux_lemma =>
      obtain ⟨rfl, hb⟩ := hcut
      replace HB := Lib.hid (bel_then HB.out hb)
      replace HF1 := Lib.hid (rd_below HF1.out hb)
      replace HCI := Lib.hid (rd_below HCI.out hb)
      replace HCS := Lib.hid (rd_below HCS.out hb)
      clear hb
      obtain ⟨wY, rfl⟩ : ∃ x : World, x = wc := ⟨_, rfl⟩
      go_upto_if 110 with fail
      go_cut [153] from 16 to 153 (fun v wx => Below wY.heap.size wY wx)
      case first =>
        cases ok with
        | false => go_wp2_with fail; go_meet; exact Below.refl _ _
        | true =>
          obtain ⟨i, a, hfv, hFi, hCi, hsv, hss, hmay, hgc⟩ := HLAW.out rfl
          obtain rfl : K = (i : Int) := HKI.out i hfv
          obtain ⟨anm, akd, andd, acr, asv⟩ := a
          have hlf := (List.getElem?_eq_some_iff.1 hFi).1
          have hlc := (List.getElem?_eq_some_iff.1 hCi).1
          have i0 : (0 : Int) ≤ (i : Int) := by omega
          have i1 : (i : Int) < (F1.length : Int) := by omega
          have i2 : (i : Int) < (C.length : Int) := by omega
          have HCZ : Hid (∀ x ∈ C, x.nm.size ≤ 9223372036854775807) := Lib.hid (fun x hx => Nat.le_trans (goodAp_true ((goodFl_true hgc).2 x hx)).1 (by decide))
          have HGC := Lib.hid hgc
          have HCi := Lib.hid hCi
          have HFi := Lib.hid hFi
          have HMAY := Lib.hid hmay
          dsimp only at hsv
          obtain ⟨Ac0, cc0, rfl, hcc0, hmc0, -⟩ := HCS.out
          rw [maxLen_eq] at hmc0
          clear hfv hgc hCi hFi hmay HLAW HONE HKI
          obtain ⟨Ax, cx, hvx, -, -, hrdx⟩ := HF1.out
          injection hvx with hvx _ hvcx
          subst hvx; subst hvcx
          obtain ⟨bx, offx, rfl, hbx, hclx⟩ := hrdx (by omega)
          have HCLx := Lib.hid hclx
          clear hrdx hclx
          obtain ⟨Az, cz, hvz, -, -, hrdz⟩ := HCS.out
          injection hvz with hvz _ hvcz
          subst hvz; subst hvcz
          obtain ⟨bz, offz, rfl, hbz, hclz⟩ := hrdz (by omega)
          have HCLz := Lib.hid hclz
          clear hrdz hclz
          obtain ⟨x0, x1, x2, x3, x4⟩ := ap_at HCLx.out (Below.refl _ _) hbx HFi.out
          dsimp only [stAp, ndAp] at x0 x1 x2 x3 x4
          clear x0 x1 x2 x3
          go_wp2_with fail
          refine (mayChange_c asv st1 hsv hss _).mono ?_; rw [HMAY.out]; rintro e wq ⟨rfl, hb⟩
          have HBQ := Lib.hid hb
          have HCI2 := Lib.hid (rd_below HCI.out hb)
          clear x4 hb hsv hss
          obtain ⟨y0, y1, y2, y3, y4⟩ := ap_at HCLx.out HBQ.out hbx HFi.out
          dsimp only [stAp, ndAp] at y0 y1 y2 y3 y4
          obtain ⟨z0, z1, z2, z3, z4⟩ := ap_at HCLz.out HBQ.out hbz HCi.out
          dsimp only [stAp, ndAp] at z0 z1 z2 z3 z4
          have sbx := Nat.lt_of_lt_of_le hbx HBQ.out.size
          have sbz := Nat.lt_of_lt_of_le hbz HBQ.out.size
          have e1 : (st1 != st1) = false := by simp
          have e2 : (acr != acr) = false := by simp
          clear y0 y1 y2 y4 z0 z1 z2 HF1 HCS
          go_upto_region 12 with fail
          ((refine wp_region_held_drew (S := fun w' => w'.cell? ⟨bz, offz + i * 5 + 4, none⟩ = some (.int .i64 st1) ∧ w'.cell? ⟨bz, offz + i * 5 + 3, none⟩ = some (.int .i64 acr) ∧ w'.cell? ⟨bx, offx + i * 5 + 3, none⟩ = some (.int .i64 acr)) (by kernel_rfl) (by (try dsimp only); first | go_keep | (go_split_ands; refine ⟨?_, ?_, ?_⟩ <;> assumption)) (fun hHeld => ?_)); (refine wpAnyH_take (i := 0) (v := ?_) (arr_get g_z) (by kernel_rfl) (by kernel_rfl) (by kernel_rfl) (fun _ _ _ h => h) (Or.inl ⟨by rfl, ?_⟩) hHeld ?_; rotate_left; (focus (intro w hSw; (try dsimp only at hSw); go_simp; try (first | (with_reducible rfl) | (rw [if_neg (by (try simp only [ByteArray.size_append]); omega)])))); try simp only [Act.put, List.setIfInBounds_toArray, List.set_cons_zero, List.set_cons_succ]); (refine wpAnyH_take (i := 1) (v := ?_) (arr_get (g_s g_z)) (by kernel_rfl) (by kernel_rfl) (by kernel_rfl) (fun _ _ _ h => h) (Or.inl ⟨by rfl, ?_⟩) hHeld ?_; rotate_left; (focus (intro w hSw; (try dsimp only at hSw); go_simp; try (first | (with_reducible rfl) | (rw [if_neg (by (try simp only [ByteArray.size_append]); omega)])))); try simp only [Act.put, List.setIfInBounds_toArray, List.set_cons_zero, List.set_cons_succ]); (refine wpAnyH_take (i := 2) (v := ?_) (arr_get (g_s (g_s g_z))) (by kernel_rfl) (by kernel_rfl) (by kernel_rfl) (fun _ _ _ h => h) (Or.inl ⟨by rfl, ?_⟩) hHeld ?_; rotate_left; (focus (intro w hSw; (try dsimp only at hSw); go_simp; try (first | (with_reducible rfl) | (rw [if_neg (by (try simp only [ByteArray.size_append]); omega)])))); try simp only [Act.put, List.setIfInBounds_toArray, List.set_cons_zero, List.set_cons_succ]); (refine wpAnyH_take (i := 3) (v := ?_) (arr_get (g_s (g_s (g_s g_z)))) (by kernel_rfl) (by kernel_rfl) (by kernel_rfl) (fun _ _ _ h => h) (Or.inl ⟨by rfl, ?_⟩) hHeld ?_; rotate_left; (focus (intro w hSw; (try dsimp only at hSw); go_simp; try (first | (with_reducible rfl) | (rw [if_neg (by (try simp only [ByteArray.size_append]); omega)])))); try simp only [Act.put, List.setIfInBounds_toArray, List.set_cons_zero, List.set_cons_succ]); (refine wpAnyH_take (i := 4) (v := ?_) (arr_get (g_s (g_s (g_s (g_s g_z))))) (by kernel_rfl) (by kernel_rfl) (by kernel_rfl) (fun _ _ _ h => h) (Or.inl ⟨by rfl, ?_⟩) hHeld ?_; rotate_left; (focus (intro w hSw; (try dsimp only at hSw); go_simp; try (first | (with_reducible rfl) | (rw [if_neg (by (try simp only [ByteArray.size_append]); omega)])))); try simp only [Act.put, List.setIfInBounds_toArray, List.set_cons_zero, List.set_cons_succ]); (refine wpAnyH_take (i := 5) (v := ?_) (arr_get (g_s (g_s (g_s (g_s (g_s g_z)))))) (by kernel_rfl) (by kernel_rfl) (by kernel_rfl) (fun _ _ _ h => h) (Or.inl ⟨by rfl, ?_⟩) hHeld ?_; rotate_left; (focus (intro w hSw; (try dsimp only at hSw); go_simp; try (first | (with_reducible rfl) | (rw [if_neg (by (try simp only [ByteArray.size_append]); omega)])))); try simp only [Act.put, List.setIfInBounds_toArray, List.set_cons_zero, List.set_cons_succ]); (refine wpAnyH_take (i := 6) (v := ?_) (arr_get (g_s (g_s (g_s (g_s (g_s (g_s g_z))))))) (by kernel_rfl) (by kernel_rfl) (by kernel_rfl) (fun _ _ _ h => h) (Or.inl ⟨by rfl, ?_⟩) hHeld ?_; rotate_left; (focus (intro w hSw; (try dsimp only at hSw); go_simp; try (first | (with_reducible rfl) | (rw [if_neg (by (try simp only [ByteArray.size_append]); omega)])))); try simp only [Act.put, List.setIfInBounds_toArray, List.set_cons_zero, List.set_cons_succ]); (refine wpAnyH_take (i := 7) (v := ?_) (arr_get (g_s (g_s (g_s (g_s (g_s (g_s (g_s g_z)))))))) (by kernel_rfl) (by kernel_rfl) (by kernel_rfl) (fun _ _ _ h => h) (Or.inl ⟨by rfl, ?_⟩) hHeld ?_; rotate_left; (focus (intro w hSw; (try dsimp only at hSw); go_simp; try (first | (with_reducible rfl) | (rw [if_neg (by (try simp only [ByteArray.size_append]); omega)])))); try simp only [Act.put, List.setIfInBounds_toArray, List.set_cons_zero, List.set_cons_succ]); (refine wpAnyH_take (i := 8) (v := ?_) (arr_get (g_s (g_s (g_s (g_s (g_s (g_s (g_s (g_s g_z))))))))) (by kernel_rfl) (by kernel_rfl) (by kernel_rfl) (fun _ _ _ h => h) (Or.inl ⟨by rfl, ?_⟩) hHeld ?_; rotate_left; (focus (intro w hSw; (try dsimp only at hSw); go_simp; try (first | (with_reducible rfl) | (rw [if_neg (by (try simp only [ByteArray.size_append]); omega)])))); try simp only [Act.put, List.setIfInBounds_toArray, List.set_cons_zero, List.set_cons_succ]); (refine wpAnyH_take (i := 9) (v := ?_) (arr_get (g_s (g_s (g_s (g_s (g_s (g_s (g_s (g_s (g_s g_z)))))))))) (by kernel_rfl) (by kernel_rfl) (by kernel_rfl) (fun _ _ _ h => h) (Or.inl ⟨by rfl, ?_⟩) hHeld ?_; rotate_left; (focus (intro w hSw; (try dsimp only at hSw); go_simp; try (first | (with_reducible rfl) | (rw [if_neg (by (try simp only [ByteArray.size_append]); omega)])))); try simp only [Act.put, List.setIfInBounds_toArray, List.set_cons_zero, List.set_cons_succ]); (refine wpAnyH_take (i := 10) (v := ?_) (arr_get (g_s (g_s (g_s (g_s (g_s (g_s (g_s (g_s (g_s (g_s g_z))))))))))) (by kernel_rfl) (by kernel_rfl) (by kernel_rfl) (fun _ _ _ h => h) (Or.inl ⟨by rfl, ?_⟩) hHeld ?_; rotate_left; (focus (intro w hSw; (try dsimp only at hSw); go_simp; try (first | (with_reducible rfl) | (rw [if_neg (by (try simp only [ByteArray.size_append]); omega)])))); try simp only [Act.put, List.setIfInBounds_toArray, List.set_cons_zero, List.set_cons_succ]); (refine wpAnyH_take (i := 11) (v := ?_) (arr_get (g_s (g_s (g_s (g_s (g_s (g_s (g_s (g_s (g_s (g_s (g_s g_z)))))))))))) (by kernel_rfl) (by kernel_rfl) (by kernel_rfl) (fun _ _ _ h => h) (Or.inl ⟨by rfl, ?_⟩) hHeld ?_; rotate_left; (focus (intro w hSw; (try dsimp only at hSw); go_simp; try (first | (with_reducible rfl) | (rw [if_neg (by (try simp only [ByteArray.size_append]); omega)])))); try simp only [Act.put, List.setIfInBounds_toArray, List.set_cons_zero, List.set_cons_succ]); (refine wpAnyH_take (i := 12) (v := ?_) (arr_get (g_s (g_s (g_s (g_s (g_s (g_s (g_s (g_s (g_s (g_s (g_s (g_s g_z))))))))))))) (by kernel_rfl) (by kernel_rfl) (by kernel_rfl) (fun _ _ _ h => h) (Or.inl ⟨by rfl, ?_⟩) hHeld ?_; rotate_left; (focus (intro w hSw; (try dsimp only at hSw); go_simp; try (first | (with_reducible rfl) | (rw [if_neg (by (try simp only [ByteArray.size_append]); omega)])))); try simp only [Act.put, List.setIfInBounds_toArray, List.set_cons_zero, List.set_cons_succ]); (refine wpAnyH_take (i := 13) (v := ?_) (arr_get (g_s (g_s (g_s (g_s (g_s (g_s (g_s (g_s (g_s (g_s (g_s (g_s (g_s g_z)))))))))))))) (by kernel_rfl) (by kernel_rfl) (by kernel_rfl) (fun _ _ _ h => h) (Or.inl ⟨by rfl, ?_⟩) hHeld ?_; rotate_left; (focus (intro w hSw; (try dsimp only at hSw); go_simp; try (first | (with_reducible rfl) | (rw [if_neg (by (try simp only [ByteArray.size_append]); omega)])))); try simp only [Act.put, List.setIfInBounds_toArray, List.set_cons_zero, List.set_cons_succ]); (refine wpAnyH_take (i := 14) (v := ?_) (arr_get (g_s (g_s (g_s (g_s (g_s (g_s (g_s (g_s (g_s (g_s (g_s (g_s (g_s (g_s g_z))))))))))))))) (by kernel_rfl) (by kernel_rfl) (by kernel_rfl) (fun _ _ _ h => h) (Or.inl ⟨by rfl, ?_⟩) hHeld ?_; rotate_left; (focus (intro w hSw; (try dsimp only at hSw); go_simp; try (first | (with_reducible rfl) | (rw [if_neg (by (try simp only [ByteArray.size_append]); omega)])))); try simp only [Act.put, List.setIfInBounds_toArray, List.set_cons_zero, List.set_cons_succ]); (refine wpAnyH_take (i := 15) (v := ?_) (arr_get (g_s (g_s (g_s (g_s (g_s (g_s (g_s (g_s (g_s (g_s (g_s (g_s (g_s (g_s (g_s g_z)))))))))))))))) (by kernel_rfl) (by kernel_rfl) (by kernel_rfl) (fun _ _ _ h => h) (Or.inl ⟨by rfl, ?_⟩) hHeld ?_; rotate_left; (focus (intro w hSw; (try dsimp only at hSw); go_simp; try (first | (with_reducible rfl) | (rw [if_neg (by (try simp only [ByteArray.size_append]); omega)])))); try simp only [Act.put, List.setIfInBounds_toArray, List.set_cons_zero, List.set_cons_succ]); (refine wpAnyH_take (i := 16) (v := ?_) (arr_get (g_s (g_s (g_s (g_s (g_s (g_s (g_s (g_s (g_s (g_s (g_s (g_s (g_s (g_s (g_s (g_s g_z))))))))))))))))) (by kernel_rfl) (by kernel_rfl) (by kernel_rfl) (fun _ _ _ h => h) (Or.inl ⟨by rfl, ?_⟩) hHeld ?_; rotate_left; (focus (intro w hSw; (try dsimp only at hSw); go_simp; try (first | (with_reducible rfl) | (rw [if_neg (by (try simp only [ByteArray.size_append]); omega)])))); try simp only [Act.put, List.setIfInBounds_toArray, List.set_cons_zero, List.set_cons_succ]); (refine wpAnyH_take (i := 17) (v := ?_) (arr_get (g_s (g_s (g_s (g_s (g_s (g_s (g_s (g_s (g_s (g_s (g_s (g_s (g_s (g_s (g_s (g_s (g_s g_z)))))))))))))))))) (by kernel_rfl) (by kernel_rfl) (by kernel_rfl) (fun _ _ _ h => h) (Or.inl ⟨by rfl, ?_⟩) hHeld ?_; rotate_left; (focus (intro w hSw; (try dsimp only at hSw); go_simp; try (first | (with_reducible rfl) | (rw [if_neg (by (try simp only [ByteArray.size_append]); omega)])))); try simp only [Act.put, List.setIfInBounds_toArray, List.set_cons_zero, List.set_cons_succ]); (refine wpAnyH_take (i := 18) (v := ?_) (arr_get (g_s (g_s (g_s (g_s (g_s (g_s (g_s (g_s (g_s (g_s (g_s (g_s (g_s (g_s (g_s (g_s (g_s (g_s g_z))))))))))))))))))) (by kernel_rfl) (by kernel_rfl) (by kernel_rfl) (fun _ _ _ h => h) (Or.inl ⟨by rfl, ?_⟩) hHeld ?_; rotate_left; (focus (intro w hSw; (try dsimp only at hSw); go_simp; try (first | (with_reducible rfl) | (rw [if_neg (by (try simp only [ByteArray.size_append]); omega)])))); try simp only [Act.put, List.setIfInBounds_toArray, List.set_cons_zero, List.set_cons_succ]); (refine wpAnyH_take (i := 19) (v := ?_) (arr_get (g_s (g_s (g_s (g_s (g_s (g_s (g_s (g_s (g_s (g_s (g_s (g_s (g_s (g_s (g_s (g_s (g_s (g_s (g_s g_z)))))))))))))))))))) (by kernel_rfl) (by kernel_rfl) (by kernel_rfl) (fun _ _ _ h => h) (Or.inl ⟨by rfl, ?_⟩) hHeld ?_; rotate_left; (focus (intro w hSw; (try dsimp only at hSw); go_simp; try (first | (with_reducible rfl) | (rw [if_neg (by (try simp only [ByteArray.size_append]); omega)])))); try simp only [Act.put, List.setIfInBounds_toArray, List.set_cons_zero, List.set_cons_succ]); (refine wpAnyH_take (i := 20) (v := ?_) (arr_get (g_s (g_s (g_s (g_s (g_s (g_s (g_s (g_s (g_s (g_s (g_s (g_s (g_s (g_s (g_s (g_s (g_s (g_s (g_s (g_s g_z))))))))))))))))))))) (by kernel_rfl) (by kernel_rfl) (by kernel_rfl) (fun _ _ _ h => h) (Or.inl ⟨by rfl, ?_⟩) hHeld ?_; rotate_left; (focus (intro w hSw; (try dsimp only at hSw); go_simp; try (first | (with_reducible rfl) | (rw [if_neg (by (try simp only [ByteArray.size_append]); omega)])))); try simp only [Act.put, List.setIfInBounds_toArray, List.set_cons_zero, List.set_cons_succ]); (refine wpAnyH_take (i := 21) (v := ?_) (arr_get (g_s (g_s (g_s (g_s (g_s (g_s (g_s (g_s (g_s (g_s (g_s (g_s (g_s (g_s (g_s (g_s (g_s (g_s (g_s (g_s (g_s g_z)))))))))))))))))))))) (by kernel_rfl) (by kernel_rfl) (by kernel_rfl) (fun _ _ _ h => h) (Or.inl ⟨by rfl, ?_⟩) hHeld ?_; rotate_left; (focus (intro w hSw; (try dsimp only at hSw); go_simp; try (first | (with_reducible rfl) | (rw [if_neg (by (try simp only [ByteArray.size_append]); omega)])))); try simp only [Act.put, List.setIfInBounds_toArray, List.set_cons_zero, List.set_cons_succ]); (refine wpAnyH_take (i := 22) (v := ?_) (arr_get (g_s (g_s (g_s (g_s (g_s (g_s (g_s (g_s (g_s (g_s (g_s (g_s (g_s (g_s (g_s (g_s (g_s (g_s (g_s (g_s (g_s (g_s g_z))))))))))))))))))))))) (by kernel_rfl) (by kernel_rfl) (by kernel_rfl) (fun _ _ _ h => h) (Or.inl ⟨by rfl, ?_⟩) hHeld ?_; rotate_left; (focus (intro w hSw; (try dsimp only at hSw); go_simp; try (first | (with_reducible rfl) | (rw [if_neg (by (try simp only [ByteArray.size_append]); omega)])))); try simp only [Act.put, List.setIfInBounds_toArray, List.set_cons_zero, List.set_cons_succ]); (refine wpAnyH_take (i := 23) (v := ?_) (arr_get (g_s (g_s (g_s (g_s (g_s (g_s (g_s (g_s (g_s (g_s (g_s (g_s (g_s (g_s (g_s (g_s (g_s (g_s (g_s (g_s (g_s (g_s (g_s g_z)))))))))))))))))))))))) (by kernel_rfl) (by kernel_rfl) (by kernel_rfl) (fun _ _ _ h => h) (Or.inl ⟨by rfl, ?_⟩) hHeld ?_; rotate_left; (focus (intro w hSw; (try dsimp only at hSw); go_simp; try (first | (with_reducible rfl) | (rw [if_neg (by (try simp only [ByteArray.size_append]); omega)])))); try simp only [Act.put, List.setIfInBounds_toArray, List.set_cons_zero, List.set_cons_succ]); (refine wpAnyH_take (i := 24) (v := ?_) (arr_get (g_s (g_s (g_s (g_s (g_s (g_s (g_s (g_s (g_s (g_s (g_s (g_s (g_s (g_s (g_s (g_s (g_s (g_s (g_s (g_s (g_s (g_s (g_s (g_s g_z))))))))))))))))))))))))) (by kernel_rfl) (by kernel_rfl) (by kernel_rfl) (fun _ _ _ h => h) (Or.inl ⟨by rfl, ?_⟩) hHeld ?_; rotate_left; (focus (intro w hSw; (try dsimp only at hSw); go_simp; try (first | (with_reducible rfl) | (rw [if_neg (by (try simp only [ByteArray.size_append]); omega)])))); try simp only [Act.put, List.setIfInBounds_toArray, List.set_cons_zero, List.set_cons_succ]); (refine wpAnyH_take (i := 25) (v := ?_) (arr_get (g_s (g_s (g_s (g_s (g_s (g_s (g_s (g_s (g_s (g_s (g_s (g_s (g_s (g_s (g_s (g_s (g_s (g_s (g_s (g_s (g_s (g_s (g_s (g_s (g_s g_z)))))))))))))))))))))))))) (by kernel_rfl) (by kernel_rfl) (by kernel_rfl) (fun _ _ _ h => h) (Or.inl ⟨by rfl, ?_⟩) hHeld ?_; rotate_left; (focus (intro w hSw; (try dsimp only at hSw); go_simp; try (first | (with_reducible rfl) | (rw [if_neg (by (try simp only [ByteArray.size_append]); omega)])))); try simp only [Act.put, List.setIfInBounds_toArray, List.set_cons_zero, List.set_cons_succ]); (refine wpAnyH_take (i := 26) (v := ?_) (arr_get (g_s (g_s (g_s (g_s (g_s (g_s (g_s (g_s (g_s (g_s (g_s (g_s (g_s (g_s (g_s (g_s (g_s (g_s (g_s (g_s (g_s (g_s (g_s (g_s (g_s (g_s g_z))))))))))))))))))))))))))) (by kernel_rfl) (by kernel_rfl) (by kernel_rfl) (fun _ _ _ h => h) (Or.inl ⟨by rfl, ?_⟩) hHeld ?_; rotate_left; (focus (intro w hSw; (try dsimp only at hSw); go_simp; try (first | (with_reducible rfl) | (rw [if_neg (by (try simp only [ByteArray.size_append]); omega)])))); try simp only [Act.put, List.setIfInBounds_toArray, List.set_cons_zero, List.set_cons_succ]); (refine wpAnyH_take (i := 27) (v := ?_) (arr_get (g_s (g_s (g_s (g_s (g_s (g_s (g_s (g_s (g_s (g_s (g_s (g_s (g_s (g_s (g_s (g_s (g_s (g_s (g_s (g_s (g_s (g_s (g_s (g_s (g_s (g_s (g_s g_z)))))))))))))))))))))))))))) (by kernel_rfl) (by kernel_rfl) (by kernel_rfl) (fun _ _ _ h => h) (Or.inl ⟨by rfl, ?_⟩) hHeld ?_; rotate_left; (focus (intro w hSw; (try dsimp only at hSw); go_simp; try (first | (with_reducible rfl) | (rw [if_neg (by (try simp only [ByteArray.size_append]); omega)])))); try simp only [Act.put, List.setIfInBounds_toArray, List.set_cons_zero, List.set_cons_succ]); (refine wpAnyH_take (i := 28) (v := ?_) (arr_get (g_s (g_s (g_s (g_s (g_s (g_s (g_s (g_s (g_s (g_s (g_s (g_s (g_s (g_s (g_s (g_s (g_s (g_s (g_s (g_s (g_s (g_s (g_s (g_s (g_s (g_s (g_s (g_s g_z))))))))))))))))))))))))))))) (by kernel_rfl) (by kernel_rfl) (by kernel_rfl) (fun _ _ _ h => h) (Or.inl ⟨by rfl, ?_⟩) hHeld ?_; rotate_left; (focus (intro w hSw; (try dsimp only at hSw); go_simp; try (first | (with_reducible rfl) | (rw [if_neg (by (try simp only [ByteArray.size_append]); omega)])))); try simp only [Act.put, List.setIfInBounds_toArray, List.set_cons_zero, List.set_cons_succ]); (refine wpAnyH_take (i := 29) (v := ?_) (arr_get (g_s (g_s (g_s (g_s (g_s (g_s (g_s (g_s (g_s (g_s (g_s (g_s (g_s (g_s (g_s (g_s (g_s (g_s (g_s (g_s (g_s (g_s (g_s (g_s (g_s (g_s (g_s (g_s (g_s g_z)))))))))))))))))))))))))))))) (by kernel_rfl) (by kernel_rfl) (by kernel_rfl) (fun _ _ _ h => h) (Or.inl ⟨by rfl, ?_⟩) hHeld ?_; rotate_left; (focus (intro w hSw; (try dsimp only at hSw); go_simp; try (first | (with_reducible rfl) | (rw [if_neg (by (try simp only [ByteArray.size_append]); omega)])))); try simp only [Act.put, List.setIfInBounds_toArray, List.set_cons_zero, List.set_cons_succ]); (refine wpAnyH_ready (rs := [30]) (by kernel_rfl) (by simp) ?_); (refine AllReadyH.cons (i := 30) (arr_get (g_s (g_s (g_s (g_s (g_s (g_s (g_s (g_s (g_s (g_s (g_s (g_s (g_s (g_s (g_s (g_s (g_s (g_s (g_s (g_s (g_s (g_s (g_s (g_s (g_s (g_s (g_s (g_s (g_s (g_s g_z))))))))))))))))))))))))))))))) (fun K hK => ?_) AllReadyH.nil); (go_simp); ((go_at_call 12; refine (isFleetI_c _ C _ HCZ.out (rd_below HCI2.out (bel_dr (Below.refl _ _)))).mono ?_; rw [HGC.out]; rintro e ws ⟨rfl, hb1⟩)); (try (go_wp2_with fail)); (refine hK.out _ _ (by (try dsimp only); (go_split_ands; refine ⟨?_, ?_, ?_⟩ <;> (rw [hb1.cell (by first | assumption | (simp; omega))]; assumption))) (fun hHeld2 => ?_)); (clear hHeld hK); (clear K); (have hHeld := hHeld2); (clear hHeld2); (try simp only [Act.put, List.setIfInBounds_toArray, List.set_cons_zero, List.set_cons_succ]); (refine wpAnyH_take (i := 31) (v := ?_) (arr_get (g_s (g_s (g_s (g_s (g_s (g_s (g_s (g_s (g_s (g_s (g_s (g_s (g_s (g_s (g_s (g_s (g_s (g_s (g_s (g_s (g_s (g_s (g_s (g_s (g_s (g_s (g_s (g_s (g_s (g_s (g_s g_z)))))))))))))))))))))))))))))))) (by kernel_rfl) (by kernel_rfl) (by kernel_rfl) (fun _ _ _ h => h) (Or.inl ⟨by rfl, ?_⟩) hHeld ?_; rotate_left; (focus (intro w hSw; (try dsimp only at hSw); go_simp; try (first | (with_reducible rfl) | (rw [if_neg (by (try simp only [ByteArray.size_append]); omega)])))); try simp only [Act.put, List.setIfInBounds_toArray, List.set_cons_zero, List.set_cons_succ]); (refine wpAnyH_take (i := 32) (v := ?_) (arr_get (g_s (g_s (g_s (g_s (g_s (g_s (g_s (g_s (g_s (g_s (g_s (g_s (g_s (g_s (g_s (g_s (g_s (g_s (g_s (g_s (g_s (g_s (g_s (g_s (g_s (g_s (g_s (g_s (g_s (g_s (g_s (g_s g_z))))))))))))))))))))))))))))))))) (by kernel_rfl) (by kernel_rfl) (by kernel_rfl) (fun _ _ _ h => h) (Or.inl ⟨by rfl, ?_⟩) hHeld ?_; rotate_left; (focus (intro w hSw; (try dsimp only at hSw); go_simp; try (first | (with_reducible rfl) | (rw [if_neg (by (try simp only [ByteArray.size_append]); omega)])))); try simp only [Act.put, List.setIfInBounds_toArray, List.set_cons_zero, List.set_cons_succ]); (refine wpAnyH_done (by kernel_rfl) ?_ _))
          go_wp2_with fail
          go_meet
          exact bel_then (bel_dr HBQ.out) hb1
      case rest => as_aux_lemma =>
        have hb := hcut
        clear hcut HF1 HCI HCS HLAW HONE HKI HZ1
        replace HB := Lib.hid (bel_then HB.out hb)
        clear hb
        go_wp2_with fail
        refine (drawMoveAppliance_c _ l1 hn1 HO1.out _ (rd_below HR1.out HB.out)).mono ?_; rintro e w6 ⟨⟨vf2, F2, nm2, st2, rfl, hF2, hFl2, hFs2, hnm2⟩, hb⟩
        replace HB := Lib.hid (bel_then HB.out hb)
        clear hb
        have HF2 := Lib.hid hF2
        clear hF2
        obtain ⟨Af2, cf2, rfl, hcf2, hmf2, -⟩ := HF2.out
        rw [maxLen_eq] at hmf2
        have HZ2 : Hid (∀ x ∈ F2, x.nm.size ≤ 9223372036854775807) := Lib.hid (fun x hx => Nat.le_trans (hFs2 x hx) (by decide))
        clear hFs2
        have HLAW := Lib.hid (fun h => mv_law (nm := nm2) (n := st2) (f := F2) h)
        obtain ⟨M, hM⟩ : ∃ z, (mvV nm2 st2 F2).1 = z := ⟨_, rfl⟩
        obtain ⟨three, hthree⟩ : ∃ z, (mvV nm2 st2 F2).2 = z := ⟨_, rfl⟩
        rw [hM, hthree] at HLAW
        go_wp2_with fail
        refine (moveI_c _ F2 nm2 st2 _ HZ2.out HF2.out).mono ?_; unfold FlR; rw [hM, hthree]; rintro e w7 ⟨vMI, rfl, hr, hb⟩
        replace HB := Lib.hid (bel_then HB.out hb)
        replace HF2 := Lib.hid (rd_below HF2.out hb)
        clear hb
        have HMI := Lib.hid (hr)
        clear hr
        go_wp2_with fail
        refine (moveS_c _ F2 nm2 st2 _ HZ2.out HF2.out).mono ?_; unfold FlR; rw [hM, hthree]; rintro e w8 ⟨vMS, rfl, hr, hb⟩
        replace HB := Lib.hid (bel_then HB.out hb)
        replace HF2 := Lib.hid (rd_below HF2.out hb)
        replace HMI := Lib.hid (rd_below HMI.out hb)
        clear hb
        have HMS := Lib.hid (hr)
        clear hr
        clear hM hthree
        obtain ⟨wN, rfl⟩ : ∃ x : World, x = w8 := ⟨_, rfl⟩
        go_upto_region 17 with fail
        go_cut [182] from 174 to 182 (fun v wx => v = .bool false ∧ Below wN.heap.size wN wx)
        case first =>
          have HZ := Lib.hid (Below.refl wN.heap.size wN)
          have e1 : (three != three) = false := by simp
          go_wp2_with fail
          refine (pSameFleet_c _ _ M _ HMI.out HMS.out).mono ?_; rintro e w9 ⟨rfl, hb⟩
          replace HZ := Lib.hid (bel_then HZ.out hb)
          replace HF2 := Lib.hid (rd_below HF2.out hb)
          replace HMI := Lib.hid (rd_below HMI.out hb)
          replace HMS := Lib.hid (rd_below HMS.out hb)
          clear hb
          go_wp2_with fail
          go_meet
          exact ⟨rfl, HZ.out⟩
        case rest => as_aux_lemma =>
          obtain ⟨rfl, hb⟩ := hcut
          replace HB := Lib.hid (bel_then HB.out hb)
          replace HF2 := Lib.hid (rd_below HF2.out hb)
          replace HMI := Lib.hid (rd_below HMI.out hb)
          replace HMS := Lib.hid (rd_below HMS.out hb)
          clear hb
          obtain ⟨wY, rfl⟩ : ∃ x : World, x = wc := ⟨_, rfl⟩
          go_upto_if 183 with fail
          go_cut [213] from 25 to 213 (fun v wx => Below wY.heap.size wY wx)
          case first =>
            cases three with
            | false => go_wp2_with fail; go_meet; exact Below.refl _ _
            | true =>
              obtain ⟨i, a, hfv, hFi, hMi, hgm⟩ := HLAW.out rfl
              obtain ⟨anm, akd, andd, acr, asv⟩ := a
              have hlf := (List.getElem?_eq_some_iff.1 hFi).1
              have hlm := (List.getElem?_eq_some_iff.1 hMi).1
              have i0 : (0 : Int) ≤ (i : Int) := by omega
              have i1 : (i : Int) < (F2.length : Int) := by omega
              have i2 : (i : Int) < (M.length : Int) := by omega
              have HMZ : Hid (∀ x ∈ M, x.nm.size ≤ 9223372036854775807) := Lib.hid (fun x hx => Nat.le_trans (goodAp_true ((goodFl_true hgm).2 x hx)).1 (by decide))
              have HFV := Lib.hid hfv
              have HMi := Lib.hid hMi
              have HFi := Lib.hid hFi
              obtain ⟨Am0, cm0, rfl, hcm0, hmm0, -⟩ := HMS.out
              rw [maxLen_eq] at hmm0
              clear hfv hgm hMi hFi HLAW
              obtain ⟨Ax, cx, hvx, -, -, hrdx⟩ := HF2.out
              injection hvx with hvx _ hvcx
              subst hvx; subst hvcx
              obtain ⟨bx, offx, rfl, hbx, hclx⟩ := hrdx (by omega)
              have HCLx := Lib.hid hclx
              clear hrdx hclx
              obtain ⟨Az, cz, hvz, -, -, hrdz⟩ := HMS.out
              injection hvz with hvz _ hvcz
              subst hvz; subst hvcz
              obtain ⟨bz, offz, rfl, hbz, hclz⟩ := hrdz (by omega)
              have HCLz := Lib.hid hclz
              clear hrdz hclz
              go_wp2_with fail
              refine (findApplianceS_c _ M nm2 _ HMZ.out HMS.out).mono ?_; rw [HFV.out]; rintro e wq ⟨rfl, hb⟩
              have HBQ := Lib.hid hb
              clear hb
              obtain ⟨x0, x1, x2, x3, x4⟩ := ap_at HCLx.out HBQ.out hbx HFi.out
              dsimp only [stAp, ndAp] at x0 x1 x2 x3 x4
              obtain ⟨z0, z1, z2, z3, z4⟩ := ap_at HCLz.out HBQ.out hbz HMi.out
              dsimp only [stAp, ndAp] at z0 z1 z2 z3 z4
              have e1 : (st2 != st2) = false := by simp
              have e2 : (asv != asv) = false := by simp
              clear x0 x1 x2 x3 z0 z1 z3
              go_upto_region 21 with fail
              go_quiet (fail)
              go_wp2_with fail
              go_meet
              exact below_drewN HBQ.out _
          case rest => as_aux_lemma =>
            have hb := hcut
            clear hcut HF2 HMI HMS HLAW HZ2
            replace HB := Lib.hid (bel_then HB.out hb)
            clear hb
            go_wp2_with fail
            refine (drawShareCrew_c _ l1 hn1 HO1.out _ (rd_below HR1.out HB.out)).mono ?_; rintro e w9 ⟨⟨vf3, F3, nm3, nm4, st3, rfl, hF3, hFl3, hFs3, hnm3, hnm4⟩, hb⟩
            replace HB := Lib.hid (bel_then HB.out hb)
            clear hb
            have HF3 := Lib.hid hF3
            clear hF3
            obtain ⟨Af3, cf3, rfl, hcf3, hmf3, -⟩ := HF3.out
            rw [maxLen_eq] at hmf3
            have HZ3 : Hid (∀ x ∈ F3, x.nm.size ≤ 9223372036854775807) := Lib.hid (fun x hx => Nat.le_trans (hFs3 x hx) (by decide))
            clear hFs3
            have HLAW := Lib.hid (fun h => sh_law (nm := nm3) (nm' := nm4) (n := st3) (f := F3) h)
            obtain ⟨S, hS⟩ : ∃ z, (shV nm3 nm4 st3 F3).1 = z := ⟨_, rfl⟩
            obtain ⟨five, hfive⟩ : ∃ z, (shV nm3 nm4 st3 F3).2 = z := ⟨_, rfl⟩
            rw [hS, hfive] at HLAW
            go_wp2_with fail
            refine (shareI_c _ F3 nm3 nm4 st3 _ HZ3.out HF3.out).mono ?_; unfold FlR; rw [hS, hfive]; rintro e w10 ⟨vSI, rfl, hr, hb⟩
            replace HB := Lib.hid (bel_then HB.out hb)
            replace HF3 := Lib.hid (rd_below HF3.out hb)
            clear hb
            have HSI := Lib.hid (hr)
            clear hr
            go_wp2_with fail
            refine (shareS_c _ F3 nm3 nm4 st3 _ HZ3.out HF3.out).mono ?_; unfold FlR; rw [hS, hfive]; rintro e w11 ⟨vSS, rfl, hr, hb⟩
            replace HB := Lib.hid (bel_then HB.out hb)
            replace HF3 := Lib.hid (rd_below HF3.out hb)
            replace HSI := Lib.hid (rd_below HSI.out hb)
            clear hb
            have HSS := Lib.hid (hr)
            clear hr
            clear hS hfive
            obtain ⟨wN, rfl⟩ : ∃ x : World, x = w11 := ⟨_, rfl⟩
            go_upto_region 26 with fail
            go_cut [245] from 237 to 245 (fun v wx => v = .bool false ∧ Below wN.heap.size wN wx)
            case first =>
              have HZ := Lib.hid (Below.refl wN.heap.size wN)
              have e1 : (five != five) = false := by simp
              go_wp2_with fail
              refine (pSameFleet_c _ _ S _ HSI.out HSS.out).mono ?_; rintro e w12 ⟨rfl, hb⟩
              replace HZ := Lib.hid (bel_then HZ.out hb)
              replace HF3 := Lib.hid (rd_below HF3.out hb)
              replace HSI := Lib.hid (rd_below HSI.out hb)
              replace HSS := Lib.hid (rd_below HSS.out hb)
              clear hb
              go_wp2_with fail
              go_meet
              exact ⟨rfl, HZ.out⟩
            case rest => as_aux_lemma =>
              obtain ⟨rfl, hb⟩ := hcut
              replace HB := Lib.hid (bel_then HB.out hb)
              replace HF3 := Lib.hid (rd_below HF3.out hb)
              replace HSI := Lib.hid (rd_below HSI.out hb)
              replace HSS := Lib.hid (rd_below HSS.out hb)
              clear hb
              obtain ⟨wY, rfl⟩ : ∃ x : World, x = wc := ⟨_, rfl⟩
              go_upto_if 246 with fail
              go_cut [262] from 35 to 262 (fun v wx => Below wY.heap.size wY wx)
              case first =>
                cases five with
                | false => go_wp2_with fail; go_meet; exact Below.refl _ _
                | true =>
                  obtain ⟨hback, hgs⟩ := HLAW.out rfl
                  have HSZ : Hid (∀ x ∈ S, x.nm.size ≤ 9223372036854775807) := Lib.hid (fun x hx => Nat.le_trans (goodAp_true ((goodFl_true hgs).2 x hx)).1 (by decide))
                  have HBK1 := Lib.hid (show (shV nm4 nm3 st3 S).1 = F3 by rw [hback])
                  have HBK2 := Lib.hid (show (shV nm4 nm3 st3 S).2 = true by rw [hback])
                  clear hback hgs HLAW
                  go_wp2_with fail
                  refine (shareI_c _ S nm4 nm3 st3 _ HSZ.out HSI.out).mono ?_; unfold FlR; rw [HBK1.out, HBK2.out]; rintro e wq ⟨vB, rfl, hr, hb⟩
                  have HBQ := Lib.hid hb
                  have HRB := Lib.hid hr
                  have HF4 := Lib.hid (rd_below HF3.out hb)
                  clear hb hr
                  go_wp2_with fail
                  refine (pSameFleet_c _ _ F3 _ HRB.out HF4.out).mono ?_; rintro e ws ⟨rfl, hb⟩
                  have HBS := Lib.hid (bel_then HBQ.out hb)
                  clear hb
                  go_wp2_with fail
                  go_meet
                  exact HBS.out
              case rest => as_aux_lemma =>
                have hb := hcut
                clear hcut HF3 HSI HSS HLAW HZ3
                replace HB := Lib.hid (bel_then HB.out hb)
                clear hb
                go_wp2_with fail
                refine (drawFleetText_c _ l1 hn1 HO1.out _ (rd_below HR1.out HB.out)).mono ?_; rintro e w12 ⟨⟨vf4, F4, rfl, hF4, hFl4, hFs4⟩, hb⟩
                replace HB := Lib.hid (bel_then HB.out hb)
                clear hb
                have HF4 := Lib.hid hF4
                clear hF4
                obtain ⟨Af4, cf4, rfl, hcf4, hmf4, -⟩ := HF4.out
                rw [maxLen_eq] at hmf4
                have HZ4 : Hid (∀ x ∈ F4, x.nm.size ≤ 9223372036854775807) := Lib.hid (fun x hx => Nat.le_trans (hFs4 x hx) (by decide))
                clear hFs4
                have HTL := Lib.hid (fun h => text_law (x := F4) h)
                have HTO := Lib.hid (text_ok F4).symm
                have hTs := text_size F4
                obtain ⟨T, hT⟩ : ∃ z, (fleetTextV F4).1 = z := ⟨_, rfl⟩
                obtain ⟨seven, hseven⟩ : ∃ z, (fleetTextV F4).2 = z := ⟨_, rfl⟩
                rw [hT, hseven] at HTL
                rw [hseven] at HTO
                rw [hT] at hTs
                go_wp2_with fail
                refine (fleetTextI_c _ F4 _ HZ4.out HF4.out).mono ?_; rw [hT, hseven]; rintro e w13 ⟨rfl, hb⟩
                replace HB := Lib.hid (bel_then HB.out hb)
                replace HF4 := Lib.hid (rd_below HF4.out hb)
                clear hb
                go_wp2_with fail
                refine (fleetTextS_c _ F4 _ HZ4.out HF4.out).mono ?_; rw [hT, hseven]; rintro e w14 ⟨rfl, hb⟩
                replace HB := Lib.hid (bel_then HB.out hb)
                replace HF4 := Lib.hid (rd_below HF4.out hb)
                clear hb
                clear hT hseven
                go_wp2_with fail
                refine (drawParseFleet_c _ l1 hn1 HO1.out _ (rd_below HR1.out HB.out)).mono ?_; rintro e w15 ⟨⟨y, rfl, hy⟩, hb⟩
                replace HB := Lib.hid (bel_then HB.out hb)
                replace HF4 := Lib.hid (rd_below HF4.out hb)
                clear hb
                have HPS := Lib.hid (par_same y)
                obtain ⟨P, hP⟩ : ∃ z, (parI y).1 = z := ⟨_, rfl⟩
                obtain ⟨nine, hnine⟩ : ∃ z, (parI y).2 = z := ⟨_, rfl⟩
                go_wp2_with fail
                refine (parseFleetI_c y _ (by omega) (HLIB.out.below HB.out)).mono ?_; unfold FlR; rw [hP, hnine]; rintro e w16 ⟨vPI, rfl, hr, hb⟩
                replace HB := Lib.hid (bel_then HB.out hb)
                replace HF4 := Lib.hid (rd_below HF4.out hb)
                clear hb
                have HPI := Lib.hid (hr)
                clear hr
                go_wp2_with fail
                refine (parseFleetS_c y _ (by omega)).mono ?_; rw [← HPS.out]; unfold FlR; rw [hP, hnine]; rintro e w17 ⟨vPS, rfl, hr, hb⟩
                replace HB := Lib.hid (bel_then HB.out hb)
                replace HF4 := Lib.hid (rd_below HF4.out hb)
                replace HPI := Lib.hid (rd_below HPI.out hb)
                clear hb
                have HPQ := Lib.hid (hr)
                clear hr
                clear hP hnine HPS
                have e1 : (seven != seven) = false := by simp
                have e2 : (nine != nine) = false := by simp
                have e3 : (T.toList == T.toList) = true := by simp
                go_upto_region 38 with fail
                go_wp2_with fail
                refine (pSameFleet_c _ _ P _ HPI.out HPQ.out).mono ?_; rintro e w18 ⟨rfl, hb⟩
                replace HB := Lib.hid (bel_then HB.out hb)
                replace HF4 := Lib.hid (rd_below HF4.out hb)
                replace HPI := Lib.hid (rd_below HPI.out hb)
                replace HPQ := Lib.hid (rd_below HPQ.out hb)
                clear hb
                go_wp2_with fail
                refine (isFleetI_c _ F4 _ HZ4.out HF4.out).mono ?_; rw [HTO.out]; rintro e w19 ⟨rfl, hb⟩
                replace HB := Lib.hid (bel_then HB.out hb)
                replace HF4 := Lib.hid (rd_below HF4.out hb)
                replace HPI := Lib.hid (rd_below HPI.out hb)
                replace HPQ := Lib.hid (rd_below HPQ.out hb)
                clear hb
                cases seven with
                | false =>
                  go_wp2
                  go_ret
                  exact ⟨by first | rfl | simp, HB.out⟩
                | true =>
                  have HTL1 := Lib.hid (show (parI T).1 = F4 by rw [HTL.out rfl])
                  have HTL2 := Lib.hid (show (parI T).2 = true by rw [HTL.out rfl])
                  go_wp2_with fail
                  refine (parseFleetI_c T _ hTs (HLIB.out.below HB.out)).mono ?_; unfold FlR; rw [HTL1.out, HTL2.out]; rintro e w20 ⟨vB, rfl, hr, hb⟩
                  replace HB := Lib.hid (bel_then HB.out hb)
                  replace HF4 := Lib.hid (rd_below HF4.out hb)
                  replace HPI := Lib.hid (rd_below HPI.out hb)
                  replace HPQ := Lib.hid (rd_below HPQ.out hb)
                  clear hb
                  have HPB := Lib.hid (hr)
                  clear hr
                  go_wp2_with fail
                  refine (pSameFleet_c _ _ F4 _ HPB.out HF4.out).mono ?_; rintro e w21 ⟨rfl, hb⟩
                  replace HB := Lib.hid (bel_then HB.out hb)
                  replace HF4 := Lib.hid (rd_below HF4.out hb)
                  replace HPI := Lib.hid (rd_below HPI.out hb)
                  replace HPQ := Lib.hid (rd_below HPQ.out hb)
                  replace HPB := Lib.hid (rd_below HPB.out hb)
                  clear hb
                  go_wp2
                  go_ret
                  exact ⟨by first | rfl | simp, HB.out⟩
end Go.Proofs.YtgcdgcidjjdhmaaGreatDoor
