/-
  The reference's table of who reaches whom.
-/
import Derived.Test.YtgdigcnpjkkmfaaMvU
namespace Go.Proofs.Ytgdigcnpjkkmfaa
open Go.RowKit

theorem st_facts {w : World} {base g m cap k : Nat} {vs : List Value} {z : Value} (h : w.ownsRow base 25 1 (.slice (some ⟨g, 0, none⟩) m cap) m vs) (hz : vs[k]? = some z) (hk : k < m) : w.frozen? ⟨g, k, none⟩ = false ∧ w.cell? ⟨g, k, none⟩ = some z :=
  ⟨h.frozenAt k, (h.cellAt k (by omega)).trans hz⟩
set_option maxRecDepth 100000 in
set_option maxHeartbeats 4000000 in
theorem mvReach_c (v : Value) (t : List (List Int)) (m : Nat) (a : Int) (w : World) (ht7 : t.length ≤ 7) (hm6 : m ≤ 6) (htl : ∀ r ∈ t, r.length = m) (hr : RdSS w v t) :
    Calls Try.prog 53 #[v, .int .i64 m, .int .i64 a] w (OwnSS (reachT t m a) w) := by
  obtain ⟨vt, hv⟩ := hr
  have HV := Lib.hid hv
  have hvl := hv.len
  obtain ⟨A, c, rfl, hc, hm, hrt⟩ := hv.outer
  rw [maxLen_eq] at hm
  have HRT := Lib.hid hrt
  have HTL := Lib.hid htl
  obtain ⟨i0, hi, hz0, hz1, hz2⟩ := info_parts Try.infoInt
  obtain ⟨iS, hiS, hzS0, hzS1, hzS2⟩ := info_parts Try.infoSS
  clear hv hrt htl
  go_enter Try.func53, Try.ntmps53
  go_wp2_with (at_make; refine wpList_make_full _ rfl _ _ 39 rfl w.heap.size 25 iS _ 1 Try.underlying39 hiS hzS0 hzS1 _ _ _ _ m rfl rfl rfl rfl (by rw [hzS2]; omega) (by rw [maxLen_eq]; omega) (Nat.le_refl _) ?_; intro w2 hown2 hg2; rw [made_nils] at hown2)
  have HB2 : Hid (Below w.heap.size w w2) := Lib.hid (bel_grown (Below.refl _ _) hg2 (fun k h => by cases h))
  have HO2 : Hid (SSv w2 w.heap.size (.slice (some ⟨w.heap.size, 0, none⟩) m m) (List.replicate m (.slice none 0 0)) (rowsF (mvMix t a 0 0) m)) := Lib.hid (by rw [mvMix_start]; exact SSv.made hown2)
  obtain ⟨g, hgdef⟩ : ∃ g, g = w.heap.size := ⟨_, rfl⟩
  have hsz2 : w.heap.size < w2.heap.size := (hown2.lt w.heap.size rfl).2
  have HO3 : Hid (SSv w2 w.heap.size (.slice (some ⟨g, 0, none⟩) m m) (List.replicate m (.slice none 0 0)) (rowsF (mvMix t a 0 0) m)) := by rw [hgdef]; exact HO2
  rw [← hgdef]
  have hgw : w.heap.size ≤ g := by omega
  clear hown2 hg2 HO2 hgdef
  go_loopw [15] (fun v15 wr => ∃ (k : Nat) (vs : List Value), k ≤ m ∧ v15 = .int .i64 k ∧ Hid (SSv wr w.heap.size (.slice (some ⟨g, 0, none⟩) m m) vs (rowsF (mvMix t a k 0) m)) ∧ Hid (Below w.heap.size w wr)) (fun v15 _ => m - (intOf v15).toNat)
  case atStart => exact ⟨0, _, Nat.zero_le _, rfl, HO3, HB2⟩
  case round =>
    obtain ⟨k, vs, hk, rfl, HO, HB⟩ := hrel
    obtain ⟨wA, rfl⟩ : ∃ wA : World, wA = wr := ⟨_, rfl⟩
    by_cases hlt : k < m
    · go_wp2_with fail
      go_loopw [20] (fun v20 wr => ∃ (j : Nat) (vs : List Value), j ≤ t.length ∧ v20 = .int .i64 j ∧ Hid (SSv wr w.heap.size (.slice (some ⟨g, 0, none⟩) m m) vs (rowsF (mvMix t a k j) m)) ∧ Hid (Below w.heap.size w wr)) (fun v20 _ => t.length - (intOf v20).toNat)
      case atStart => exact ⟨0, vs, Nat.zero_le _, rfl, HO, HB⟩
      case round =>
        obtain ⟨j, vs, hj, rfl, HOW, HBL⟩ := hrel
        obtain ⟨wB, rfl⟩ : ∃ wB : World, wB = wr := ⟨_, rfl⟩
        by_cases hjn : j < t.length
        · obtain ⟨b, off, rfl, hbl, hcell⟩ := HRT.out (by omega)
          obtain ⟨x, hx⟩ : ∃ x, vt[j]? = some x := ⟨_, List.getElem?_eq_getElem (by omega)⟩
          obtain ⟨r, hr⟩ : ∃ r, t[j]? = some r := ⟨_, List.getElem?_eq_getElem hjn⟩
          have c0 := cell_at hcell HBL.out hbl hx
          have hrm := HTL.out r (List.mem_of_getElem? hr)
          obtain ⟨A5, c5, rfl, hc5, hm5, hr5⟩ := HV.out.inner j x r hx hr
          obtain ⟨b5, off5, rfl, hbl5, hcell5⟩ := hr5 (by omega)
          obtain ⟨y, hy⟩ : ∃ y, r[k]? = some y := ⟨_, List.getElem?_eq_getElem (by omega)⟩
          have d0 := cell_at hcell5 HBL.out hbl5 (ints_get hy)
          have hcp : colP t a k j = inB y 0 a := by unfold colP; rw [show t.getD j [] = r by simp [List.getD_eq_getElem?_getD, hr], show r.getD k 0 = y by simp [List.getD_eq_getElem?_getD, hy]]
          have HCP := Lib.hid hcp
          have k0 : (0 : Int) ≤ (k : Int) := by omega
          have k1 : (k : Int) < (r.length : Int) := by omega
          rw [maxLen_eq] at hm5
          have hsB := HBL.out.size
          clear hcell hx hr hr5 hcell5 hy hcp
          by_cases hyes : inB y 0 a = true
          · obtain ⟨z, hz⟩ : ∃ z, vs[k]? = some z := ⟨_, List.getElem?_eq_getElem (by have := HOW.out.len; rw [rowsF_len] at this; omega)⟩
            have HIN := Lib.hid (HOW.out.inner k z _ hz (rowsF_get hlt))
            have hml := mvMix_len t a k j
            obtain ⟨S, hS⟩ : ∃ S, mvMix t a k j k = S := ⟨_, rfl⟩
            rw [hS] at HIN hml
            have HS := Lib.hid hS
            obtain ⟨A7, c7, hx7, hc7, hm7, _⟩ := own_rd HIN.out
            subst hx7
            rw [maxLen_eq] at hm7
            have hout : wB.ownsRow w.heap.size 25 1 (.slice (some ⟨g, 0, none⟩) m m) m vs := by have h := HOW.out.outer; rw [rowsF_len] at h; exact h
            have e0 := (hout.cellAt k (by omega)).trans hz
            have HOUT := Lib.hid hout
            have HZ := Lib.hid hz
            have hgB := (hout.lt g rfl).2
            clear hS hz hout
            go_wp2_with (first | (go_at_call 80; refine (l1In_c _ _ _ _).mono ?_; rintro e w' ⟨rfl, rfl⟩) | (at_builtin; refine wpList_app_rd _ rfl _ _ 25 rfl w.heap.size 3 i0 (.int .i64 0) 1 8 Try.underlying25 hi hz0 hz1 hz2 rfl (by decide) _ _ _ rfl (HIN.out.alloc _) _ 1 [.int .i64 j] rfl (rd_new _ rfl (Nat.le_refl _) (by rw [maxLen_eq]; omega)) rfl (ints_one [(j : Int)]) (by rw [maxLen_eq]; omega) (by omega) (by simp; omega) ?_; intro v' w7 hown' hgrow he; obtain ⟨A8, c8, hx8, hc8, hm8, _⟩ := own_rd hown'; subst hx8; rw [maxLen_eq] at hm8; obtain ⟨f0, g0⟩ := st_facts (kept2 (HOUT.out.alloc _) hgrow (HOW.out.sep k _ HZ.out)) HZ.out hlt))
            have hal := bel_al (Below.refl wB.heap.size wB) (.cells #[.int .i64 (j : Int)] 3)
            have HSS := HOW.out.below hal
            have hgr := SSv.grow (l' := S ++ [(j : Int)]) (cap := m) (g := g) (by rw [rowsF_len]; exact HSS) HZ.out (by rw [ints_append, List.length_append]; exact hown') hgrow he
            rw [rowsF_len, ← HS.out, mvMix_yes hlt (by rw [HCP.out]; exact hyes), HS.out] at hgr
            refine ⟨⟨j + 1, _, by omega, by go_num, Lib.hid hgr, Lib.hid ?_⟩, by simp [intOf]; omega⟩
            exact (bel_grown (bel_al HBL.out _) hgrow (fun q e => (HIN.out.lt q e).1)).setCell (by omega) _
          · have hno : inB y 0 a = false := by simpa using hyes
            have HN := Lib.hid (mvMix_no (m := m) (show colP t a k j = false by rw [HCP.out]; exact hno))
            clear hyes
            go_wp2_with (go_at_call 80; refine (l1In_c _ _ _ _).mono ?_; rintro e w' ⟨rfl, rfl⟩)
            exact ⟨⟨j + 1, vs, by omega, by go_num, by rw [HN.out]; exact HOW, HBL⟩, by simp [intOf]; omega⟩
        · obtain rfl : j = t.length := by omega
          go_wp2
          refine ⟨⟨k + 1, vs, by omega, by go_num, by rw [← mvMix_next]; exact HOW, HBL⟩, by simp [intOf]; omega⟩
    · obtain rfl : k = m := by omega
      go_wp2
      go_ret
      exact ⟨_, rfl, ⟨vs, by rw [← mvMix_full]; exact HO.out⟩, HB.out⟩
end Go.Proofs.Ytgdigcnpjkkmfaa
