/-
  The same on the reference's side.
-/
import Derived.Test.YtgdigcnpjkkmfaaCov
namespace Go.Proofs.Ytgdigcnpjkkmfaa
open Go.RowKit

set_option maxRecDepth 100000 in
set_option maxHeartbeats 4000000 in
theorem cvTimes_c (n : Nat) (s v : Value) (l : List St) (q : List Int) (w : World) (hg : goodTown n l = true) (hq : ∀ x ∈ q, 0 ≤ x ∧ x ≤ (n : Int) - 1) (hr : Rd w s l.length (l.flatMap St.cells)) (hv : RdI w v q) :
    Calls Try.prog 96 #[.agg #[.int .i64 n, s], v] w (OwnI (coverL n (arcs l) q) w) := by
  obtain ⟨A, c, rfl, hc, hm, hv⟩ := hv
  rw [maxLen_eq] at hm
  obtain ⟨hn1, hn2, hl40, _⟩ := goodTown_true hg
  obtain ⟨i0, hi, hz0, hz1, hz2⟩ := info_parts Try.infoInt
  have HG := Lib.hid hg
  have HR := Lib.hid hr
  have HV := Lib.hid hv
  have HQ := Lib.hid hq
  obtain ⟨As, cs, rfl, _⟩ := hr
  clear hg hv hq
  go_enter Try.func96, Try.ntmps96
  go_wp2_with (at_make; refine wpList_make_full _ rfl _ _ 25 rfl w.heap.size 3 i0 _ 1 Try.underlying25 hi hz0 hz1 _ _ _ _ n rfl rfl rfl rfl (by rw [hz2]; omega) (by rw [maxLen_eq]; omega) (by simp) ?_; intro w2 hown2 hg2; rw [made_ints, World.size_alloc] at hown2; have b0 : w2.cell? ⟨w.heap.size, 0, none⟩ = some (.int .i64 n) := (by rw [World.cell?_of_block (hg2.block w.heap.size (by simp) (by simp))]; simp [go_sem]); have b1 : w2.cell? ⟨w.heap.size, 1, none⟩ = some (.slice As l.length cs) := (by rw [World.cell?_of_block (hg2.block w.heap.size (by simp) (by simp))]; simp [go_sem]); have HB2 : Hid (Below w.heap.size w w2) := Lib.hid (bel_grown (bel_al (Below.refl _ _) _) hg2 (fun k h => by cases h)); have HO2 := Lib.hid hown2; clear hown2 hg2)
  obtain ⟨g, hgdef⟩ : ∃ g, g = w.heap.size + 1 := ⟨_, rfl⟩
  rw [← hgdef] at HO2 ⊢
  have hgw : w.heap.size < g := by omega
  have hg0 : w.heap.size ≤ g := by omega
  have HGE : Hid (∀ q, some g = some q → w.heap.size ≤ q) := Lib.hid (fun q e => by have := Option.some.inj e; omega)
  have hgs : g < w2.heap.size := (HO2.out.lt g rfl).2
  clear hgdef
  go_loopw [16] (fun v16 wr => ∃ k : Nat, k ≤ n ∧ v16 = .int .i64 k ∧ Hid (wr.ownsRow w.heap.size 3 1 (.slice (some ⟨g, 0, none⟩) n n) n (ints (fill1 n k))) ∧ Hid (w2.grownBy wr (some g))) (fun v16 _ => n - (intOf v16).toNat)
  case atStart => exact ⟨0, Nat.zero_le _, rfl, HO2, Lib.hid (World.grownBy.refl _ _)⟩
  case round =>
    obtain ⟨k, hk, rfl, HOW, HGR⟩ := hrel
    by_cases hlt : k < n
    · have c0 := own_cell HOW.out hlt
      have f0 := HOW.out.frozenAt k
      go_wp2
      refine ⟨⟨k + 1, by omega, by go_num, Lib.hid ?_, Lib.hid (only_setCell HGR.out _ _)⟩, by simp [intOf]; omega⟩
      have := own_setI HOW.out k (-1)
      rw [fill1_set hlt] at this
      exact this
    · have hkn : k = n := by omega
      subst hkn
      have HO3 : Hid (wr.ownsRow w.heap.size 3 1 (.slice (some ⟨g, 0, none⟩) k k) k (ints (List.replicate k (-1)))) := Lib.hid (by have h := HOW.out; rw [fill1_full] at h; exact h)
      have HG3 := HGR
      obtain ⟨wz, rfl⟩ : ∃ wz : World, wz = wr := ⟨_, rfl⟩
      go_wp2_with fail
      go_loopw [25] (fun v25 wr => ∃ (i : Nat) (d : List Int), i ≤ q.length ∧ v25 = .int .i64 i ∧ Hid (coverL k (arcs l) (q.take i) = d) ∧ Hid (wr.ownsRow w.heap.size 3 1 (.slice (some ⟨g, 0, none⟩) k k) k (ints d)) ∧ Hid (w2.grownBy wr (some g))) (fun v25 _ => q.length - (intOf v25).toNat)
      case atStart => exact ⟨0, _, Nat.zero_le _, rfl, Lib.hid rfl, HO3, HG3⟩
      case round =>
        obtain ⟨i, d, hi, rfl, HD, HOW, HGR⟩ := hrel
        obtain ⟨wA, rfl⟩ : ∃ wA : World, wA = wr := ⟨_, rfl⟩
        by_cases hlt : i < q.length
        · have hbA : Below w.heap.size w wA := gro_new HB2.out HGR.out HGE.out
          obtain ⟨b, off, rfl, hbl, hcell⟩ := HV.out (by omega)
          have hx : q[i]? = some q[i] := by simp [hlt]
          generalize q[i] = x at hx
          have c0 := cell_at hcell hbA hbl (ints_get hx)
          have hxb := HQ.out x (List.mem_of_getElem? hx)
          obtain ⟨xn, rfl⟩ := Int.eq_ofNat_of_zero_le hxb.1
          have hxn : xn < k := by omega
          have HX := Lib.hid hx
          have hs2 := HGR.out.size
          have HBA := Lib.hid hbA
          have z0 : wA.cell? ⟨w.heap.size, 0, none⟩ = some (.int .i64 k) := (gro_cell HGR.out (by omega) (by omega)).trans b0
          have z1 : wA.cell? ⟨w.heap.size, 1, none⟩ = some (.slice As l.length cs) := (gro_cell HGR.out (by omega) (by omega)).trans b1
          clear hcell hbA hx hxb
          go_wp2_with fail
          refine (toTimes_c k _ l xn _ HG.out hxn (rd_below HR.out HBA.out)).mono ?_
          rintro e w5 ⟨v5, rfl, ho5, hb5⟩
          rw [distT_len] at ho5
          obtain ⟨h, cap5, rfl, hbh, hhl, hcap5, hcm5⟩ := own_shape ho5 (by omega)
          have HB5 := Lib.hid hb5
          have HO5 := Lib.hid ho5
          have hs5 := hb5.size
          have hgA : g < wA.heap.size := (HOW.out.lt g rfl).2
          have HGR5 : Hid (w2.grownBy w5 (some g)) := Lib.hid (gro_bel HGR.out hb5)
          have HOW5 := Lib.hid (own_below HOW.out hb5)
          obtain ⟨ev, hev⟩ : ∃ ev, distT k (arcs l) xn = ev := ⟨_, rfl⟩
          have hel : ev.length = k := by rw [← hev, distT_len]
          rw [hev] at HO5
          have HEV := Lib.hid hev
          have HEL := Lib.hid hel
          have HDL : Hid (d.length = k) := Lib.hid (by rw [← HD.out, coverL_len])
          clear hb5 ho5 c0 hev hel z0 z1
          go_wp2_with fail
          go_loopw [33] (fun v33 wr2 => ∃ (j : Nat), j ≤ k ∧ v33 = .int .i64 j ∧ Hid (wr2.ownsRow w.heap.size 3 1 (.slice (some ⟨g, 0, none⟩) k k) k (ints (mixT d ev j))) ∧ Hid (w5.grownBy wr2 (some g))) (fun v33 _ => k - (intOf v33).toNat)
          case atStart => exact ⟨0, Nat.zero_le _, rfl, by rw [mixT_zero]; exact HOW5, Lib.hid (World.grownBy.refl _ _)⟩
          case round =>
            obtain ⟨j, hj, rfl, HOWj, HGRj⟩ := hrel
            obtain ⟨wB, rfl⟩ : ∃ wB : World, wB = wr := ⟨_, rfl⟩
            by_cases hjn : j < k
            · have co := own_cell HOWj.out hjn
              rw [mixT_getD HDL.out HEL.out hjn] at co
              have fo := HOWj.out.frozenAt j
              have ce := (gro_cell (o := j) HGRj.out hhl (by omega)).trans (own_cell HO5.out hjn)
              obtain ⟨o, ho⟩ : ∃ o, d.getD j 0 = o := ⟨_, rfl⟩
              obtain ⟨x, hx⟩ : ∃ x, ev.getD j 0 = x := ⟨_, rfl⟩
              rw [ho] at co
              rw [hx] at ce
              have HOO := Lib.hid ho
              have HXX := Lib.hid hx
              clear ho hx
              go_wp2
              all_goals first
                | (refine ⟨⟨j + 1, by omega, by go_num, Lib.hid ?_, Lib.hid (only_setCell HGRj.out j _)⟩, by simp [intOf]; omega⟩; rw [← mix_yes HDL.out HEL.out hjn HOO.out HXX.out (by omega)]; exact own_setI HOWj.out j x)
                | (refine ⟨⟨j + 1, by omega, by go_num, Lib.hid ?_, HGRj⟩, by simp [intOf]; omega⟩; rw [← mix_no HDL.out HEL.out hjn HOO.out HXX.out (by omega)]; exact HOWj.out)
            · obtain rfl : j = k := by omega
              go_wp2
              refine ⟨⟨i + 1, _, by omega, by go_num, Lib.hid rfl, Lib.hid ?_, Lib.hid (gro_trans HGR5.out HGRj.out)⟩, by simp [intOf]; omega⟩
              rw [coverL_snoc _ _ HX.out, HD.out, Int.toNat_natCast, HEV.out, ← mixT_full HDL.out HEL.out]
              exact HOWj.out
        · obtain rfl : i = q.length := by omega
          go_wp2
          go_ret
          refine ⟨_, rfl, ?_, gro_new HB2.out HGR.out HGE.out⟩
          have e := HD.out
          rw [List.take_length] at e
          rw [coverL_len, e]; exact HOW.out
end Go.Proofs.Ytgdigcnpjkkmfaa
