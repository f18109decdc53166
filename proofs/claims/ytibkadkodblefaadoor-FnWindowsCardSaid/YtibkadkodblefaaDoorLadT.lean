/-
  spec.laCover: the first choice of places that reach what is left.
-/
import Derived.Test.YtibkadkodblefaaDoorLadU
import Derived.Test.YtibkadkodblefaaDoorSS
import Derived.Test.YtibkadkodblefaaDoorSlc
namespace Go.Proofs.YtibkadkodblefaaDoor
open Go.RowKit Go.Maps

theorem covS_len {ls : List (List Int)} : ∀ (n k : Nat) (left T : List Int), covS ls n k left = some T → T.length = n := by
  intro n
  induction n with
  | zero => intro k left T h; simp only [covS] at h; split at h <;> simp at h; subst h; rfl
  | succ n ih =>
    intro k left T h
    simp only [covS] at h
    split at h
    · cases h
    · exact gof_len (fun j T' h' => ih _ _ _ h') _ _ _ h
set_option maxRecDepth 100000 in
set_option maxHeartbeats 2000000 in
theorem laCover_c (v : Value) (ls : List (List Int)) (hls : ls.length ≤ 13) : ∀ (n k : Nat) (u : Value) (left : List Int) (w : World), n ≤ 3 → k ≤ ls.length → left.length ≤ 1000 → RdSS w v ls → RdI w u left →
    Calls Tryd.prog 80 #[v, .int .i64 k, .int .i64 n, u] w (OwnIB (optL (covS ls n k left)) w) := by
  intro n
  induction n with
  | zero =>
    intro k u left w _ hk hl hv hu
    obtain ⟨A, c, rfl, hc, hm, _⟩ := hu
    rw [maxLen_eq] at hm
    by_cases h : left = []
    · have HF : Hid (optL (covS ls 0 k left) = ([], true)) := Lib.hid (by simp only [covS]; rw [if_pos h]; rfl)
      have e0 : ((left.length : Int) == 0) = true := by rw [h]; rfl
      clear h hv
      go_enter Tryd.func80, Tryd.ntmps80
      go_wp2
      go_ret2
      rw [HF.out]
      exact ⟨_, rfl, World.ownsRow_nil _ _ _ _, Below.refl _ _⟩
    · have HF : Hid (optL (covS ls 0 k left) = ([], false)) := Lib.hid (by simp only [covS]; rw [if_neg h]; rfl)
      have e0 : ((left.length : Int) == 0) = false := by
        rw [beq_eq_false_iff_ne]
        intro e; exact h (List.eq_nil_of_length_eq_zero (by omega))
      clear h hv
      go_enter Tryd.func80, Tryd.ntmps80
      go_wp2
      go_ret2
      rw [HF.out]
      exact ⟨_, rfl, World.ownsRow_nil _ _ _ _, Below.refl _ _⟩
  | succ n ih =>
    intro k u left w hn3 hk hl hv hu
    have IH := Lib.hid ih
    have HU := Lib.hid hu
    have HVV := Lib.hid hv
    obtain ⟨A, c, rfl, hc, hm, hru⟩ := hu
    rw [maxLen_eq] at hm
    have HRU := Lib.hid hru
    obtain ⟨lf, hlf⟩ : ∃ lf, n + 1 = lf := ⟨_, rfl⟩
    have e1 : ((lf : Int) == 0) = false := by rw [beq_eq_false_iff_ne]; omega
    have e5 : IntKind.i64.wrap ((lf : Int) - 1) = (n : Int) := by rw [IntKind.wrap_i64]; omega
    clear ih
    by_cases h : left = []
    · have HF : Hid (optL (covS ls lf k left) = ([], false)) := Lib.hid (by rw [← hlf]; simp only [covS]; rw [if_pos h]; rfl)
      have e0 : ((left.length : Int) == 0) = true := by rw [h]; rfl
      rw [hlf]
      clear h hv hru e5 hlf
      go_enter Tryd.func80, Tryd.ntmps80
      go_wp2
      go_ret2
      rw [HF.out]
      exact ⟨_, rfl, World.ownsRow_nil _ _ _ _, Below.refl _ _⟩
    · have e0 : ((left.length : Int) == 0) = false := by
        rw [beq_eq_false_iff_ne]
        intro e; exact h (List.eq_nil_of_length_eq_zero (by omega))
      obtain ⟨F, hF⟩ : ∃ F : Nat → Option (List Int), F = fun k' => covS ls n (k' + 1) (left.filter fun i => !decide (i ∈ ls.getD k' [])) := ⟨_, rfl⟩
      have HFE : Hid (covS ls lf k left = gof F k (ls.length - k)) := Lib.hid (by rw [hF, ← hlf]; simp only [covS]; rw [if_neg h])
      have HFI : Hid (∀ i, F i = covS ls n (i + 1) (left.filter fun x => !decide (x ∈ ls.getD i []))) := Lib.hid (fun i => by rw [hF])
      obtain ⟨i0, hi, hz0, hz1, hz2⟩ := info_parts Tryd.infoInt
      obtain ⟨vs, hvs⟩ := hv
      have hvl := hvs.len
      have HV := Lib.hid hvs
      obtain ⟨AV, cV, rfl, hcV, hmV, hrV⟩ := hvs.outer
      rw [maxLen_eq] at hmV
      have HRV := Lib.hid hrV
      have HLF := Lib.hid hlf
      rw [hlf]
      clear h hru hF hvs hrV hlf
      go_enter Tryd.func80, Tryd.ntmps80
      go_wp2_with fail
      go_loopw [10] (fun v10 wr => ∃ (i : Nat), i ≤ ls.length ∧ v10 = .int .i64 i ∧ Hid (gof F k (ls.length - k) = gof F i (ls.length - i)) ∧ Hid (Below w.heap.size w wr)) (fun v10 _ => ls.length - (intOf v10).toNat)
      case atStart => exact ⟨k, hk, rfl, Lib.hid rfl, Lib.hid (Below.refl _ _)⟩
      case round =>
        obtain ⟨i, hi', rfl, HT, HB⟩ := hrel
        obtain ⟨wA, rfl⟩ : ∃ wA : World, wA = wr := ⟨_, rfl⟩
        have hszA := HB.out.size
        by_cases hlt : i < ls.length
        · obtain ⟨b, off, rfl, hbl, hcell⟩ := HRV.out (by omega)
          obtain ⟨x, hx⟩ : ∃ x, vs[i]? = some x := ⟨_, List.getElem?_eq_getElem (by omega)⟩
          obtain ⟨row, hrow⟩ : ∃ row, ls[i]? = some row := ⟨_, List.getElem?_eq_getElem hlt⟩
          have hgd : ls.getD i [] = row := by simp [List.getD_eq_getElem?_getD, hrow]
          have HROW := Lib.hid (HV.out.inner i x row hx hrow)
          have HCX := Lib.hid (fun (W : World) (hW : Below w.heap.size w W) => cell_at hcell hW hbl hx)
          have HGD := Lib.hid hgd
          have y0 : (0 : Int) ≤ (i : Int) := Int.natCast_nonneg _
          have y1 : (i : Int) < (ls.length : Int) := by omega
          have e4 : IntKind.i64.wrap ((i : Int) + 1) = ((i + 1 : Nat) : Int) := by rw [IntKind.wrap_i64]; omega
          have e9 : IntKind.i64.wrap (50 * (i : Int)) = 50 * (i : Int) := by rw [IntKind.wrap_i64]; omega
          clear hcell hx hrow hgd
          go_wp2_with fail
          go_loopw [11, 32] (fun v11 v32 wr => ∃ (j : Nat) (R : List Int), j ≤ left.length ∧ R.length ≤ j ∧ v32 = .int .i64 j ∧ Hid ((left.take j).filter (fun x => !decide (x ∈ row)) = R) ∧ Hid (wr.ownsRow wA.heap.size 3 1 v11 R.length (ints R)) ∧ Hid (Below wA.heap.size wA wr)) (fun _ v32 _ => left.length - (intOf v32).toNat)
          case atStart => exact ⟨0, [], Nat.zero_le _, Nat.le_refl _, rfl, Lib.hid rfl, Lib.hid (show wA.ownsRow wA.heap.size 3 1 (.slice none 0 0) 0 [] from World.ownsRow_nil _ _ _ _), Lib.hid (Below.refl _ _)⟩
          case round =>
            obtain ⟨j, R, hj, hRj, rfl, HR, HO, HBL⟩ := hrel
            obtain ⟨wB, rfl⟩ : ∃ wB : World, wB = wr := ⟨_, rfl⟩
            have hszB := HBL.out.size
            by_cases hjl : j < left.length
            · obtain ⟨b2, off2, rfl, hbl2, hcell2⟩ := HRU.out (by omega)
              obtain ⟨z, hz⟩ : ∃ z, left[j]? = some z := ⟨_, List.getElem?_eq_getElem hjl⟩
              have d0 := cell_at hcell2 (bel_then HB.out HBL.out) hbl2 (ints_get hz)
              have cx := HCX.out wB (bel_then HB.out HBL.out)
              have HZ := Lib.hid hz
              have q0 : (0 : Int) ≤ (j : Int) := Int.natCast_nonneg _
              have q1 : (j : Int) < (left.length : Int) := by omega
              clear hz hcell2
              go_wp2_with fail
              refine (l1Has_c _ z row _ (rdi_below HROW.out (bel_then HB.out HBL.out))).mono ?_
              by_cases hin : z ∈ row
              · have HR2 : Hid ((left.take (j + 1)).filter (fun x => !decide (x ∈ row)) = R) := Lib.hid (by
                  rw [take_succ_of HZ.out, List.filter_append, HR.out]; simp [hin])
                rw [decide_eq_true hin]; rintro e w5 ⟨rfl, rfl⟩
                clear hin
                go_wp2_with fail
                exact ⟨⟨j + 1, R, by omega, by omega, by go_num, HR2, HO, HBL⟩, by simp [intOf]; omega⟩
              · have HR2 : Hid ((left.take (j + 1)).filter (fun x => !decide (x ∈ row)) = R ++ [z]) := Lib.hid (by
                  rw [take_succ_of HZ.out, List.filter_append, HR.out]; simp [hin])
                rw [decide_eq_false hin]; rintro e w5 ⟨rfl, rfl⟩
                clear hin
                go_wp2_with (at_builtin; refine wpList_app_rd _ rfl _ _ 22 rfl wA.heap.size 3 i0 (.int .i64 0) 1 8 Tryd.underlying22 hi hz0 hz1 hz2 rfl (by decide) _ _ _ rfl (HO.out.alloc _) _ 1 [.int .i64 z] rfl (rd_new _ rfl (Nat.le_refl _) (by rw [maxLen_eq]; omega)) rfl (ints_one [z]) (by rw [maxLen_eq]; omega) (by omega) (by simp; omega) ?_; intro v7 w7 hown7 hgrow7 he7)
                have HO7 : Hid (w7.ownsRow wA.heap.size 3 1 v7 (R ++ [z]).length (ints (R ++ [z]))) := Lib.hid (by rw [ints_append, List.length_append]; exact hown7)
                exact ⟨⟨j + 1, R ++ [z], by omega, by simp; omega, by go_num, HR2, HO7, Lib.hid (bel_grown (bel_al HBL.out _) hgrow7 (fun q e => (HO.out.lt q e).1))⟩, by simp [intOf]; omega⟩
            · obtain rfl : j = left.length := by omega
              have hFi : F i = covS ls n (i + 1) R := by rw [HFI.out, HGD.out]; have := HR.out; rw [List.take_length] at this; rw [this]
              have HBB := Lib.hid (bel_then HB.out HBL.out)
              have hrec := IH.out (i + 1) u11 R wB (by omega) (by omega) (by omega) (HVV.out.below HBB.out) (rdi_own HO.out)
              have hgo : gof F i (ls.length - i) = match F i with | some T => some (50 * (i : Int) :: T) | none => gof F (i + 1) (ls.length - (i + 1)) := by
                obtain ⟨q, hq⟩ : ∃ q, ls.length - i = q + 1 := ⟨ls.length - i - 1, by omega⟩
                rw [hq, show ls.length - (i + 1) = q by omega]; rfl
              rw [hFi] at hgo
              have hlen := covS_len (ls := ls) n (i + 1) R
              cases hR : covS ls n (i + 1) R with
              | some T =>
                rw [hR] at hgo hrec
                have hTl := hlen T hR
                have HC : Hid (Calls Tryd.prog 80 #[.slice (some ⟨b, off, none⟩) ls.length cV, .int .i64 (i + 1 : Nat), .int .i64 n, u11] wB (OwnIB (T, true) wB)) := Lib.hid hrec
                have HV2 : Hid (covS ls lf k left = some (50 * (i : Int) :: T)) := Lib.hid (by rw [HFE.out, HT.out, hgo])
                clear hgo hrec hlen hFi hR
                go_wp2_with fail
                refine HC.out.mono ?_; intro e w9 hh; obtain ⟨x9, rfl, ho9, hb9⟩ := ownIB_open hh; clear hh
                have HB9 : Hid (Below w.heap.size w w9) := Lib.hid (bel_then HBB.out hb9)
                have HO9 := Lib.hid ho9
                clear ho9 hb9
                go_wp2_with (at_builtin; refine wpList_app_rd _ rfl _ _ 22 rfl w.heap.size 3 i0 (.int .i64 0) 1 8 Tryd.underlying22 hi hz0 hz1 hz2 rfl (by decide) _ _ _ rfl (World.ownsRow_lit (size := 1) w9 #[.int .i64 (50 * (i : Int))] 1 HB9.out.size (by rw [maxLen_eq]; omega) rfl) _ T.length (ints T) rfl (rd_below (own_rd HO9.out) (bel_al (Below.refl _ _) _)) (by rw [ints_len]; omega) (ints_one T) (by rw [maxLen_eq]; omega) (by omega) (by have := HB9.out.size; simp; omega) ?_; intro v' w' hown' hgrow _)
                go_ret2
                rw [HV2.out]
                refine ⟨_, rfl, ?_, bel_grown (bel_al HB9.out _) hgrow (fun q e => ?_)⟩
                · have e1 : (optL (some (50 * (i : Int) :: T))).1.length = 1 + T.length := by simp [optL]; omega
                  rw [e1]; exact hown'
                · have h : w9.heap.size = q := Option.some.inj e
                  have := HB9.out.size
                  omega
              | none =>
                rw [hR] at hgo hrec
                have HC : Hid (Calls Tryd.prog 80 #[.slice (some ⟨b, off, none⟩) ls.length cV, .int .i64 (i + 1 : Nat), .int .i64 n, u11] wB (OwnIB ([], false) wB)) := Lib.hid hrec
                have HT2 : Hid (gof F k (ls.length - k) = gof F (i + 1) (ls.length - (i + 1))) := Lib.hid (by rw [HT.out, hgo])
                clear hgo hrec hlen hFi hR
                go_wp2_with fail
                refine HC.out.mono ?_; intro e w9 hh; obtain ⟨x9, rfl, ho9, hb9⟩ := ownIB_open hh; clear hh
                have HB9 : Hid (Below w.heap.size w w9) := Lib.hid (bel_then HBB.out hb9)
                clear ho9 hb9 e4
                go_wp2
                exact ⟨⟨i + 1, by omega, by go_num, HT2, HB9⟩, by simp [intOf]; omega⟩
        · obtain rfl : i = ls.length := by omega
          have HV2 : Hid (covS ls lf k left = none) := Lib.hid (by rw [HFE.out, HT.out, Nat.sub_self]; rfl)
          go_wp2
          go_ret2
          rw [HV2.out]
          exact ⟨_, rfl, World.ownsRow_nil _ _ _ _, HB.out⟩
end Go.Proofs.YtibkadkodblefaaDoor
