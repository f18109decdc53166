/-
  The walk of FnFoam (printed by gen_foamw.py).
-/
import Derived.Test.YtdiffcacamnlkaaFoamP
import Derived.Test.YtdiffcacamnlkaaDrawU
import Derived.Test.YtdiffcacamnlkaaQInts
import Derived.Test.YtdiffcacamnlkaaFillS
import Derived.Test.YtdiffcacamnlkaaTankG
import Derived.BigRegion
import Derived.Deep.CutRange
namespace Go.Proofs.Ytdiffcacamnlkaa
open Go.RowKit

theorem dec_le {a b : Int} (h : b < a) : decide (a ≤ b) = false := decide_eq_false (by omega)
set_option maxRecDepth 100000 in
set_option maxHeartbeats 16000000 in
theorem walk_FnFoam (w : World) (v0 : Value) (l0 : List Int) (hr0 : Rd w v0 l0.length (bys l0)) (hw0 : BytesOk l0 ∧ l0.length ≤ 9223372036854775807) (v1 : Value) (l1 : List Int) (hr1 : Rd w v1 l1.length (bys l1)) (hw1 : BytesOk l1 ∧ l1.length ≤ 9223372036854775807) :
    Calls Try.prog 3 #[v0, v1] w fun en w' => en = .returned (.bool true) ∧ Below w.heap.size w w' := by
  obtain ⟨ho0, hn0⟩ := hw0
  obtain ⟨ho1, hn1⟩ := hw1
  have HR0 := Lib.hid hr0
  have HR1 := Lib.hid hr1
  have HO0' := Lib.hid ho0
  have HO1' := Lib.hid ho1
  obtain ⟨A0, c0, rfl, _⟩ := hr0
  obtain ⟨A1, c1, rfl, _⟩ := hr1
  obtain ⟨X, hX⟩ : ∃ X, IntKind.i64.wrap ((l0.length : Int) + (l1.length : Int)) = X := ⟨_, rfl⟩
  clear ho0 ho1
  by_cases hbig : 1048576 < X
  · go_enter Try.func3, Try.ntmps3
    go_wp2
    go_ret
    exact ⟨rfl, Below.refl _ _⟩
  have hbig2 : X ≤ 1048576 := by omega
  clear hbig
  go_enter Try.func3, Try.ntmps3
  go_wp2_with fail
  clear hX
  refine (drawFoamFor_c _ l0 hn0 HO0'.out _ HR0.out).mono ?_; rintro e w1 ⟨⟨fa, fr, fp, fm, rfl⟩, hb⟩
  have HB := Lib.hid hb
  clear hb
  obtain ⟨F0, hF0⟩ : ∃ F, (foamFor fa fr fp fm).1 = F := ⟨_, rfl⟩
  obtain ⟨F1, hF1⟩ : ∃ F, (foamFor fa fr fp fm).2.1 = F := ⟨_, rfl⟩
  obtain ⟨F2, hF2⟩ : ∃ F, (foamFor fa fr fp fm).2.2 = F := ⟨_, rfl⟩
  go_wp2_with fail
  refine (foamForI_c fa fr fp fm _).mono ?_; rw [hF0, hF1, hF2]; rintro e w2 ⟨rfl, rfl⟩
  go_wp2_with fail
  refine (foamForS_c fa fr fp fm _).mono ?_; rw [hF0, hF1, hF2]; rintro e w2 ⟨rfl, rfl⟩
  have HF0 := Lib.hid hF0
  have HF1 := Lib.hid hF1
  have HF2 := Lib.hid hF2
  clear hF0 hF1 hF2
  go_wp2_with fail
  refine (drawFoamLasts_c _ l1 hn1 HO1'.out _ (rd_below HR1.out HB.out)).mono ?_; rintro e w2 ⟨⟨lw, lf, ll, lp, rfl⟩, hb⟩
  have HB := Lib.hid (bel_then HB.out hb)
  clear hb
  obtain ⟨G0, hG0⟩ : ∃ G, (foamLasts lw lf ll lp).1 = G := ⟨_, rfl⟩
  obtain ⟨G1, hG1⟩ : ∃ G, (foamLasts lw lf ll lp).2 = G := ⟨_, rfl⟩
  go_wp2_with fail
  refine (foamLastsI_c lw lf ll lp _).mono ?_; rw [hG0, hG1]; rintro e w3 ⟨rfl, rfl⟩
  go_wp2_with fail
  refine (foamLastsS_c lw lf ll lp _).mono ?_; rw [hG0, hG1]; rintro e w3 ⟨rfl, rfl⟩
  have HG0 := Lib.hid hG0
  have HG1 := Lib.hid hG1
  clear hG0 hG1
  go_wp2_with fail
  refine (drawFillOrder_c _ l1 hn1 HO1'.out _ (rd_below HR1.out HB.out)).mono ?_; rintro e w3 ⟨⟨v1, T1, rfl, ht1, ht1l⟩, hb⟩
  have HB := Lib.hid (bel_then HB.out hb)
  have HT1 := Lib.hid ht1
  clear hb ht1
  go_wp2_with fail
  refine (fillOrderI_c _ T1 _ HT1.out).mono ?_; rintro e w4 ⟨o1, rfl, ho1, hb⟩
  have HB := Lib.hid (bel_then HB.out hb)
  have HT1 := Lib.hid (rd_below HT1.out hb)
  have HO1 := Lib.hid ho1
  clear hb ho1
  go_wp2_with fail
  refine (fillOrderS_c _ T1 _ HT1.out).mono ?_; rintro e w5 ⟨o2, rfl, ho2, hb⟩
  have HB := Lib.hid (bel_then HB.out hb)
  have HT1 := Lib.hid (rd_below HT1.out hb)
  have HO1 := Lib.hid (own_below HO1.out hb)
  have HO2 := Lib.hid ho2
  clear hb ho2
  go_wp2_with fail
  refine (drawFlowOf_c _ l1 hn1 HO1'.out _ (rd_below HR1.out HB.out)).mono ?_; rintro e w6 ⟨⟨v2, T2, rfl, ht2, ht2l⟩, hb⟩
  have HB := Lib.hid (bel_then HB.out hb)
  have HT1 := Lib.hid (rd_below HT1.out hb)
  have HO1 := Lib.hid (own_below HO1.out hb)
  have HO2 := Lib.hid (own_below HO2.out hb)
  have HT2 := Lib.hid ht2
  clear hb ht2
  obtain ⟨Q0, hQ0⟩ : ∃ Q, (flowOf T2).1 = Q := ⟨_, rfl⟩
  obtain ⟨Q1, hQ1⟩ : ∃ Q, (flowOf T2).2 = Q := ⟨_, rfl⟩
  go_wp2_with fail
  refine (flowOfI_c _ T2 _ HT2.out).mono ?_; rw [hQ0, hQ1]; rintro e w7 ⟨rfl, hb⟩
  have HB := Lib.hid (bel_then HB.out hb)
  have HT1 := Lib.hid (rd_below HT1.out hb)
  have HO1 := Lib.hid (own_below HO1.out hb)
  have HO2 := Lib.hid (own_below HO2.out hb)
  have HT2 := Lib.hid (rd_below HT2.out hb)
  clear hb
  go_wp2_with fail
  refine (flowOfS_c _ T2 _ HT2.out).mono ?_; rw [hQ0, hQ1]; rintro e w8 ⟨rfl, hb⟩
  have HB := Lib.hid (bel_then HB.out hb)
  have HT1 := Lib.hid (rd_below HT1.out hb)
  have HO1 := Lib.hid (own_below HO1.out hb)
  have HO2 := Lib.hid (own_below HO2.out hb)
  clear hb hQ0 hQ1
  obtain ⟨R1, hR1⟩ : ∃ R, (fillOrder T1).2 = R := ⟨_, rfl⟩
  rw [hR1]
  have n1 : (F2 != F2) = false := by simp
  have n2 : (F0 != F0) = false := by simp
  have n3 : (F1 != F1) = false := by simp
  have n4 : (G1 != G1) = false := by simp
  have n5 : (G0 != G0) = false := by simp
  have n6 : (R1 != R1) = false := by simp
  have n7 : (Q1 != Q1) = false := by simp
  have n8 : (Q0 != Q0) = false := by simp
  go_wp2_with fail
  refine (qInts_c _ _ (fillOrder T1).1 (fillOrder T1).1 _ (rdi_own HO1.out) (rdi_own HO2.out)).mono ?_; rw [decide_eq_true rfl]; rintro e w9 ⟨rfl, hb⟩
  have HB := Lib.hid (bel_then HB.out hb)
  have HT1 := Lib.hid (rd_below HT1.out hb)
  have HO1 := Lib.hid (own_below HO1.out hb)
  have HO2 := Lib.hid (own_below HO2.out hb)
  clear hb n1 n2 n3 n4 n5 n6 n7 n8
  have HR1x := Lib.hid hR1
  obtain ⟨L, hL0⟩ : ∃ L, (fillOrder T1).1 = L := ⟨_, rfl⟩
  have ho2 := HO2.out
  rw [hL0] at ho2
  have HL0x := Lib.hid hL0
  obtain ⟨AL, cL, rfl, hcL, hmL, hclL⟩ := rdi_own ho2
  rw [maxLen_eq] at hmL
  have HCL0 := Lib.hid hclL
  clear hR1 hL0 ho2 hclL HO1 HO2
  obtain ⟨wZ, hwZ⟩ : ∃ wZ, w9 = wZ := ⟨_, rfl⟩
  rw [hwZ] at HB HT1 HCL0 ⊢
  have HCL := HCL0
  clear hwZ HCL0
  go_upto_region 17 with fail
  go_cut [196] from 160 to 196 (fun v wx => v = .bool false ∧ wZ = wx)
  case first =>
    by_cases hok : F2 = true
    · subst hok
      obtain ⟨W0, W1, hf, p1, p2, p3, p4, p5, p6, p7, ⟨p8, p9⟩, ⟨p10, p11⟩, ⟨p12, p13⟩, ⟨p14, p15⟩, ⟨p16, p17⟩⟩ := foam_law HF2.out
      obtain rfl : W0 = F0 := by rw [← HF0.out, hf]
      obtain rfl : W1 = F1 := by rw [← HF1.out, hf]
      have u1 : IntKind.i64.wrap (W0 + W1) = W0 + W1 := IntWalk.i64_in _ (by omega)
      have u2 : IntKind.i64.wrap (fa * fr) = fa * fr := IntWalk.i64_in _ (by omega)
      have u3 : IntKind.i64.wrap (fa * fr * fm) = fa * fr * fm := IntWalk.i64_in _ (by omega)
      have u4 : IntKind.i64.wrap (100 * W1) = 100 * W1 := IntWalk.i64_in _ (by omega)
      have u5 : IntKind.i64.wrap (fp * fa) = fp * fa := IntWalk.i64_in _ (by omega)
      have u6 : IntKind.i64.wrap (fp * fa * fr) = fp * fa * fr := IntWalk.i64_in _ (by omega)
      have u7 : IntKind.i64.wrap (fp * fa * fr * fm) = fp * fa * fr * fm := IntWalk.i64_in _ (by omega)
      have u8 : IntKind.i64.wrap (W1 - 1) = W1 - 1 := IntWalk.i64_in _ (by omega)
      have u9 : IntKind.i64.wrap (100 * (W1 - 1)) = 100 * (W1 - 1) := IntWalk.i64_in _ (by omega)
      have u10 : ((W0 + W1) != (fa * fr * fm)) = false := by rw [p1]; simp
      clear hf p1
      go_wp2_with fail
      go_meet
      exact ⟨congrArg Value.bool (dec_le p3), rfl⟩
    · have hok : F2 = false := by simpa using hok
      subst hok
      go_wp2_with fail
      go_meet
      exact ⟨rfl, rfl⟩
  case rest =>
    obtain ⟨rfl, rfl⟩ := hcut
    go_upto_region 19 with fail
    by_cases hone : G1 = true
    · subst hone
      obtain ⟨gn, gP, hg, hgP, q1, q2, q3, q4, q5, q6, q7, q8, q9, q10, q11, q12, q13, q14, q15, q16, q17, q18, q19, q20⟩ := lasts_law HG1.out
      obtain rfl : gn = G0 := by rw [← HG0.out, hg]
      have u1 : IntKind.i64.wrap (ll * lp) = ll * lp := IntWalk.i64_in _ (by omega)
      have u2 : IntKind.i64.wrap (ll * lp + 99) = ll * lp + 99 := IntWalk.i64_in _ (by omega)
      have u3 : IntKind.i64.wrap ((ll * lp + 99).tdiv 100) = gP := by rw [Int.tdiv_eq_ediv_of_nonneg (by omega), hgP]; exact IntWalk.i64_in _ (by omega)
      have u3b : IntKind.i64.wrap gP = gP := IntWalk.i64_in _ (by omega)
      have u4 : IntKind.i64.wrap (gn * gP) = gn * gP := IntWalk.i64_in _ (by omega)
      have u5 : IntKind.i64.wrap (ll - gP) = ll - gP := IntWalk.i64_in _ (by omega)
      have u6 : IntKind.i64.wrap (gn * (ll - gP)) = gn * (ll - gP) := IntWalk.i64_in _ (by omega)
      have u7 : IntKind.i64.wrap (gn + 1) = gn + 1 := IntWalk.i64_in _ (by omega)
      have u8 : IntKind.i64.wrap ((gn + 1) * gP) = (gn + 1) * gP := IntWalk.i64_in _ (by omega)
      have u9 : IntKind.i64.wrap ((gn + 1) * (ll - gP)) = (gn + 1) * (ll - gP) := IntWalk.i64_in _ (by omega)
      clear hg
      go_upto_region 21 with fail
      go_cut [234] from 203 to 234 (fun v wx => v = .bool false ∧ wZ = wx)
      case first =>
        rcases q12 with q12 | q12
        · go_wp2_with fail
          all_goals
            go_meet
            refine ⟨?_, rfl⟩
            first | rfl | (exact congrArg Value.bool (dec_le (by assumption))) | (exact absurd (by assumption : lf < gn * gP) (Int.not_lt.2 q8)) | (exact absurd (by assumption : lw < gn * (ll - gP)) (Int.not_lt.2 q9))
        · go_wp2_with fail
          all_goals
            go_meet
            refine ⟨?_, rfl⟩
            first | rfl | (exact congrArg Value.bool (dec_le (by assumption))) | (exact absurd (by assumption : lf < gn * gP) (Int.not_lt.2 q8)) | (exact absurd (by assumption : lw < gn * (ll - gP)) (Int.not_lt.2 q9))
      case rest =>
        obtain ⟨rfl, rfl⟩ := hcut
        clear hgP u1 u2 u3 u3b u4 u5 u6 u7 u8 u9
        go_upto_region 23 with fail
        by_cases hth : R1 = true
        · subst hth
          have hok3 : okL T1 = true := by
            have h := HR1x.out
            unfold fillOrder at h
            split at h
            · assumption
            · cases h
          have hL : isort (gtOf (fillCf T1)) (upFrom 0 T1.length) = L := by
            have h := HL0x.out
            unfold fillOrder at h
            rw [if_pos hok3] at h
            exact h
          have HOK := Lib.hid (okL_true hok3).2
          have hLl : (T1.length : Int) = (L.length : Int) := by rw [← hL, isort_length, upFrom_len]
          have hLb : ((L.length : Int) != (T1.length : Int)) = false := by rw [hLl]; simp
          have HLL := Lib.hid hL
          obtain ⟨AT, cT, rfl, hcT, hmT, hclT⟩ := HT1.out
          rw [maxLen_eq] at hmT
          have HCT := Lib.hid hclT
          clear hclT hL hLl hok3
          go_wp2_with fail
          go_loopw [243] (fun vi wr => ∃ k : Nat, k ≤ L.length ∧ vi = .int .i64 k ∧ Hid (Below w.heap.size w wr) ∧ Hid (Below wZ.heap.size wZ wr)) (fun vi _ => L.length - (intOf vi).toNat)
          case atStart => exact ⟨0, Nat.zero_le _, rfl, HB, Lib.hid (Below.refl _ _)⟩
          case round =>
            obtain ⟨k, hk, rfl, HBL, HBZ⟩ := hrel
            obtain ⟨wA, rfl⟩ : ∃ wA : World, wA = wr := ⟨_, rfl⟩
            by_cases hlt : k < L.length
            · obtain ⟨bL, offL, rfl, hbL, hclL⟩ := HCL.out (by omega)
              obtain ⟨y, hy⟩ : ∃ y, L[k]? = some y := ⟨_, List.getElem?_eq_getElem hlt⟩
              have cy := cell_at hclL HBZ.out hbL (ints_get hy)
              obtain ⟨i, ti, rfl, hti⟩ := fill_mem T1 (HLL.out ▸ List.mem_of_getElem? hy)
              have hif : i < T1.length := (List.getElem?_eq_some_iff.1 hti).1
              rcases k with _ | kp
              · have hd0 : decide ((0 : Int) < 0) = false := by decide
                rw [Nat.add_zero] at cy
                clear hclL hy hti
                go_wp2
                exact ⟨⟨1, by omega, by go_num, HBL, HBZ⟩, by simp [intOf]; omega⟩
              · have hlt' : kp < L.length := by omega
                obtain ⟨z, hz⟩ : ∃ z, L[kp]? = some z := ⟨_, List.getElem?_eq_getElem hlt'⟩
                have cz := cell_at hclL HBZ.out hbL (ints_get hz)
                obtain ⟨j, tj, rfl, htj⟩ := fill_mem T1 (HLL.out ▸ List.mem_of_getElem? hz)
                have hjf : j < T1.length := (List.getElem?_eq_some_iff.1 htj).1
                have hlex := fill_sorted T1 (k := kp) (x := (j : Int)) (y := (i : Int)) (by rw [HLL.out]; exact hz) (by rw [HLL.out]; exact hy)
                unfold lexLt at hlex
                rw [fillKey_at htj, fillKey_at hti] at hlex
                obtain ⟨bT, offT, rfl, hbT, hclT⟩ := HCT.out (by omega)
                obtain ⟨a0, a1, a2, a3⟩ := tk_at hclT HBZ.out hbT hti
                obtain ⟨b0, b1, b2, b3⟩ := tk_at hclT HBZ.out hbT htj
                have hgi := Tk.bd (HOK.out ti (List.mem_of_getElem? hti))
                have hgj := Tk.bd (HOK.out tj (List.mem_of_getElem? htj))
                obtain ⟨il, iff', id', ie⟩ := ti
                obtain ⟨jl, jff, jd, je⟩ := tj
                dsimp only at a0 a1 a2 a3 b0 b1 b2 b3 hgi hgj hlex
                obtain ⟨_, _, _, _, gi1, gi2, gi3, gi4⟩ := hgi
                obtain ⟨_, _, _, _, gj1, gj2, gj3, gj4⟩ := hgj
                have i0 : (0 : Int) ≤ (i : Int) := by omega
                have i1 : (i : Int) < (T1.length : Int) := by omega
                have j0 : (0 : Int) ≤ (j : Int) := by omega
                have j1 : (j : Int) < (T1.length : Int) := by omega
                have y0 : (0 : Int) ≤ (kp : Int) := Int.natCast_nonneg _
                have y1 : (kp : Int) < (L.length : Int) := by omega
                have y2 : (0 : Int) < (kp : Int) + 1 := by omega
                have s9 : IntKind.i64.wrap (kp : Int) = (kp : Int) := by rw [IntKind.wrap_i64]; omega
                have s1 : IntKind.i64.wrap (ie + id') = ie + id' := IntWalk.i64_in _ (by omega)
                have s2 : IntKind.i64.wrap (je + jd) = je + jd := IntWalk.i64_in _ (by omega)
                have hsA := HBZ.out.size
                have q1 : ∀ (o : Obj) (j : Nat), (wA.alloc o).cell? ⟨bT, j, none⟩ = wA.cell? ⟨bT, j, none⟩ := fun o j => World.cell?_alloc_lt _ _ _ (by show bT < _; omega)
                have q2 : ∀ (o o' : Obj) (j : Nat), ((wA.alloc o).alloc o').cell? ⟨bT, j, none⟩ = wA.cell? ⟨bT, j, none⟩ := fun o o' j => (World.cell?_alloc_lt _ _ _ (by show bT < _; simp; omega)).trans (q1 o j)
                have q3 : ∀ (o : Obj) (j : Nat), (wA.alloc o).cell? ⟨bL, j, none⟩ = wA.cell? ⟨bL, j, none⟩ := fun o j => World.cell?_alloc_lt _ _ _ (by show bL < _; omega)
                have q4 : ∀ (o o' : Obj) (j : Nat), ((wA.alloc o).alloc o').cell? ⟨bL, j, none⟩ = wA.cell? ⟨bL, j, none⟩ := fun o o' j => (World.cell?_alloc_lt _ _ _ (by show bL < _; simp; omega)).trans (q3 o j)
                clear hclL hy hz hti htj hclT
                go_wp2_with fail
                go_region
                all_goals
                  rcases hlex with hlex | ⟨hlex, hji⟩
                  · have e1 : ((je + jd) == (ie + id')) = false := beq_false_of_ne (by omega)
                    have e0 : je + jd ≤ ie + id' := by omega
                    go_wp2
                    all_goals first | (exfalso; omega) | exact ⟨⟨kp + 1 + 1, by omega, by go_num, Lib.hid (by repeat (first | exact HBL.out | exact HBZ.out | assumption | refine bel_al ?_ _ | refine bel_dr ?_ | refine below_drewN ?_ _ | refine Below.setCell ?_ (by first | omega | (simp; omega)) _)), Lib.hid (by repeat (first | exact HBL.out | exact HBZ.out | assumption | refine bel_al ?_ _ | refine bel_dr ?_ | refine below_drewN ?_ _ | refine Below.setCell ?_ (by first | omega | (simp; omega)) _))⟩, by simp [intOf]; omega⟩
                  · have e1 : ((je + jd) == (ie + id')) = true := beq_iff_eq.2 (by omega)
                    have e0 : je + jd ≤ ie + id' := by omega
                    clear hlex
                    have e2 : (j : Int) ≤ (i : Int) := by omega
                    go_wp2
                    all_goals first | (exfalso; omega) | exact ⟨⟨kp + 1 + 1, by omega, by go_num, Lib.hid (by repeat (first | exact HBL.out | exact HBZ.out | assumption | refine bel_al ?_ _ | refine bel_dr ?_ | refine below_drewN ?_ _ | refine Below.setCell ?_ (by first | omega | (simp; omega)) _)), Lib.hid (by repeat (first | exact HBL.out | exact HBZ.out | assumption | refine bel_al ?_ _ | refine bel_dr ?_ | refine below_drewN ?_ _ | refine Below.setCell ?_ (by first | omega | (simp; omega)) _))⟩, by simp [intOf]; omega⟩
            · obtain rfl : k = L.length := by omega
              go_wp2
              go_ret
              exact ⟨rfl, HBL.out⟩
        · have hth : R1 = false := by simpa using hth
          subst hth
          go_wp2
          go_ret
          exact ⟨rfl, HB.out⟩
    · have hone : G1 = false := by simpa using hone
      subst hone
      go_upto_region 23 with fail
      by_cases hth : R1 = true
      · subst hth
        have hok3 : okL T1 = true := by
          have h := HR1x.out
          unfold fillOrder at h
          split at h
          · assumption
          · cases h
        have hL : isort (gtOf (fillCf T1)) (upFrom 0 T1.length) = L := by
          have h := HL0x.out
          unfold fillOrder at h
          rw [if_pos hok3] at h
          exact h
        have HOK := Lib.hid (okL_true hok3).2
        have hLl : (T1.length : Int) = (L.length : Int) := by rw [← hL, isort_length, upFrom_len]
        have hLb : ((L.length : Int) != (T1.length : Int)) = false := by rw [hLl]; simp
        have HLL := Lib.hid hL
        obtain ⟨AT, cT, rfl, hcT, hmT, hclT⟩ := HT1.out
        rw [maxLen_eq] at hmT
        have HCT := Lib.hid hclT
        clear hclT hL hLl hok3
        go_wp2_with fail
        go_loopw [243] (fun vi wr => ∃ k : Nat, k ≤ L.length ∧ vi = .int .i64 k ∧ Hid (Below w.heap.size w wr) ∧ Hid (Below wZ.heap.size wZ wr)) (fun vi _ => L.length - (intOf vi).toNat)
        case atStart => exact ⟨0, Nat.zero_le _, rfl, HB, Lib.hid (Below.refl _ _)⟩
        case round =>
          obtain ⟨k, hk, rfl, HBL, HBZ⟩ := hrel
          obtain ⟨wA, rfl⟩ : ∃ wA : World, wA = wr := ⟨_, rfl⟩
          by_cases hlt : k < L.length
          · obtain ⟨bL, offL, rfl, hbL, hclL⟩ := HCL.out (by omega)
            obtain ⟨y, hy⟩ : ∃ y, L[k]? = some y := ⟨_, List.getElem?_eq_getElem hlt⟩
            have cy := cell_at hclL HBZ.out hbL (ints_get hy)
            obtain ⟨i, ti, rfl, hti⟩ := fill_mem T1 (HLL.out ▸ List.mem_of_getElem? hy)
            have hif : i < T1.length := (List.getElem?_eq_some_iff.1 hti).1
            rcases k with _ | kp
            · have hd0 : decide ((0 : Int) < 0) = false := by decide
              rw [Nat.add_zero] at cy
              clear hclL hy hti
              go_wp2
              exact ⟨⟨1, by omega, by go_num, HBL, HBZ⟩, by simp [intOf]; omega⟩
            · have hlt' : kp < L.length := by omega
              obtain ⟨z, hz⟩ : ∃ z, L[kp]? = some z := ⟨_, List.getElem?_eq_getElem hlt'⟩
              have cz := cell_at hclL HBZ.out hbL (ints_get hz)
              obtain ⟨j, tj, rfl, htj⟩ := fill_mem T1 (HLL.out ▸ List.mem_of_getElem? hz)
              have hjf : j < T1.length := (List.getElem?_eq_some_iff.1 htj).1
              have hlex := fill_sorted T1 (k := kp) (x := (j : Int)) (y := (i : Int)) (by rw [HLL.out]; exact hz) (by rw [HLL.out]; exact hy)
              unfold lexLt at hlex
              rw [fillKey_at htj, fillKey_at hti] at hlex
              obtain ⟨bT, offT, rfl, hbT, hclT⟩ := HCT.out (by omega)
              obtain ⟨a0, a1, a2, a3⟩ := tk_at hclT HBZ.out hbT hti
              obtain ⟨b0, b1, b2, b3⟩ := tk_at hclT HBZ.out hbT htj
              have hgi := Tk.bd (HOK.out ti (List.mem_of_getElem? hti))
              have hgj := Tk.bd (HOK.out tj (List.mem_of_getElem? htj))
              obtain ⟨il, iff', id', ie⟩ := ti
              obtain ⟨jl, jff, jd, je⟩ := tj
              dsimp only at a0 a1 a2 a3 b0 b1 b2 b3 hgi hgj hlex
              obtain ⟨_, _, _, _, gi1, gi2, gi3, gi4⟩ := hgi
              obtain ⟨_, _, _, _, gj1, gj2, gj3, gj4⟩ := hgj
              have i0 : (0 : Int) ≤ (i : Int) := by omega
              have i1 : (i : Int) < (T1.length : Int) := by omega
              have j0 : (0 : Int) ≤ (j : Int) := by omega
              have j1 : (j : Int) < (T1.length : Int) := by omega
              have y0 : (0 : Int) ≤ (kp : Int) := Int.natCast_nonneg _
              have y1 : (kp : Int) < (L.length : Int) := by omega
              have y2 : (0 : Int) < (kp : Int) + 1 := by omega
              have s9 : IntKind.i64.wrap (kp : Int) = (kp : Int) := by rw [IntKind.wrap_i64]; omega
              have s1 : IntKind.i64.wrap (ie + id') = ie + id' := IntWalk.i64_in _ (by omega)
              have s2 : IntKind.i64.wrap (je + jd) = je + jd := IntWalk.i64_in _ (by omega)
              have hsA := HBZ.out.size
              have q1 : ∀ (o : Obj) (j : Nat), (wA.alloc o).cell? ⟨bT, j, none⟩ = wA.cell? ⟨bT, j, none⟩ := fun o j => World.cell?_alloc_lt _ _ _ (by show bT < _; omega)
              have q2 : ∀ (o o' : Obj) (j : Nat), ((wA.alloc o).alloc o').cell? ⟨bT, j, none⟩ = wA.cell? ⟨bT, j, none⟩ := fun o o' j => (World.cell?_alloc_lt _ _ _ (by show bT < _; simp; omega)).trans (q1 o j)
              have q3 : ∀ (o : Obj) (j : Nat), (wA.alloc o).cell? ⟨bL, j, none⟩ = wA.cell? ⟨bL, j, none⟩ := fun o j => World.cell?_alloc_lt _ _ _ (by show bL < _; omega)
              have q4 : ∀ (o o' : Obj) (j : Nat), ((wA.alloc o).alloc o').cell? ⟨bL, j, none⟩ = wA.cell? ⟨bL, j, none⟩ := fun o o' j => (World.cell?_alloc_lt _ _ _ (by show bL < _; simp; omega)).trans (q3 o j)
              clear hclL hy hz hti htj hclT
              go_wp2_with fail
              go_region
              all_goals
                rcases hlex with hlex | ⟨hlex, hji⟩
                · have e1 : ((je + jd) == (ie + id')) = false := beq_false_of_ne (by omega)
                  have e0 : je + jd ≤ ie + id' := by omega
                  go_wp2
                  all_goals first | (exfalso; omega) | exact ⟨⟨kp + 1 + 1, by omega, by go_num, Lib.hid (by repeat (first | exact HBL.out | exact HBZ.out | assumption | refine bel_al ?_ _ | refine bel_dr ?_ | refine below_drewN ?_ _ | refine Below.setCell ?_ (by first | omega | (simp; omega)) _)), Lib.hid (by repeat (first | exact HBL.out | exact HBZ.out | assumption | refine bel_al ?_ _ | refine bel_dr ?_ | refine below_drewN ?_ _ | refine Below.setCell ?_ (by first | omega | (simp; omega)) _))⟩, by simp [intOf]; omega⟩
                · have e1 : ((je + jd) == (ie + id')) = true := beq_iff_eq.2 (by omega)
                  have e0 : je + jd ≤ ie + id' := by omega
                  clear hlex
                  have e2 : (j : Int) ≤ (i : Int) := by omega
                  go_wp2
                  all_goals first | (exfalso; omega) | exact ⟨⟨kp + 1 + 1, by omega, by go_num, Lib.hid (by repeat (first | exact HBL.out | exact HBZ.out | assumption | refine bel_al ?_ _ | refine bel_dr ?_ | refine below_drewN ?_ _ | refine Below.setCell ?_ (by first | omega | (simp; omega)) _)), Lib.hid (by repeat (first | exact HBL.out | exact HBZ.out | assumption | refine bel_al ?_ _ | refine bel_dr ?_ | refine below_drewN ?_ _ | refine Below.setCell ?_ (by first | omega | (simp; omega)) _))⟩, by simp [intOf]; omega⟩
          · obtain rfl : k = L.length := by omega
            go_wp2
            go_ret
            exact ⟨rfl, HBL.out⟩
      · have hth : R1 = false := by simpa using hth
        subst hth
        go_wp2
        go_ret
        exact ⟨rfl, HB.out⟩
end Go.Proofs.Ytdiffcacamnlkaa
