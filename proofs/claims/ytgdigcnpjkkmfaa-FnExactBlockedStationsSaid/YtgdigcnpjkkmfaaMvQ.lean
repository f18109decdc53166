/-
  impl.blockedStations.
-/
import Derived.Test.YtgdigcnpjkkmfaaMvP
import Derived.Lib.SliceRun
import Derived.Maps.OwnSet
import Derived.Maps.Views
import Derived.WalkArith
namespace Go.Proofs.Ytgdigcnpjkkmfaa
open Go.RowKit Go.Maps

theorem neq_slice_nil {P : Program} (w : World) (t e : TypeId) (a : Option Addr) (n c n' c' : Nat) (h : P.underlying t = some (.slice e)) :
    (binOp .neq t (.slice a n c) (.slice none n' c')).run P w = .ok (.bool (!a.isNone)) w := by
  simp only [binOp]
  simp [Op.equal, Op.maxDepth, Lib.run_equalIn_slice_nil w 9999 t e a n c n' c' h]
theorem dec_snoc (l : List Int) (x y : Int) : decide (x ∈ l ++ [y]) = (decide (x ∈ l) || decide (x = y)) := by
  by_cases h : x ∈ l <;> by_cases h2 : x = y <;> simp [h, h2]
theorem bestS_step {ls : List (List Int)} {s : Nat} (h : 1 ≤ s) : bestS ls s = if blkS ls (selI s.testBit ls.length) = true ∧ (bestS ls (s - 1) = [] ∨ cmpT (selI s.testBit ls.length) (bestS ls (s - 1)) < 0) then selI s.testBit ls.length else bestS ls (s - 1) := by
  obtain ⟨t, rfl⟩ : ∃ t, s = t + 1 := ⟨s - 1, by omega⟩
  rw [Nat.add_sub_cancel]; rfl
/-- A map's keys below 7 are P. -/
def MapP (D : DataW Unit) (P : Nat → Bool) : Prop := Maps.size D = cntP P ∧ ∀ j : Nat, j < 7 → Maps.has D (.int .i64 (j : Int)) = P j
theorem mapP_nil : MapP (.map []) noneP := by
  refine ⟨?_, fun j _ => ?_⟩
  · have : cntP noneP = 0 := by unfold cntP selI; simp [noneP]
    rw [this]; rfl
  · simp [Maps.has, noneP]
theorem mapP_congr {D : DataW Unit} {P Q : Nat → Bool} (h : MapP D P) (e : ∀ j, j < 7 → P j = Q j) : MapP D Q := ⟨by rw [h.1, cntP_congr e], fun j hj => by rw [h.2 j hj, e j hj]⟩
theorem mapP_put {D : DataW Unit} {P : Nat → Bool} {m : Nat} (h : MapP D P) (hD : IsMap D) (hT : Tidy D) (hm : m < 7) (d : DataW Unit) : MapP (D.put (.int .i64 (m : Int)) d) (updP P m) := by
  refine ⟨?_, fun j hj => ?_⟩
  · rw [size_put hT, h.2 m hm]
    cases hP : P m with
    | true => rw [if_pos rfl, h.1, cntP_yes hP]
    | false => rw [if_neg (by simp), h.1, cntP_no hP hm]
  · unfold updP
    by_cases e : j = m
    · subst e
      rw [has_put_same hD (show WideAt.IsKeyLit (.int .i64 (j : Int)) by simp [WideAt.IsKeyLit])]; simp
    · rw [has_put_other (fun h => by injection h with _ h; omega), h.2 j hj]; simp [e]

set_option maxRecDepth 100000 in
set_option maxHeartbeats 8000000 in
theorem blockedStations_c (v : Value) (ls : List (List Int)) (w : World) (ht : Tab ls) (hr : RdSS w v ls) :
    Calls Try.prog 58 #[v] w (OwnIB (blockedR ls, decide (blockedR ls ≠ [])) w) := by
  have heq := fun (W : World) (n c n' c' : Nat) (b : Nat) => Lib.run_eql_slice_nil (P := Try.prog) W 25 3 (some ⟨b, 0, none⟩) n c n' c' Try.underlying25
  have heq0 := fun (W : World) (n c n' c' : Nat) => Lib.run_eql_slice_nil (P := Try.prog) W 25 3 none n c n' c' Try.underlying25
  have hnq := fun (W : World) (n c n' c' : Nat) (b : Nat) => neq_slice_nil (P := Try.prog) W 25 3 (some ⟨b, 0, none⟩) n c n' c' Try.underlying25
  have hnq0 := fun (W : World) (n c n' c' : Nat) => neq_slice_nil (P := Try.prog) W 25 3 none n c n' c' Try.underlying25
  have hmm := @run_makeMap Try.prog
  have HT := Lib.hid ht
  have HR := Lib.hid hr
  obtain ⟨i0, hi, hz0, hz1, hz2⟩ := info_parts Try.infoInt
  obtain ⟨vs, hv⟩ := hr
  have hvl := hv.len
  have HV := Lib.hid hv
  have ht6 : ls.length ≤ 6 := ht.1
  obtain ⟨A, c, rfl, hc, hm, hcl⟩ := hv.outer
  rw [maxLen_eq] at hm
  have HCL := Lib.hid hcl
  obtain ⟨pw, hpw⟩ : ∃ pw : Nat, 2 ^ ls.length = pw := ⟨_, rfl⟩
  have hp1 : 1 ≤ pw := by rw [← hpw]; exact Nat.two_pow_pos _
  have hp7 : pw ≤ 64 := by rw [← hpw]; exact Nat.le_trans (Nat.pow_le_pow_right (by omega) ht6) (by decide)
  have eL : IntKind.i64.wrap ((2 : Int) ^ ls.length) = (pw : Int) := by
    have : (2 : Int) ^ ls.length = (pw : Int) := by rw [← hpw, Int.natCast_pow]; rfl
    rw [this, IntKind.wrap_i64]; omega
  have uL : IntKind.u64.wrap (ls.length : Int) = (ls.length : Int) := by rw [IntKind.wrap_u64]; omega
  have HPW := Lib.hid hpw
  clear hv hcl ht hpw
  go_enter Try.func58, Try.ntmps58
  go_wp2_with fail
  go_loopw [4, 5] (fun v4 v5 wr => ∃ (s : Nat) (B : List Int), 1 ≤ s ∧ s ≤ pw ∧ v5 = .int .i64 s ∧ B.length ≤ 6 ∧ Hid (bestS ls (s - 1) = B) ∧ (v4 = .slice none 0 0 ∧ B = [] ∨ B ≠ []) ∧ Hid (wr.ownsRow w.heap.size 3 1 v4 B.length (ints B)) ∧ Hid (Below w.heap.size w wr)) (fun _ v5 _ => pw - (intOf v5).toNat)
  case atStart => exact ⟨1, [], Nat.le_refl _, hp1, rfl, by simp, Lib.hid rfl, .inl ⟨rfl, rfl⟩, Lib.hid (show w.ownsRow w.heap.size 3 1 (.slice none 0 0) 0 [] from World.ownsRow_nil _ _ _ _), Lib.hid (Below.refl _ _)⟩
  case round =>
   obtain ⟨s, B, hs1, hsp, rfl, hB6, HBS, hBn, HOB, HB⟩ := hrel
   obtain ⟨wA, rfl⟩ : ∃ wA : World, wA = wr := ⟨_, rfl⟩
   have hsA := HB.out.size
   have s0 : (0 : Int) ≤ (s : Int) := by omega
   by_cases hlt : s < pw
   ·
    have HBN := Lib.hid hBn
    clear hBn
    go_wp2_with fail
    generalize hW : World.alloc wA _ = wM
    have hmap : Hid (wM.ownsMap Try.prog 3 (plainElem (H := Unit) Try.prog 4) wA.heap.size 0 (.map [])) := Lib.hid (by subst hW; exact World.ownsMap_made _ _ _ _)
    have hbm : Hid (Below wA.heap.size wA wM) := Lib.hid (by subst hW; exact bel_al (Below.refl _ _) _)
    have hzm : wA.heap.size < wM.heap.size := by subst hW; simp
    clear hW
    go_loopw [6, 22] (fun v6 v22 wr => ∃ (i n : Nat) (S : List Int) (P : Nat → Bool) (D : DataW Unit), i ≤ ls.length ∧ n ≤ 7 * i ∧ S.length ≤ i ∧ v22 = .int .i64 i ∧ Hid (selI s.testBit i = S) ∧ Hid (∀ j, j < 7 → hitL ls S j = P j) ∧ Hid (MapP D P) ∧ Hid (wr.ownsMap Try.prog 3 (plainElem (H := Unit) Try.prog 4) wA.heap.size n D) ∧ Hid (wr.ownsRow (wA.heap.size + 1) 3 1 v6 S.length (ints S)) ∧ Hid (Below wA.heap.size wA wr) ∧ wA.heap.size < wr.heap.size) (fun _ v22 _ => ls.length - (intOf v22).toNat)
    case atStart => exact ⟨0, 0, [], noneP, .map [], Nat.zero_le _, Nat.zero_le _, Nat.zero_le _, rfl, Lib.hid rfl, Lib.hid (fun j _ => rfl), Lib.hid mapP_nil, hmap, Lib.hid (show wM.ownsRow (wA.heap.size + 1) 3 1 (.slice none 0 0) 0 [] from World.ownsRow_nil _ _ _ _), hbm, hzm⟩
    case round =>
     obtain ⟨i, n, S, P, D, hi', hn, hSl, rfl, HS, HH, HMP, HM, HOS, HBI, hzI⟩ := hrel
     obtain ⟨wB, rfl⟩ : ∃ wB : World, wB = wr := ⟨_, rfl⟩
     by_cases hli : i < ls.length
     ·
      obtain ⟨l, hl⟩ : ∃ l, ls[i]? = some l := ⟨_, List.getElem?_eq_getElem hli⟩
      obtain ⟨hl7, hle⟩ := HT.out.2 l (List.mem_of_getElem? hl)
      have hgd : ls.getD i [] = l := by simp [List.getD_eq_getElem?_getD, hl]
      obtain ⟨u, hu⟩ : ∃ u, vs[i]? = some u := ⟨_, List.getElem?_eq_getElem (by omega)⟩
      obtain ⟨b, off, rfl, hbl, hcell⟩ := HCL.out (by omega)
      have c0 := cell_at hcell (bel_then HB.out HBI.out) hbl hu
      obtain ⟨A5, c5, rfl, hc5, hm5, hr5⟩ := HV.out.inner i u l hu hl
      rw [maxLen_eq] at hm5
      have HR5 := Lib.hid hr5
      have HLE := Lib.hid hle
      have HGD := Lib.hid hgd
      have k0 : (0 : Int) ≤ (i : Int) := by omega
      have k1 : (i : Int) < (ls.length : Int) := by omega
      have k3 : (i : Int) ≤ 64 := by omega
      have u1 : IntKind.u64.wrap (i : Int) = (i : Int) := by rw [IntKind.wrap_u64]; omega
      have hbit := bit_of s i (by omega)
      clear hcell hu hr5 hle hl hgd
      by_cases hT : s.testBit i = true
      · rw [if_pos hT] at hbit
        have HS2 : Hid (selI s.testBit (i + 1) = S ++ [(i : Int)]) := Lib.hid (by rw [selI_yes hT, HS.out])
        clear hT
        go_wp2_with (at_builtin; refine wpList_app_rd _ rfl _ _ 25 rfl (wA.heap.size + 1) 3 i0 (.int .i64 0) 1 8 Try.underlying25 hi hz0 hz1 hz2 rfl (by decide) _ _ _ rfl (HOS.out.alloc _) _ 1 [.int .i64 i] rfl (rd_new _ rfl (Nat.le_refl _) (by rw [maxLen_eq]; omega)) rfl (ints_one [(i : Int)]) (by rw [maxLen_eq]; omega) (by omega) (by simp; omega) ?_; intro v7 w7 hown7 hgrow7 he7)
        have HO7 : Hid (w7.ownsRow (wA.heap.size + 1) 3 1 v7 (S ++ [(i : Int)]).length (ints (S ++ [(i : Int)]))) := Lib.hid (by rw [ints_append, List.length_append]; exact hown7)
        have HM7 : Hid (w7.ownsMap Try.prog 3 (plainElem (H := Unit) Try.prog 4) wA.heap.size n D) := Lib.hid ((HM.out.alloc _).kept hgrow7 (fun e => by have := (HOS.out.lt _ e.symm).1; omega))
        have HB7 : Hid (Below wA.heap.size wA w7) := Lib.hid (bel_grown (bel_al HBI.out _) hgrow7 (fun q e => by have := (HOS.out.lt q e).1; omega))
        have hz7 : wA.heap.size < w7.heap.size := by have := hgrow7.size; simp at this; omega
        clear hown7 hgrow7 he7
        go_loopw [38] (fun v38 wr => ∃ (j n2 : Nat) (P2 : Nat → Bool) (D2 : DataW Unit), j ≤ l.length ∧ n2 ≤ 7 * i + j ∧ v38 = .int .i64 j ∧ Hid (∀ m, m < 7 → orP P (l.take j) m = P2 m) ∧ Hid (MapP D2 P2) ∧ Hid (wr.ownsMap Try.prog 3 (plainElem (H := Unit) Try.prog 4) wA.heap.size n2 D2) ∧ Hid (wr.ownsRow (wA.heap.size + 1) 3 1 v7 (S ++ [(i : Int)]).length (ints (S ++ [(i : Int)]))) ∧ Hid (Below wA.heap.size wA wr) ∧ wA.heap.size < wr.heap.size) (fun v38 _ => l.length - (intOf v38).toNat)
        case atStart => exact ⟨0, n, P, D, Nat.zero_le _, by omega, rfl, Lib.hid (fun m _ => by simp [orP]), HMP, HM7, HO7, HB7, hz7⟩
        case round =>
         obtain ⟨j, n2, P2, D2, hj, hn2, rfl, HP2, HMP2, HM2, HO2, HB2, hz2'⟩ := hrel
         obtain ⟨wC, rfl⟩ : ∃ wC : World, wC = wr := ⟨_, rfl⟩
         by_cases hjl : j < l.length
         ·
          obtain ⟨b5, off5, rfl, hbl5, hcell5⟩ := HR5.out (by omega)
          obtain ⟨x, hx⟩ : ∃ x, l[j]? = some x := ⟨_, List.getElem?_eq_getElem hjl⟩
          have d0 := cell_at hcell5 (bel_then HB.out HB2.out) hbl5 (ints_get hx)
          obtain ⟨xn, rfl, hx7⟩ := HLE.out x (List.mem_of_getElem? hx)
          have HP3 : Hid (∀ m, m < 7 → orP P (l.take (j + 1)) m = updP P2 xn m) := Lib.hid (fun m hm => by
            rw [take_succ_of hx]
            have h1 := HP2.out m hm
            unfold orP at h1 ⊢
            unfold updP
            rw [← h1, dec_snoc]
            have : decide ((m : Int) = (xn : Int)) = decide (m = xn) := by rw [decide_eq_decide]; omega
            rw [this, Bool.or_assoc])
          have HWF : Hid ((Lit.int .i64 (xn : Int)).wf = true) := Lib.hid (WalkArith.wf_i64 (by omega))
          have HMP3 := Lib.hid (mapP_put HMP2.out HM2.out.isMap (HM2.out.tidy (int_keyed Try.underlying3)) hx7 (.lit (.bool true)))
          clear hx hcell5
          go_wp2_with (at_mapUpdate; refine wpList_mapUpdate_own _ rfl _ _ _ 94 rfl 3 4 (int_keyed Try.underlying3) Try.underlying94 (plainElem (H := Unit) Try.prog 4) wA.heap.size n2 _ rfl HM2.out (by rw [maxLen_eq]; omega) _ _ _ rfl rfl (keyOf_int_mk Try.underlying3 HWF.out) _ [] (plainElem_bool Try.underlying4 true) ?_; intro w9 hown9 hgrow9)
          refine ⟨⟨j + 1, n2 + 1, updP P2 xn, _, by omega, by omega, by go_num, HP3, HMP3, Lib.hid hown9, Lib.hid (HO2.out.kept hgrow9 (by
            cases hb : Value.ownBlock _ with
            | none => exact .inl rfl
            | some q => exact .inr (fun e => by have h1 := (HO2.out.lt q hb).1; have h2 := Option.some.inj e; omega))), Lib.hid (HB2.out.grown hgrow9 HB2.out.size (fun q e => by cases e; exact Nat.le_refl _)), Nat.lt_of_lt_of_le hz2' hgrow9.size⟩, by simp [intOf]; omega⟩
         · obtain rfl : j = l.length := by omega
           go_wp2
           refine ⟨⟨i + 1, n2, S ++ [(i : Int)], P2, D2, by omega, by omega, by simp; omega, by go_num, HS2, Lib.hid (fun m hm => ?_), HMP2, HM2, HO2, HB2, hz2'⟩, by simp [intOf]; omega⟩
           rw [hitL_snoc, HGD.out]
           have h1 := HP2.out m hm
           rw [List.take_length] at h1
           unfold orP at h1 ⊢
           rw [HH.out m hm]; exact h1
      · have hT : s.testBit i = false := by simpa using hT
        rw [if_neg (by rw [hT]; simp)] at hbit
        have HS2 : Hid (selI s.testBit (i + 1) = S) := Lib.hid (by rw [selI_no hT, HS.out])
        clear hT
        go_wp2
        exact ⟨⟨i + 1, n, S, P, D, by omega, by omega, by omega, by go_num, HS2, HH, HMP, HM, HOS, HBI, hzI⟩, by simp [intOf]; omega⟩
     · obtain rfl : i = ls.length := by omega
       have HSTEP := Lib.hid (bestS_step (ls := ls) hs1)
       have hcnt : Maps.size D = cntP (hitL ls S) := by rw [HMP.out.1]; exact cntP_congr (fun j hj => (HH.out j hj).symm)
       obtain ⟨cn, hcn⟩ : ∃ cn, Maps.size D = cn := ⟨_, rfl⟩
       have HCN := Lib.hid hcn
       have hblk : blkS ls S = decide (cn < S.length) := by unfold blkS; rw [← hcnt, hcn]
       have hc7 : cn ≤ 7 := by rw [← hcn, hcnt]; exact cntP_le _
       have HBLK := Lib.hid hblk
       obtain ⟨A6, c6, hx6, hc6, hm6, _⟩ := own_rd HOS.out
       subst hx6
       rw [maxLen_eq] at hm6
       have HBW := Lib.hid (bel_then HB.out HBI.out)
       have HOB2 := Lib.hid (own_below HOB.out HBI.out)
       have hsB : w.heap.size ≤ wA.heap.size + 1 := by omega
       clear hcnt hcn hblk
       by_cases hlow : cn < S.length
       · have hlowz : (cn : Int) < (S.length : Int) := by omega
         rcases HBN.out with ⟨rfl, rfl⟩ | hne
         · have HF : Hid (bestS ls (s + 1 - 1) = S) := Lib.hid (by rw [Nat.add_sub_cancel, HSTEP.out, HS.out, HBS.out, if_pos ⟨by rw [HBLK.out]; exact decide_eq_true hlow, .inl rfl⟩])
           have hSn : S ≠ [] := fun e => by rw [e] at hlow; simp at hlow
           have HSN := Lib.hid hSn
           clear hSn
           go_wp2_with (at_len; refine wpList_len_own _ rfl _ 94 rfl 3 4 Try.underlying94 _ wA.heap.size n _ rfl HM.out ?_; rw [HCN.out])
           exact ⟨⟨s + 1, S, by omega, by omega, by go_num, by omega, HF, .inr HSN.out, Lib.hid (own_base HOS.out hsB), HBW⟩, by simp [intOf]; omega⟩
         · obtain ⟨g, capB, hxB, hgB1, hgB2, hgB3, hgB4⟩ := own_shape HOB2.out (List.length_pos_iff.2 hne)
           subst hxB
           have HNE := Lib.hid hne
           obtain ⟨ct, hct⟩ : ∃ ct, cmpT S B = ct := ⟨_, rfl⟩
           have hct1 := cmpT_01 S B
           rw [hct] at hct1
           have HCT := Lib.hid hct
           clear hne hct
           go_wp2_with (at_len; refine wpList_len_own _ rfl _ 94 rfl 3 4 Try.underlying94 _ wA.heap.size n _ rfl HM.out ?_; rw [HCN.out])
           refine (cmpInt_c _ _ _).mono ?_; rintro e w2 ⟨rfl, rfl⟩
           go_wp2_with fail
           refine (compare_c _ _ S B _ (rdi_own HOS.out) (rdi_own HOB2.out)).mono ?_; rintro e w2 ⟨rfl, rfl⟩
           go_wp2_with fail
           refine (cmpOr_c _ _ _ _ (by simp [go_sem]; rfl) (by simp [go_sem]; rfl)).mono ?_; rw [orI_two, HCT.out]; rintro e w2 ⟨rfl, rfl⟩
           by_cases hneg : ct < 0
           · have HF : Hid (bestS ls (s + 1 - 1) = S) := Lib.hid (by rw [Nat.add_sub_cancel, HSTEP.out, HS.out, HBS.out, if_pos ⟨by rw [HBLK.out]; exact decide_eq_true hlow, .inr (by rw [HCT.out]; exact hneg)⟩])
             have hSn : S ≠ [] := fun e => by rw [e] at hlow; simp at hlow
             have HSN := Lib.hid hSn
             clear hSn
             go_wp2
             exact ⟨⟨s + 1, S, by omega, by omega, by go_num, by omega, HF, .inr HSN.out, Lib.hid (own_base (HOS.out.alloc _) hsB), Lib.hid (bel_al HBW.out _)⟩, by simp [intOf]; omega⟩
           · have HF : Hid (bestS ls (s + 1 - 1) = B) := Lib.hid (by rw [Nat.add_sub_cancel, HSTEP.out, HS.out, HBS.out, if_neg (fun h => by
               rcases h.2 with h | h
               · exact HNE.out h
               · rw [HCT.out] at h; exact hneg h)])
             have hneg' : 0 ≤ ct := by omega
             go_wp2
             exact ⟨⟨s + 1, B, by omega, by omega, by go_num, by omega, HF, .inr HNE.out, Lib.hid (HOB2.out.alloc _), Lib.hid (bel_al HBW.out _)⟩, by simp [intOf]; omega⟩
       · have hlowz : (S.length : Int) ≤ (cn : Int) := by omega
         have HF : Hid (bestS ls (s + 1 - 1) = B) := Lib.hid (by rw [Nat.add_sub_cancel, HSTEP.out, HS.out, HBS.out, if_neg (fun h => by
           have h1 := h.1
           rw [HBLK.out] at h1
           exact hlow (of_decide_eq_true h1))])
         go_wp2_with (at_len; refine wpList_len_own _ rfl _ 94 rfl 3 4 Try.underlying94 _ wA.heap.size n _ rfl HM.out ?_; rw [HCN.out])
         exact ⟨⟨s + 1, B, by omega, by omega, by go_num, by omega, HF, HBN.out, HOB2, HBW⟩, by simp [intOf]; omega⟩
   · obtain rfl : s = pw := by omega
     have hfin : blockedR ls = B := by unfold blockedR; rw [HPW.out, HBS.out]
     rcases hBn with ⟨rfl, rfl⟩ | hne
     · have HF := Lib.hid hfin
       clear hfin
       go_wp2
       go_ret2
       rw [HF.out]
       exact ⟨_, rfl, HOB.out, HB.out⟩
     · obtain ⟨g, capB, hxB, hgB1, hgB2, hgB3, hgB4⟩ := own_shape HOB.out (List.length_pos_iff.2 hne)
       subst hxB
       have HF := Lib.hid hfin
       have HNE := Lib.hid hne
       clear hfin hne
       go_wp2
       go_ret2
       rw [HF.out, decide_eq_true HNE.out]
       exact ⟨_, rfl, HOB.out, HB.out⟩
end Go.Proofs.Ytgdigcnpjkkmfaa
