/-
  impl.blockedStations. spec.mvBlocked. BlockedStations on both sides (printed by gen_mv.py). FnMoves: the plain law: fillings, what blocks them, and how many movers there are. FnMoves: the plain law, joined: what the law asks of both sides' answers. (joined by pack.py: MvQ MvX MvY MvLaw MvLaw2)
-/
import Derived.Test.YtahehdgkbhjpoaaK13
import Derived.Lib.SliceRun
import Derived.Maps.OwnSet
import Derived.Maps.Views
import Derived.WalkArith
import Derived.Test.YtahehdgkbhjpoaaK11
import Derived.Test.YtahehdgkbhjpoaaK2
namespace Go.Proofs.Ytahehdgkbhjpoaa
set_option linter.unusedVariables false
set_option linter.unusedSimpArgs false
open Go.RowKit Go.Maps

theorem neq_slice_nil {P : Program} (w : World) (t e : TypeId) (a : Option Addr) (n c n' c' : Nat) (h : P.underlying t = some (.slice e)) :
    (binOp .neq t (.slice a n c) (.slice none n' c')).run P w = .ok (.bool (!a.isNone)) w := by
  simp only [binOp]
  simp [Op.equal, Op.maxDepth, Lib.run_equalIn_slice_nil w 9999 t e a n c n' c' h]
theorem dec_snoc (l : List Int) (x y : Int) : decide (x ∈ l ++ [y]) = (decide (x ∈ l) || decide (x = y)) := by
  by_cases h : x ∈ l <;> by_cases h2 : x = y <;> simp [h, h2]
theorem bestS_step {ls : List (List Int)} {s : Nat} (h : 1 ≤ s) : bestS ls s = if blkS ls (selI s.testBit ls.length) = true ∧ (bestS ls (s - 1) = [] ∨ cmpT (selI s.testBit ls.length) (bestS ls (s - 1)) < 0) then selI s.testBit ls.length else bestS ls (s - 1) := by
  obtain ⟨t, rfl⟩ : ∃ t, s = t + 1 := ⟨s - 1, by omega⟩
  rw [Nat.add_sub_cancel]; rfl
/-- A map's keys below 7 are P. -/
def MapP (D : DataW Unit) (P : Nat → Bool) : Prop := Maps.size D = cntP P ∧ ∀ j : Nat, j < 7 → Maps.has D (.int .i64 (j : Int)) = P j
theorem mapP_nil : MapP (.map []) noneP := by
  refine ⟨?_, fun j _ => ?_⟩
  · have : cntP noneP = 0 := by unfold cntP selI; simp [noneP]
    rw [this]; rfl
  · simp [Maps.has, noneP]
theorem mapP_congr {D : DataW Unit} {P Q : Nat → Bool} (h : MapP D P) (e : ∀ j, j < 7 → P j = Q j) : MapP D Q := ⟨by rw [h.1, cntP_congr e], fun j hj => by rw [h.2 j hj, e j hj]⟩
theorem mapP_put {D : DataW Unit} {P : Nat → Bool} {m : Nat} (h : MapP D P) (hD : IsMap D) (hT : Tidy D) (hm : m < 7) (d : DataW Unit) : MapP (D.put (.int .i64 (m : Int)) d) (updP P m) := by
  refine ⟨?_, fun j hj => ?_⟩
  · rw [size_put hT, h.2 m hm]
    cases hP : P m with
    | true => rw [if_pos rfl, h.1, cntP_yes hP]
    | false => rw [if_neg (by simp), h.1, cntP_no hP hm]
  · unfold updP
    by_cases e : j = m
    · subst e
      rw [has_put_same hD (show WideAt.IsKeyLit (.int .i64 (j : Int)) by simp [WideAt.IsKeyLit])]; simp
    · rw [has_put_other (fun h => by injection h with _ h; omega), h.2 j hj]; simp [e]

set_option maxRecDepth 100000 in
set_option maxHeartbeats 8000000 in
theorem blockedStations_c (v : Value) (ls : List (List Int)) (w : World) (ht : Tab ls) (hr : RdSS w v ls) :
    Calls Try.prog 94 #[v] w (OwnIB (blockedR ls, decide (blockedR ls ≠ [])) w) := by
  have heq := fun (W : World) (n c n' c' : Nat) (b : Nat) => Lib.run_eql_slice_nil (P := Try.prog) W 27 3 (some ⟨b, 0, none⟩) n c n' c' Try.underlying27
  have heq0 := fun (W : World) (n c n' c' : Nat) => Lib.run_eql_slice_nil (P := Try.prog) W 27 3 none n c n' c' Try.underlying27
  have hnq := fun (W : World) (n c n' c' : Nat) (b : Nat) => neq_slice_nil (P := Try.prog) W 27 3 (some ⟨b, 0, none⟩) n c n' c' Try.underlying27
  have hnq0 := fun (W : World) (n c n' c' : Nat) => neq_slice_nil (P := Try.prog) W 27 3 none n c n' c' Try.underlying27
  have hmm := @run_makeMap Try.prog
  have HT := Lib.hid ht
  have HR := Lib.hid hr
  obtain ⟨i0, hi, hz0, hz1, hz2⟩ := info_parts Try.infoInt
  obtain ⟨vs, hv⟩ := hr
  have hvl := hv.len
  have HV := Lib.hid hv
  have ht6 : ls.length ≤ 6 := ht.1
  obtain ⟨A, c, rfl, hc, hm, hcl⟩ := hv.outer
  rw [maxLen_eq] at hm
  have HCL := Lib.hid hcl
  obtain ⟨pw, hpw⟩ : ∃ pw : Nat, 2 ^ ls.length = pw := ⟨_, rfl⟩
  have hp1 : 1 ≤ pw := by rw [← hpw]; exact Nat.two_pow_pos _
  have hp7 : pw ≤ 64 := by rw [← hpw]; exact Nat.le_trans (Nat.pow_le_pow_right (by omega) ht6) (by decide)
  have eL : IntKind.i64.wrap ((2 : Int) ^ ls.length) = (pw : Int) := by
    have : (2 : Int) ^ ls.length = (pw : Int) := by rw [← hpw, Int.natCast_pow]; rfl
    rw [this, IntKind.wrap_i64]; omega
  have uL : IntKind.u64.wrap (ls.length : Int) = (ls.length : Int) := by rw [IntKind.wrap_u64]; omega
  have HPW := Lib.hid hpw
  clear hv hcl ht hpw
  go_enter Try.func94, Try.ntmps94
  go_wp2_with fail
  go_loopw [4, 5] (fun v4 v5 wr => ∃ (s : Nat) (B : List Int), 1 ≤ s ∧ s ≤ pw ∧ v5 = .int .i64 s ∧ B.length ≤ 6 ∧ Hid (bestS ls (s - 1) = B) ∧ (v4 = .slice none 0 0 ∧ B = [] ∨ B ≠ []) ∧ Hid (wr.ownsRow w.heap.size 3 1 v4 B.length (ints B)) ∧ Hid (Below w.heap.size w wr)) (fun _ v5 _ => pw - (intOf v5).toNat)
  case atStart => exact ⟨1, [], Nat.le_refl _, hp1, rfl, by simp, Lib.hid rfl, .inl ⟨rfl, rfl⟩, Lib.hid (show w.ownsRow w.heap.size 3 1 (.slice none 0 0) 0 [] from World.ownsRow_nil _ _ _ _), Lib.hid (Below.refl _ _)⟩
  case round =>
   obtain ⟨s, B, hs1, hsp, rfl, hB6, HBS, hBn, HOB, HB⟩ := hrel
   obtain ⟨wA, rfl⟩ : ∃ wA : World, wA = wr := ⟨_, rfl⟩
   have hsA := HB.out.size
   have s0 : (0 : Int) ≤ (s : Int) := by omega
   by_cases hlt : s < pw
   ·
    have HBN := Lib.hid hBn
    clear hBn
    go_wp2_with fail
    generalize hW : World.alloc wA _ = wM
    have hmap : Hid (wM.ownsMap Try.prog 3 (plainElem (H := Unit) Try.prog 4) wA.heap.size 0 (.map [])) := Lib.hid (by subst hW; exact World.ownsMap_made _ _ _ _)
    have hbm : Hid (Below wA.heap.size wA wM) := Lib.hid (by subst hW; exact bel_al (Below.refl _ _) _)
    have hzm : wA.heap.size < wM.heap.size := by subst hW; simp
    clear hW
    go_loopw [6, 22] (fun v6 v22 wr => ∃ (i n : Nat) (S : List Int) (P : Nat → Bool) (D : DataW Unit), i ≤ ls.length ∧ n ≤ 7 * i ∧ S.length ≤ i ∧ v22 = .int .i64 i ∧ Hid (selI s.testBit i = S) ∧ Hid (∀ j, j < 7 → hitL ls S j = P j) ∧ Hid (MapP D P) ∧ Hid (wr.ownsMap Try.prog 3 (plainElem (H := Unit) Try.prog 4) wA.heap.size n D) ∧ Hid (wr.ownsRow (wA.heap.size + 1) 3 1 v6 S.length (ints S)) ∧ Hid (Below wA.heap.size wA wr) ∧ wA.heap.size < wr.heap.size) (fun _ v22 _ => ls.length - (intOf v22).toNat)
    case atStart => exact ⟨0, 0, [], noneP, .map [], Nat.zero_le _, Nat.zero_le _, Nat.zero_le _, rfl, Lib.hid rfl, Lib.hid (fun j _ => rfl), Lib.hid mapP_nil, hmap, Lib.hid (show wM.ownsRow (wA.heap.size + 1) 3 1 (.slice none 0 0) 0 [] from World.ownsRow_nil _ _ _ _), hbm, hzm⟩
    case round =>
     obtain ⟨i, n, S, P, D, hi', hn, hSl, rfl, HS, HH, HMP, HM, HOS, HBI, hzI⟩ := hrel
     obtain ⟨wB, rfl⟩ : ∃ wB : World, wB = wr := ⟨_, rfl⟩
     by_cases hli : i < ls.length
     ·
      obtain ⟨l, hl⟩ : ∃ l, ls[i]? = some l := ⟨_, List.getElem?_eq_getElem hli⟩
      obtain ⟨hl7, hle⟩ := HT.out.2 l (List.mem_of_getElem? hl)
      have hgd : ls.getD i [] = l := by simp [List.getD_eq_getElem?_getD, hl]
      obtain ⟨u, hu⟩ : ∃ u, vs[i]? = some u := ⟨_, List.getElem?_eq_getElem (by omega)⟩
      obtain ⟨b, off, rfl, hbl, hcell⟩ := HCL.out (by omega)
      have c0 := cell_at hcell (bel_then HB.out HBI.out) hbl hu
      obtain ⟨A5, c5, rfl, hc5, hm5, hr5⟩ := HV.out.inner i u l hu hl
      rw [maxLen_eq] at hm5
      have HR5 := Lib.hid hr5
      have HLE := Lib.hid hle
      have HGD := Lib.hid hgd
      have k0 : (0 : Int) ≤ (i : Int) := by omega
      have k1 : (i : Int) < (ls.length : Int) := by omega
      have k3 : (i : Int) ≤ 64 := by omega
      have u1 : IntKind.u64.wrap (i : Int) = (i : Int) := by rw [IntKind.wrap_u64]; omega
      have hbit := bit_of s i (by omega)
      clear hcell hu hr5 hle hl hgd
      by_cases hT : s.testBit i = true
      · rw [if_pos hT] at hbit
        have HS2 : Hid (selI s.testBit (i + 1) = S ++ [(i : Int)]) := Lib.hid (by rw [selI_yes hT, HS.out])
        clear hT
        go_wp2_with (at_builtin; refine wpList_app_rd _ rfl _ _ 27 rfl (wA.heap.size + 1) 3 i0 (.int .i64 0) 1 8 Try.underlying27 hi hz0 hz1 hz2 rfl (by decide) _ _ _ rfl (HOS.out.alloc _) _ 1 [.int .i64 i] rfl (rd_new _ rfl (Nat.le_refl _) (by rw [maxLen_eq]; omega)) rfl (ints_one [(i : Int)]) (by rw [maxLen_eq]; omega) (by omega) (by simp; omega) ?_; intro v7 w7 hown7 hgrow7 he7)
        have HO7 : Hid (w7.ownsRow (wA.heap.size + 1) 3 1 v7 (S ++ [(i : Int)]).length (ints (S ++ [(i : Int)]))) := Lib.hid (by rw [ints_append, List.length_append]; exact hown7)
        have HM7 : Hid (w7.ownsMap Try.prog 3 (plainElem (H := Unit) Try.prog 4) wA.heap.size n D) := Lib.hid ((HM.out.alloc _).kept hgrow7 (fun e => by have := (HOS.out.lt _ e.symm).1; omega))
        have HB7 : Hid (Below wA.heap.size wA w7) := Lib.hid (bel_grown (bel_al HBI.out _) hgrow7 (fun q e => by have := (HOS.out.lt q e).1; omega))
        have hz7 : wA.heap.size < w7.heap.size := by have := hgrow7.size; simp at this; omega
        clear hown7 hgrow7 he7
        go_loopw [38] (fun v38 wr => ∃ (j n2 : Nat) (P2 : Nat → Bool) (D2 : DataW Unit), j ≤ l.length ∧ n2 ≤ 7 * i + j ∧ v38 = .int .i64 j ∧ Hid (∀ m, m < 7 → orP P (l.take j) m = P2 m) ∧ Hid (MapP D2 P2) ∧ Hid (wr.ownsMap Try.prog 3 (plainElem (H := Unit) Try.prog 4) wA.heap.size n2 D2) ∧ Hid (wr.ownsRow (wA.heap.size + 1) 3 1 v7 (S ++ [(i : Int)]).length (ints (S ++ [(i : Int)]))) ∧ Hid (Below wA.heap.size wA wr) ∧ wA.heap.size < wr.heap.size) (fun v38 _ => l.length - (intOf v38).toNat)
        case atStart => exact ⟨0, n, P, D, Nat.zero_le _, by omega, rfl, Lib.hid (fun m _ => by simp [orP]), HMP, HM7, HO7, HB7, hz7⟩
        case round =>
         obtain ⟨j, n2, P2, D2, hj, hn2, rfl, HP2, HMP2, HM2, HO2, HB2, hz2'⟩ := hrel
         obtain ⟨wC, rfl⟩ : ∃ wC : World, wC = wr := ⟨_, rfl⟩
         by_cases hjl : j < l.length
         ·
          obtain ⟨b5, off5, rfl, hbl5, hcell5⟩ := HR5.out (by omega)
          obtain ⟨x, hx⟩ : ∃ x, l[j]? = some x := ⟨_, List.getElem?_eq_getElem hjl⟩
          have d0 := cell_at hcell5 (bel_then HB.out HB2.out) hbl5 (ints_get hx)
          obtain ⟨xn, rfl, hx7⟩ := HLE.out x (List.mem_of_getElem? hx)
          have HP3 : Hid (∀ m, m < 7 → orP P (l.take (j + 1)) m = updP P2 xn m) := Lib.hid (fun m hm => by
            rw [take_succ_of hx]
            have h1 := HP2.out m hm
            unfold orP at h1 ⊢
            unfold updP
            rw [← h1, dec_snoc]
            have : decide ((m : Int) = (xn : Int)) = decide (m = xn) := by rw [decide_eq_decide]; omega
            rw [this, Bool.or_assoc])
          have HWF : Hid ((Lit.int .i64 (xn : Int)).wf = true) := Lib.hid (WalkArith.wf_i64 (by omega))
          have HMP3 := Lib.hid (mapP_put HMP2.out HM2.out.isMap (HM2.out.tidy (int_keyed Try.underlying3)) hx7 (.lit (.bool true)))
          clear hx hcell5
          go_wp2_with (at_mapUpdate; refine wpList_mapUpdate_own _ rfl _ _ _ 124 rfl 3 4 (int_keyed Try.underlying3) Try.underlying124 (plainElem (H := Unit) Try.prog 4) wA.heap.size n2 _ rfl HM2.out (by rw [maxLen_eq]; omega) _ _ _ rfl rfl (keyOf_int_mk Try.underlying3 HWF.out) _ [] (plainElem_bool Try.underlying4 true) ?_; intro w9 hown9 hgrow9)
          refine ⟨⟨j + 1, n2 + 1, updP P2 xn, _, by omega, by omega, by go_num, HP3, HMP3, Lib.hid hown9, Lib.hid (HO2.out.kept hgrow9 (by
            cases hb : Value.ownBlock _ with
            | none => exact .inl rfl
            | some q => exact .inr (fun e => by have h1 := (HO2.out.lt q hb).1; have h2 := Option.some.inj e; omega))), Lib.hid (HB2.out.grown hgrow9 HB2.out.size (fun q e => by cases e; exact Nat.le_refl _)), Nat.lt_of_lt_of_le hz2' hgrow9.size⟩, by simp [intOf]; omega⟩
         · obtain rfl : j = l.length := by omega
           go_wp2
           refine ⟨⟨i + 1, n2, S ++ [(i : Int)], P2, D2, by omega, by omega, by simp; omega, by go_num, HS2, Lib.hid (fun m hm => ?_), HMP2, HM2, HO2, HB2, hz2'⟩, by simp [intOf]; omega⟩
           rw [hitL_snoc, HGD.out]
           have h1 := HP2.out m hm
           rw [List.take_length] at h1
           unfold orP at h1 ⊢
           rw [HH.out m hm]; exact h1
      · have hT : s.testBit i = false := by simpa using hT
        rw [if_neg (by rw [hT]; simp)] at hbit
        have HS2 : Hid (selI s.testBit (i + 1) = S) := Lib.hid (by rw [selI_no hT, HS.out])
        clear hT
        go_wp2
        exact ⟨⟨i + 1, n, S, P, D, by omega, by omega, by omega, by go_num, HS2, HH, HMP, HM, HOS, HBI, hzI⟩, by simp [intOf]; omega⟩
     · obtain rfl : i = ls.length := by omega
       have HSTEP := Lib.hid (bestS_step (ls := ls) hs1)
       have hcnt : Maps.size D = cntP (hitL ls S) := by rw [HMP.out.1]; exact cntP_congr (fun j hj => (HH.out j hj).symm)
       obtain ⟨cn, hcn⟩ : ∃ cn, Maps.size D = cn := ⟨_, rfl⟩
       have HCN := Lib.hid hcn
       have hblk : blkS ls S = decide (cn < S.length) := by unfold blkS; rw [← hcnt, hcn]
       have hc7 : cn ≤ 7 := by rw [← hcn, hcnt]; exact cntP_le _
       have HBLK := Lib.hid hblk
       obtain ⟨A6, c6, hx6, hc6, hm6, _⟩ := own_rd HOS.out
       subst hx6
       rw [maxLen_eq] at hm6
       have HBW := Lib.hid (bel_then HB.out HBI.out)
       have HOB2 := Lib.hid (own_below HOB.out HBI.out)
       have hsB : w.heap.size ≤ wA.heap.size + 1 := by omega
       clear hcnt hcn hblk
       by_cases hlow : cn < S.length
       · have hlowz : (cn : Int) < (S.length : Int) := by omega
         rcases HBN.out with ⟨rfl, rfl⟩ | hne
         · have HF : Hid (bestS ls (s + 1 - 1) = S) := Lib.hid (by rw [Nat.add_sub_cancel, HSTEP.out, HS.out, HBS.out, if_pos ⟨by rw [HBLK.out]; exact decide_eq_true hlow, .inl rfl⟩])
           have hSn : S ≠ [] := fun e => by rw [e] at hlow; simp at hlow
           have HSN := Lib.hid hSn
           clear hSn
           go_wp2_with (at_len; refine wpList_len_own _ rfl _ 124 rfl 3 4 Try.underlying124 _ wA.heap.size n _ rfl HM.out ?_; rw [HCN.out])
           exact ⟨⟨s + 1, S, by omega, by omega, by go_num, by omega, HF, .inr HSN.out, Lib.hid (own_base HOS.out hsB), HBW⟩, by simp [intOf]; omega⟩
         · obtain ⟨g, capB, hxB, hgB1, hgB2, hgB3, hgB4⟩ := own_shape HOB2.out (List.length_pos_iff.2 hne)
           subst hxB
           have HNE := Lib.hid hne
           obtain ⟨ct, hct⟩ : ∃ ct, cmpT S B = ct := ⟨_, rfl⟩
           have hct1 := cmpT_01 S B
           rw [hct] at hct1
           have HCT := Lib.hid hct
           clear hne hct
           go_wp2_with (at_len; refine wpList_len_own _ rfl _ 124 rfl 3 4 Try.underlying124 _ wA.heap.size n _ rfl HM.out ?_; rw [HCN.out])
           refine (cmpInt_c _ _ _).mono ?_; rintro e w2 ⟨rfl, rfl⟩
           go_wp2_with fail
           refine (compare_c _ _ S B _ (rdi_own HOS.out) (rdi_own HOB2.out)).mono ?_; rintro e w2 ⟨rfl, rfl⟩
           go_wp2_with fail
           refine (cmpOr_c _ _ _ _ (by simp [go_sem]; rfl) (by simp [go_sem]; rfl)).mono ?_; rw [orI_two, HCT.out]; rintro e w2 ⟨rfl, rfl⟩
           by_cases hneg : ct < 0
           · have HF : Hid (bestS ls (s + 1 - 1) = S) := Lib.hid (by rw [Nat.add_sub_cancel, HSTEP.out, HS.out, HBS.out, if_pos ⟨by rw [HBLK.out]; exact decide_eq_true hlow, .inr (by rw [HCT.out]; exact hneg)⟩])
             have hSn : S ≠ [] := fun e => by rw [e] at hlow; simp at hlow
             have HSN := Lib.hid hSn
             clear hSn
             go_wp2
             exact ⟨⟨s + 1, S, by omega, by omega, by go_num, by omega, HF, .inr HSN.out, Lib.hid (own_base (HOS.out.alloc _) hsB), Lib.hid (bel_al HBW.out _)⟩, by simp [intOf]; omega⟩
           · have HF : Hid (bestS ls (s + 1 - 1) = B) := Lib.hid (by rw [Nat.add_sub_cancel, HSTEP.out, HS.out, HBS.out, if_neg (fun h => by
               rcases h.2 with h | h
               · exact HNE.out h
               · rw [HCT.out] at h; exact hneg h)])
             have hneg' : 0 ≤ ct := by omega
             go_wp2
             exact ⟨⟨s + 1, B, by omega, by omega, by go_num, by omega, HF, .inr HNE.out, Lib.hid (HOB2.out.alloc _), Lib.hid (bel_al HBW.out _)⟩, by simp [intOf]; omega⟩
       · have hlowz : (S.length : Int) ≤ (cn : Int) := by omega
         have HF : Hid (bestS ls (s + 1 - 1) = B) := Lib.hid (by rw [Nat.add_sub_cancel, HSTEP.out, HS.out, HBS.out, if_neg (fun h => by
           have h1 := h.1
           rw [HBLK.out] at h1
           exact hlow (of_decide_eq_true h1))])
         go_wp2_with (at_len; refine wpList_len_own _ rfl _ 124 rfl 3 4 Try.underlying124 _ wA.heap.size n _ rfl HM.out ?_; rw [HCN.out])
         exact ⟨⟨s + 1, B, by omega, by omega, by go_num, by omega, HF, HBN.out, HOB2, HBW⟩, by simp [intOf]; omega⟩
   · obtain rfl : s = pw := by omega
     have hfin : blockedR ls = B := by unfold blockedR; rw [HPW.out, HBS.out]
     rcases hBn with ⟨rfl, rfl⟩ | hne
     · have HF := Lib.hid hfin
       clear hfin
       go_wp2
       go_ret2
       rw [HF.out]
       exact ⟨_, rfl, HOB.out, HB.out⟩
     · obtain ⟨g, capB, hxB, hgB1, hgB2, hgB3, hgB4⟩ := own_shape HOB.out (List.length_pos_iff.2 hne)
       subst hxB
       have HF := Lib.hid hfin
       have HNE := Lib.hid hne
       clear hfin hne
       go_wp2
       go_ret2
       rw [HF.out, decide_eq_true HNE.out]
       exact ⟨_, rfl, HOB.out, HB.out⟩
end Go.Proofs.Ytahehdgkbhjpoaa

namespace Go.Proofs.Ytahehdgkbhjpoaa
set_option linter.unusedVariables false
set_option linter.unusedSimpArgs false
open Go.RowKit

/-- What mvBlocked gives: the set with its rest, in memory of the call's own, or nothing. -/
def BlkPost (base : Nat) (q : List Int) (o : Option (List Int)) (w : World) (e : Ending) (w' : World) : Prop :=
  Below w.heap.size w w' ∧ match o with
    | some T => ∃ v, e = .returned (.tuple #[v, .bool true]) ∧ w'.ownsRow base 3 1 v (q ++ T).length (ints (q ++ T))
    | none => ∃ v, e = .returned (.tuple #[v, .bool false])
theorem BlkPost.yes {base : Nat} {q T : List Int} {w w' : World} {e : Ending} (h : BlkPost base q (some T) w e w') : ∃ v, e = .returned (.tuple #[v, .bool true]) ∧ w'.ownsRow base 3 1 v (q ++ T).length (ints (q ++ T)) ∧ Below w.heap.size w w' := by
  obtain ⟨h1, v, h2, h3⟩ := h
  exact ⟨v, h2, h3, h1⟩
theorem BlkPost.no {base : Nat} {q : List Int} {w w' : World} {e : Ending} (h : BlkPost base q none w e w') : ∃ v, e = .returned (.tuple #[v, .bool false]) ∧ Below w.heap.size w w' := by
  obtain ⟨h1, v, h2⟩ := h
  exact ⟨v, h2, h1⟩
theorem blkG_yes {f : Nat → Option (List Int)} {k j : Nat} {T : List Int} (h : f k = some T) : blkG f k (j + 1) = some ((k : Int) :: T) := by simp only [blkG]; rw [h]
theorem blkG_no {f : Nat → Option (List Int)} {k j : Nat} (h : f k = none) : blkG f k (j + 1) = blkG f (k + 1) j := by simp only [blkG]; rw [h]
/-- An increasing list of movers. -/
def MovL (r : List Int) : Prop := r.Pairwise (· < ·) ∧ ∀ y ∈ r, ∃ i : Nat, y = (i : Int) ∧ i < 7
theorem movL_put {r : List Int} {x : Nat} (h : MovL r) (hx : x < 7) : MovL (putI r (x : Int)) :=
  ⟨putI_inc r _ h.1, fun y hy => by
    rcases (putI_mem r _ y).1 hy with rfl | hy
    · exact ⟨x, rfl, hx⟩
    · exact h.2 y hy⟩
theorem usedL_put {r l : List Int} {P : Nat → Bool} {j x : Nat} (h : UsedL r (orP P (l.take j))) (hx : l[j]? = some (x : Int)) : UsedL (putI r (x : Int)) (orP P (l.take (j + 1))) := fun i hi => by
  have h1 := h i hi
  unfold orP at h1 ⊢
  rw [take_succ_of hx, dec_snoc, ← Bool.or_assoc, ← h1]
  by_cases hm : (i : Int) ∈ r
  · rw [decide_eq_true ((putI_mem r _ _).2 (.inr hm)), decide_eq_true hm]; rfl
  · rw [decide_eq_false hm, Bool.false_or, decide_eq_decide, putI_mem]
    exact ⟨fun h => h.elim id (fun h => absurd h hm), .inl⟩
theorem movL_len {r : List Int} {P : Nat → Bool} (h : MovL r) (hU : UsedL r P) : r.length ≤ 7 := by
  rw [len_cnt h.1 h.2 hU]; exact cntP_le _

set_option maxRecDepth 100000 in
set_option maxHeartbeats 8000000 in
theorem mvBlocked_c (v : Value) (ls : List (List Int)) (ht : Tab ls) (N : Nat) (hN : N ≤ 6) : ∀ (n k : Nat) (u x : Value) (q r : List Int) (P : Nat → Bool) (base : Nat) (w : World), n + q.length = N → k ≤ ls.length → base ≤ w.heap.size →
    RdSS w v ls → w.ownsRow base 3 1 u q.length (ints q) → RdI w x r → UsedL r P → MovL r →
    Calls Try.prog 95 #[v, .int .i64 k, .int .i64 n, u, x] w (BlkPost base q (blkT ls N n k P) w) := by
  intro n
  induction n with
  | zero =>
    intro k u x q r P base w hn hk hb hr hu hx hU hM
    have hlen := len_cnt hM.1 hM.2 hU
    have HU := Lib.hid hu
    obtain ⟨A, c, rfl, hc, hm, _⟩ := hx
    obtain ⟨A2, c2, rfl, hc2, hm2, _⟩ := own_rd hu
    rw [maxLen_eq] at hm hm2
    have hqN : q.length = N := by omega
    by_cases h : cntP P < N
    · have HF : Hid (blkT ls N 0 k P = some []) := Lib.hid (by simp only [blkT]; rw [if_pos h])
      have hz : (r.length : Int) < (q.length : Int) := by omega
      clear hu hr hU hM hlen
      go_enter Try.func95, Try.ntmps95
      go_wp2
      go_ret2
      rw [HF.out]
      exact ⟨Below.refl _ _, _, congrArg (fun b => Ending.returned (.tuple #[_, .bool b])) (decide_eq_true (by omega)), by rw [List.append_nil]; exact HU.out⟩
    · have HF : Hid (blkT ls N 0 k P = none) := Lib.hid (by simp only [blkT]; rw [if_neg h])
      have hz : (q.length : Int) ≤ (r.length : Int) := by omega
      clear hu hr hU hM hlen
      go_enter Try.func95, Try.ntmps95
      go_wp2
      go_ret2
      rw [HF.out]
      exact ⟨Below.refl _ _, _, congrArg (fun b => Ending.returned (.tuple #[_, .bool b])) (decide_eq_false (by omega))⟩
  | succ n ih =>
    intro k u x q r P base w hn hk hb hr hu hx hU hM
    have HIH := Lib.hid ih
    have HT := Lib.hid ht
    have HR := Lib.hid hr
    have HU := Lib.hid hu
    have HX := Lib.hid hx
    have HUS := Lib.hid hU
    have HMV := Lib.hid hM
    have hr7 := movL_len hM hU
    obtain ⟨i0, hi, hz0, hz1, hz2⟩ := info_parts Try.infoInt
    obtain ⟨vs, hv⟩ := hr
    have hvl := hv.len
    have HV := Lib.hid hv
    have ht6 : ls.length ≤ 6 := ht.1
    obtain ⟨A, c, rfl, hc, hm, hcl⟩ := hv.outer
    rw [maxLen_eq] at hm
    have HCL := Lib.hid hcl
    have hq6 : q.length ≤ 6 := by omega
    have n1 : (1 : Int) ≤ ((n + 1 : Nat) : Int) := by omega
    have ne0 : (((n + 1 : Nat) : Int) == 0) = false := by rw [beq_eq_false_iff_ne]; omega
    obtain ⟨nn, hnn⟩ : ∃ nn : Int, ((n + 1 : Nat) : Int) = nn := ⟨_, rfl⟩
    have hnn2 : nn - 1 = (n : Int) := by omega
    have hnn6 : nn ≤ 6 := by omega
    rw [hnn] at n1 ne0 ⊢
    have HNN := Lib.hid hnn2
    clear hv hcl hu hx hU hM ih ht hnn hnn2
    go_enter Try.func95, Try.ntmps95
    go_wp2_with fail
    go_loopw [12] (fun v12 wr => ∃ i : Nat, i ≤ ls.length ∧ v12 = .int .i64 i ∧ Hid (blkG (fun i => blkT ls N n (i + 1) (orP P (ls.getD i []))) i (ls.length - i) = blkT ls N (n + 1) k P) ∧ Hid (Below w.heap.size w wr)) (fun v12 _ => ls.length - (intOf v12).toNat)
    case atStart => exact ⟨k, hk, rfl, Lib.hid rfl, Lib.hid (Below.refl _ _)⟩
    case round =>
     obtain ⟨i, hi', rfl, HG, HB⟩ := hrel
     obtain ⟨wA, rfl⟩ : ∃ wA : World, wA = wr := ⟨_, rfl⟩
     have hsA := HB.out.size
     by_cases hli : i < ls.length
     ·
      obtain ⟨l, hl⟩ : ∃ l, ls[i]? = some l := ⟨_, List.getElem?_eq_getElem hli⟩
      obtain ⟨hl7, hle⟩ := HT.out.2 l (List.mem_of_getElem? hl)
      have hgd : ls.getD i [] = l := by simp [List.getD_eq_getElem?_getD, hl]
      obtain ⟨z, hz⟩ : ∃ z, vs[i]? = some z := ⟨_, List.getElem?_eq_getElem (by omega)⟩
      obtain ⟨b, off, rfl, hbl, hcell⟩ := HCL.out (by omega)
      have c0 := cell_at hcell HB.out hbl hz
      have C0 := Lib.hid c0
      obtain ⟨A5, c5, rfl, hc5, hm5, hr5⟩ := HV.out.inner i z l hz hl
      rw [maxLen_eq] at hm5
      have HR5 := Lib.hid hr5
      have HLE := Lib.hid hle
      have HGD := Lib.hid hgd
      have k0 : (0 : Int) ≤ (i : Int) := by omega
      have k1 : (i : Int) < (ls.length : Int) := by omega
      have hG := HG.out
      rw [show ls.length - i = (ls.length - (i + 1)) + 1 by omega] at hG
      obtain ⟨o, ho⟩ : ∃ o, blkT ls N n (i + 1) (orP P l) = o := ⟨_, rfl⟩
      have hfi : (fun i => blkT ls N n (i + 1) (orP P (ls.getD i []))) i = o := by dsimp only; rw [hgd, ho]
      have HFI := Lib.hid hfi
      have HGG := Lib.hid hG
      have HOO := Lib.hid ho
      clear hcell hz hr5 hle hl hgd hG ho hfi c0
      go_wp2_with fail
      refine (l1Own_c _ r _ (rdi_below HX.out HB.out) (by omega)).mono ?_; rintro e w3 ⟨v3, rfl, ho3, hb3⟩
      have HX3 := Lib.hid (rdi_own ho3)
      have HB3 := Lib.hid (bel_then HB.out hb3)
      have c1 := (hb3.cell (p := ⟨b, off + i, none⟩) (Nat.lt_of_lt_of_le hbl hsA)).trans C0.out
      have hs3 := hb3.size
      clear ho3 hb3
      go_wp2_with fail
      go_loopw [13, 40] (fun v13 v40 wr => ∃ (j : Nat) (r2 : List Int), j ≤ l.length ∧ v40 = .int .i64 j ∧ Hid (UsedL r2 (orP P (l.take j))) ∧ Hid (MovL r2) ∧ Hid (RdI wr v13 r2) ∧ Hid (Below w.heap.size w wr)) (fun _ v40 _ => l.length - (intOf v40).toNat)
      case atStart => exact ⟨0, r, Nat.zero_le _, rfl, Lib.hid (fun m hm => by rw [HUS.out m hm]; simp [orP]), HMV, HX3, HB3⟩
      case round =>
       obtain ⟨j, r2, hj, rfl, HU2, HM2, HX2, HB2⟩ := hrel
       obtain ⟨wB, rfl⟩ : ∃ wB : World, wB = wr := ⟨_, rfl⟩
       have hr27 := movL_len HM2.out HU2.out
       have hsB := HB2.out.size
       by_cases hjl : j < l.length
       ·
        obtain ⟨b5, off5, rfl, hbl5, hcell5⟩ := HR5.out (by omega)
        obtain ⟨y, hy⟩ : ∃ y, l[j]? = some y := ⟨_, List.getElem?_eq_getElem hjl⟩
        have d0 := cell_at hcell5 HB2.out hbl5 (ints_get hy)
        obtain ⟨yn, rfl, hy7⟩ := HLE.out y (List.mem_of_getElem? hy)
        have HU3 := Lib.hid (usedL_put HU2.out hy)
        have HM3 := Lib.hid (movL_put HM2.out hy7)
        clear hy hcell5
        go_wp2_with fail
        refine (l1Put_c _ r2 (yn : Int) _ HX2.out (by omega)).mono ?_; rintro e w5 ⟨v5, rfl, hx5, hb5⟩
        have HX5 := Lib.hid hx5
        have HB5 := Lib.hid (bel_then HB2.out hb5)
        clear hx5 hb5
        go_wp2
        exact ⟨⟨j + 1, _, by omega, by go_num, HU3, HM3, HX5, HB5⟩, by simp [intOf]; omega⟩
       · obtain rfl : j = l.length := by omega
         have hU4 := HU2.out
         rw [List.take_length] at hU4
         have HU4 := Lib.hid hU4
         have s1 : IntKind.i64.wrap ((i : Int) + 1) = (i : Int) + 1 := IntWalk.i64_in _ (by omega)
         clear hU4
         go_wp2_with fail
         refine (l1Own_c _ q _ (rdi_own (own_below HU.out HB2.out)) (by omega)).mono ?_; rintro e w6 ⟨v6, rfl, ho6, hb6⟩
         have HO6 := Lib.hid (own_base (base' := base) ho6 (by omega))
         have HB6 := Lib.hid (bel_then HB2.out hb6)
         have HX6 := Lib.hid (rdi_below HX2.out hb6)
         have hs6 := hb6.size
         have hlo6 := ho6.lt
         have HLO6 := Lib.hid hlo6
         have HBB6 := Lib.hid hb6
         clear ho6 hb6 hlo6
         go_wp2_with (at_builtin; refine wpList_app_rd _ rfl _ _ 27 rfl base 3 i0 (.int .i64 0) 1 8 Try.underlying27 hi hz0 hz1 hz2 rfl (by decide) _ _ _ rfl (HO6.out.alloc _) _ 1 [.int .i64 i] rfl (rd_new _ rfl (Nat.le_refl _) (by rw [maxLen_eq]; omega)) rfl (ints_one [(i : Int)]) (by rw [maxLen_eq]; omega) (by omega) (by simp; omega) ?_; intro v7 w7 hown7 hgrow7 _)
         have HO7 : Hid (w7.ownsRow base 3 1 v7 (q ++ [(i : Int)]).length (ints (q ++ [(i : Int)]))) := Lib.hid (by rw [ints_append, List.length_append]; exact hown7)
         have hbB7 : Below wB.heap.size wB w7 := bel_grown (bel_al HBB6.out _) hgrow7 (fun q e => (HLO6.out q e).1)
         have HX7 := Lib.hid (rdi_below HX2.out hbB7)
         have HB7 := Lib.hid (bel_then HB2.out hbB7)
         have hs7 := hbB7.size
         have e1 : ((i + 1 : Nat) : Int) = (i : Int) + 1 := by omega
         have hcall := HIH.out (i + 1) v7 _ (q ++ [(i : Int)]) r2 (orP P l) base w7 (by simp; omega) (by omega) (by omega) (HR.out.below HB7.out) HO7.out HX7.out HU4.out HM2.out
         rw [HOO.out, e1, ← HNN.out] at hcall
         have HC := Lib.hid hcall
         clear hcall e1 hown7 hgrow7 hbB7
         refine HC.out.mono ?_; intro e w8 hp
         rcases o with _ | T
         · obtain ⟨v8, rfl, hb8⟩ := hp.no
           have HB8 := Lib.hid (bel_then HB7.out hb8)
           have HG2 : Hid (blkG (fun i => blkT ls N n (i + 1) (orP P (ls.getD i []))) (i + 1) (ls.length - (i + 1)) = blkT ls N (n + 1) k P) := Lib.hid (by rw [← HGG.out]; exact (blkG_no HFI.out).symm)
           clear hp hb8 s1
           go_wp2
           exact ⟨⟨i + 1, by omega, by go_num, HG2, HB8⟩, by simp [intOf]; omega⟩
         · obtain ⟨v8, rfl, ho8, hb8⟩ := hp.yes
           have HF : Hid (blkT ls N (n + 1) k P = some ((i : Int) :: T)) := Lib.hid (by rw [← HGG.out]; exact blkG_yes HFI.out)
           have HO8 := Lib.hid ho8
           have HB8 := Lib.hid (bel_then HB7.out hb8)
           clear hp ho8 hb8 s1
           go_wp2
           go_ret2
           rw [HF.out]
           refine ⟨HB8.out, _, rfl, ?_⟩
           have h := HO8.out
           rwa [List.append_assoc] at h
     · obtain rfl : i = ls.length := by omega
       have hG := HG.out
       rw [Nat.sub_self] at hG
       have HF : Hid (blkT ls N (n + 1) k P = none) := Lib.hid (by rw [← hG]; rfl)
       clear hG
       go_wp2
       go_ret2
       rw [HF.out]
       exact ⟨HB.out, _, rfl⟩
end Go.Proofs.Ytahehdgkbhjpoaa

namespace Go.Proofs.Ytahehdgkbhjpoaa
set_option linter.unusedVariables false
set_option linter.unusedSimpArgs false
open Go.RowKit

theorem blockedR_len (ls : List (List Int)) : (blockedR ls).length ≤ ls.length := by
  rcases Decidable.em (blockedR ls = []) with h0 | h0
  · rw [h0]; simp
  · obtain ⟨⟨s, _, _, hs⟩, _⟩ := (bestS_spec ls _).2 h0
    rw [show blockedR ls = _ from hs]; exact selI_len _ _
def blockedStationsV (n : Int) (l : List St) (p q : List Int) (a : Int) : List Int × Bool := if askM n l p q a = true then (blockedR (reachL n.toNat (arcs l) p q a), decide (blockedR (reachL n.toNat (arcs l) p q a) ≠ [])) else ([], false)
theorem blockedStationsV_len (n : Int) (l : List St) (p q : List Int) (a : Int) : (blockedStationsV n l p q a).1.length ≤ 1000000 := by
  unfold blockedStationsV
  split
  · rename_i h
    obtain ⟨hok, _⟩ := askM_true h
    obtain ⟨_, g2, g3, g4, g5⟩ := goodMv_true hok
    have := blockedR_len (reachL n.toNat (arcs l) p q a)
    rw [reachL_len] at this
    dsimp only
    omega
  · simp

set_option maxRecDepth 100000 in
set_option maxHeartbeats 4000000 in
theorem blockedStationsI_c (n : Int) (s : Value) (l : List St) (v : Value) (p : List Int) (u : Value) (q : List Int) (a : Int) (w : World) (hr : Rd w s l.length (l.flatMap St.cells)) (hp : RdI w v p) (hq : RdI w u q) :
    Calls Try.prog 42 #[.agg #[.int .i64 n, s], v, u, .int .i64 a] w (OwnIB (blockedStationsV n l p q a) w) := by
  have HR := Lib.hid hr
  have HQ := Lib.hid hq
  have HP := Lib.hid hp
  clear hr hp hq
  go_enter Try.func42, Try.ntmps42
  go_wp2_with fail
  generalize hW : World.alloc w _ = w0
  have t0 : w0.cell? ⟨w.heap.size, 0, none⟩ = some (.int .i64 n) := by subst hW; simp [go_sem]
  have t1 : w0.cell? ⟨w.heap.size, 1, none⟩ = some s := by subst hW; simp [go_sem]
  have hb0 : Below w.heap.size w w0 := by subst hW; exact bel_al (Below.refl _ _) _
  have z0 : w.heap.size < w0.heap.size := by subst hW; simp
  have HB := Lib.hid hb0
  clear hW hb0
  refine (moversFit_c n s l _ _ p q _ _ t0 t1 (rd_below HR.out HB.out) (rdi_below HP.out HB.out) (rdi_below HQ.out HB.out)).mono ?_; rintro e w1 ⟨rfl, hb1⟩
  have k0 := (hb1.cell (p := ⟨w.heap.size, 0, none⟩) z0).trans t0
  have k1 := (hb1.cell (p := ⟨w.heap.size, 1, none⟩) z0).trans t1
  have HB1 := Lib.hid (bel_then HB.out hb1)
  have hs1 := hb1.size
  clear t0 t1 hb1
  by_cases hok : goodMv n l p q = true
  · by_cases hlm : inB a 0 36000 = true
    · have hask : askM n l p q a = true := by unfold askM; rw [hok, hlm]; rfl
      have HASK := Lib.hid hask
      obtain ⟨g1, g2, g3, g4, g5⟩ := goodMv_true hok
      obtain ⟨m, rfl⟩ := nat_of (goodTown_true g1).1
      rw [hok]
      go_wp2_with fail
      refine (isLimit_c a _).mono ?_; rw [hlm]; rintro e w2 ⟨rfl, rfl⟩
      go_wp2_with fail
      refine (reachTable_c m s _ _ l p q a _ _ g1 g5 g2 g4 g3 k0 k1 (rd_below HR.out HB1.out) (rdi_below HP.out HB1.out) (rdi_below HQ.out HB1.out)).mono ?_; rintro e w3 ⟨v3, rfl, ho3, hb3⟩
      have HT : Hid (Tab (reachL m (arcs l) p q a)) := Lib.hid (reachL_tab g4 g3)
      have HO3 := Lib.hid ho3
      have HB3 := Lib.hid (bel_then HB1.out hb3)
      clear g1 g2 g5 hok hlm hask k0 k1 ho3 hb3
      have hlen := reachL_len m (arcs l) p q a
      obtain ⟨TB, hTB⟩ : ∃ TB, reachL m (arcs l) p q a = TB := ⟨_, rfl⟩
      rw [hTB] at hlen HT HO3
      have HTB := Lib.hid hTB
      have HLEN := Lib.hid hlen
      clear hlen hTB
      go_wp2_with fail
      obtain ⟨bb, hbb⟩ : ∃ bb, decide (blockedR TB ≠ []) = bb := ⟨_, rfl⟩
      have hc := blockedStations_c v3 TB w3 HT.out HO3.out.rd
      rw [hbb] at hc
      have HBB := Lib.hid hbb
      have HC := Lib.hid hc
      clear hbb hc
      refine HC.out.mono ?_; rintro e w4 ⟨v4, rfl, ho4, hb4⟩
      go_wp2
      go_ret2
      unfold blockedStationsV; rw [if_pos HASK.out, Int.toNat_natCast, HTB.out, HBB.out]
      exact ⟨_, rfl, own_base ho4 HB3.out.size, bel_then HB3.out hb4⟩
    · have hlm : inB a 0 36000 = false := by simpa using hlm
      have hask : ¬ (askM n l p q a = true) := by unfold askM; rw [hlm]; simp
      have HASK := Lib.hid hask
      rw [hok]
      go_wp2_with fail
      refine (isLimit_c a _).mono ?_; rw [hlm]; rintro e w2 ⟨rfl, rfl⟩
      go_wp2
      go_ret2
      unfold blockedStationsV; rw [if_neg HASK.out]
      exact ⟨_, rfl, World.ownsRow_nil _ _ _ _, HB1.out⟩
  · have hok : goodMv n l p q = false := by simpa using hok
    have hask : ¬ (askM n l p q a = true) := by unfold askM; rw [hok]; simp
    have HASK := Lib.hid hask
    rw [hok]
    go_wp2
    go_ret2
    unfold blockedStationsV; rw [if_neg HASK.out]
    exact ⟨_, rfl, World.ownsRow_nil _ _ _ _, HB1.out⟩

set_option maxRecDepth 100000 in
set_option maxHeartbeats 4000000 in
theorem blockedStationsS_c (n : Int) (s : Value) (l : List St) (v : Value) (p : List Int) (u : Value) (q : List Int) (a : Int) (w : World) (hr : Rd w s l.length (l.flatMap St.cells)) (hp : RdI w v p) (hq : RdI w u q) :
    Calls Try.prog 43 #[.agg #[.int .i64 n, s], v, u, .int .i64 a] w (OwnIB (blockedStationsV n l p q a) w) := by
  have HR := Lib.hid hr
  have HQ := Lib.hid hq
  have HP := Lib.hid hp
  obtain ⟨Au, cu, rfl, hcu, hmu, _⟩ := hq
  rw [maxLen_eq] at hmu
  clear hr hp
  go_enter Try.func43, Try.ntmps43
  go_wp2_with fail
  generalize hW : World.alloc w _ = w0
  have t0 : w0.cell? ⟨w.heap.size, 0, none⟩ = some (.int .i64 n) := by subst hW; simp [go_sem]
  have t1 : w0.cell? ⟨w.heap.size, 1, none⟩ = some s := by subst hW; simp [go_sem]
  have hb0 : Below w.heap.size w w0 := by subst hW; exact bel_al (Below.refl _ _) _
  have z0 : w.heap.size < w0.heap.size := by subst hW; simp
  have HB := Lib.hid hb0
  clear hW hb0
  go_wp2_with fail
  refine (reachTableS_c n s l _ p _ q a _ (rd_below HR.out HB.out) (rdi_below HP.out HB.out) (rdi_below HQ.out HB.out)).mono ?_; rintro e w3 ⟨v3, rfl, ho3, hb3⟩
  by_cases hask : askM n l p q a = true
  · have HASK := Lib.hid hask
    obtain ⟨hok, hlm⟩ := askM_true hask
    obtain ⟨g1, g2, g3, g4, g5⟩ := goodMv_true hok
    obtain ⟨m, rfl⟩ := nat_of (goodTown_true g1).1
    have hf : reachTableV (m : Int) l p q a = (reachL m (arcs l) p q a, true) := by unfold reachTableV; rw [if_pos hask]; rfl
    rw [hf] at ho3 ⊢
    dsimp only at ho3 ⊢
    have HT : Hid (Tab (reachL m (arcs l) p q a)) := Lib.hid (reachL_tab g4 g3)
    have HO3 := Lib.hid ho3
    have HB3 := Lib.hid (bel_then HB.out hb3)
    clear g1 g2 g5 hok hlm hask hf t0 t1 ho3 hb3
    have hlen := reachL_len m (arcs l) p q a
    obtain ⟨TB, hTB⟩ : ∃ TB, reachL m (arcs l) p q a = TB := ⟨_, rfl⟩
    rw [hTB] at hlen HT HO3
    have HTB := Lib.hid hTB
    have HLEN := Lib.hid hlen
    clear hlen hTB
    go_wp2_with fail
    have hg3 : q.length ≤ 6 := by have := HT.out.1; have := HLEN.out; omega
    go_loopw [12] (fun v12 wr => ∃ N : Nat, 1 ≤ N ∧ N ≤ q.length + 1 ∧ v12 = .int .i64 N ∧ Hid (blkN TB N (q.length + 1 - N) = blkN TB 1 q.length) ∧ Hid (Below w3.heap.size w3 wr)) (fun v12 _ => q.length + 1 - (intOf v12).toNat)
    case atStart => exact ⟨1, Nat.le_refl _, by omega, rfl, Lib.hid (by rw [Nat.add_sub_cancel]), Lib.hid (Below.refl _ _)⟩
    case round =>
      obtain ⟨N, hN1, hNq, rfl, HG, HBI⟩ := hrel
      obtain ⟨wA, rfl⟩ : ∃ wA : World, wA = wr := ⟨_, rfl⟩
      have n0 : (0 : Int) ≤ (N : Int) := by omega
      have hsA := HBI.out.size
      by_cases hlt : N ≤ q.length
      · have hG := HG.out
        rw [show q.length + 1 - N = (q.length + 1 - (N + 1)) + 1 by omega] at hG
        obtain ⟨o, ho⟩ : ∃ o, blkT TB N N 0 noneP = o := ⟨_, rfl⟩
        have hcall := mvBlocked_c _ TB HT.out N (by omega) N 0 (.slice none 0 0) (.slice none 0 0) [] [] noneP wA.heap.size wA (by simp) (Nat.zero_le _) (Nat.le_refl _) (HO3.out.rd.below HBI.out) (show wA.ownsRow wA.heap.size 3 1 (.slice none 0 0) 0 [] from World.ownsRow_nil _ _ _ _) (rdi_nil _) usedL_nil ⟨List.Pairwise.nil, fun y hy => by simp at hy⟩
        rw [ho] at hcall
        have HC := Lib.hid hcall
        have HGG := Lib.hid hG
        have HO := Lib.hid ho
        have hltz : (N : Int) ≤ (q.length : Int) := by omega
        clear hcall hG ho
        go_wp2_with fail
        refine HC.out.mono ?_; intro e w8 hp
        rcases o with _ | T
        · obtain ⟨v8, rfl, hb8⟩ := hp.no
          have HG2 : Hid (blkN TB (N + 1) (q.length + 1 - (N + 1)) = blkN TB 1 q.length) := Lib.hid (by
            rw [← HGG.out]; simp only [blkN]; rw [HO.out])
          have HB8 := Lib.hid (bel_then HBI.out hb8)
          clear hp hb8
          go_wp2
          exact ⟨⟨N + 1, by omega, by omega, by go_num, HG2, HB8⟩, by simp [intOf]; omega⟩
        · obtain ⟨v8, rfl, ho8, hb8⟩ := hp.yes
          have hF : blkN TB 1 TB.length = some T := by
            rw [HLEN.out, ← HGG.out]; simp only [blkN]; rw [HO.out]
          obtain ⟨hr1, hr2⟩ := blocked_some hF
          have HR1 := Lib.hid hr1
          have HR2 := Lib.hid hr2
          have HO8 := Lib.hid ho8
          have HB8 := Lib.hid (bel_then HBI.out hb8)
          have hs8 := HB3.out.size
          clear hp ho8 hb8 hF hr1 hr2
          go_wp2
          go_ret2
          unfold blockedStationsV; rw [if_pos HASK.out, Int.toNat_natCast, HTB.out, HR1.out, decide_eq_true HR2.out]
          exact ⟨_, rfl, own_base HO8.out (by omega), bel_then HB3.out HB8.out⟩
      · obtain rfl : N = q.length + 1 := by omega
        have hG := HG.out
        rw [Nat.sub_self] at hG
        have hF : blkN TB 1 TB.length = none := by rw [HLEN.out, ← hG]; rfl
        have HR1 := Lib.hid (blocked_none hF)
        have hltz : (q.length : Int) < ((q.length + 1 : Nat) : Int) := by omega
        clear hG hF
        go_wp2
        go_ret2
        unfold blockedStationsV; rw [if_pos HASK.out, Int.toNat_natCast, HTB.out, HR1.out]
        exact ⟨_, rfl, World.ownsRow_nil _ _ _ _, bel_then HB3.out HBI.out⟩
  · have HASK := Lib.hid hask
    have hf : reachTableV n l p q a = ([], false) := by unfold reachTableV; rw [if_neg hask]
    have HB1 := Lib.hid (bel_then HB.out hb3)
    rw [hf]
    clear ho3 hb3 hask hf t0 t1
    go_wp2
    go_ret2
    unfold blockedStationsV; rw [if_neg HASK.out]
    exact ⟨_, rfl, World.ownsRow_nil _ _ _ _, HB1.out⟩
end Go.Proofs.Ytahehdgkbhjpoaa

namespace Go.Proofs.Ytahehdgkbhjpoaa
set_option linter.unusedVariables false
set_option linter.unusedSimpArgs false
open Go.RowKit

/-- How many stations have a mover. -/
def cntR (r : List Int) : Nat := (r.filter fun x => decide (0 ≤ x)).length
theorem cntR_cons (x : Int) (r : List Int) : cntR (x :: r) = (if 0 ≤ x then 1 else 0) + cntR r := by
  unfold cntR
  by_cases h : 0 ≤ x <;> simp [h] <;> omega
def asgB : List (List Int) → (Nat → Bool) → List Int → Bool
  | [], _, [] => true
  | [], _, _ :: _ => false
  | _ :: _, _, [] => false
  | l :: ls, P, x :: r => if x < 0 then asgB ls P r else decide (x ∈ l) && !(P x.toNat) && asgB ls (updP P x.toNat) r
theorem step_ge (ls : List (List Int)) (P : Nat → Bool) : ∀ (l : List Int) (b : Nat), b ≤ l.foldl (stepR ls P) b := by
  intro l
  induction l with
  | nil => intro b; exact Nat.le_refl _
  | cons x l ih =>
    intro b
    refine Nat.le_trans ?_ (ih _)
    unfold stepR
    split <;> omega
theorem step_mem {ls : List (List Int)} {P : Nat → Bool} {x : Int} (hP : P x.toNat = false) : ∀ {l : List Int} (b : Nat), x ∈ l → 1 + mostR ls (updP P x.toNat) ≤ l.foldl (stepR ls P) b := by
  intro l
  induction l with
  | nil => intro b h; cases h
  | cons y l ih =>
    intro b h
    rcases List.mem_cons.1 h with rfl | h
    · refine Nat.le_trans ?_ (step_ge ls P l _)
      unfold stepR
      rw [hP]; simp; omega
    · exact ih _ h
theorem step_or (ls : List (List Int)) (P : Nat → Bool) : ∀ (l : List Int) (b : Nat), l.foldl (stepR ls P) b = b ∨ ∃ x ∈ l, P x.toNat = false ∧ l.foldl (stepR ls P) b = 1 + mostR ls (updP P x.toNat) := by
  intro l
  induction l with
  | nil => intro b; exact .inl rfl
  | cons y l ih =>
    intro b
    rcases ih (stepR ls P b y) with h | ⟨x, hx, h1, h2⟩
    · rw [List.foldl_cons, h]
      unfold stepR
      cases hP : P y.toNat with
      | true => exact .inl (by simp)
      | false =>
        simp only [Bool.false_eq_true, if_false]
        rcases Nat.le_total b (1 + mostR ls (updP P y.toNat)) with h3 | h3
        · exact .inr ⟨y, by simp, hP, by omega⟩
        · exact .inl (by omega)
    · exact .inr ⟨x, List.mem_cons_of_mem _ hx, h1, h2⟩
theorem asg_le : ∀ (ls : List (List Int)) (P : Nat → Bool) (r : List Int), asgB ls P r = true → cntR r ≤ mostR ls P := by
  intro ls
  induction ls with
  | nil =>
    intro P r h
    cases r with
    | nil => simp [cntR]
    | cons x r => simp [asgB] at h
  | cons l ls ih =>
    intro P r h
    cases r with
    | nil => simp [asgB] at h
    | cons x r =>
      rw [mostR_cons, cntR_cons]
      unfold asgB at h
      by_cases hx : x < 0
      · rw [if_pos hx] at h
        rw [if_neg (by omega)]
        have := ih P r h
        have := step_ge ls P l (mostR ls P)
        omega
      · rw [if_neg hx] at h
        simp only [Bool.and_eq_true, decide_eq_true_eq, Bool.not_eq_true'] at h
        rw [if_pos (by omega)]
        have h1 := ih _ r h.2
        have h2 := step_mem (ls := ls) h.1.2 (mostR ls P) h.1.1
        omega
theorem choose_yes {rest : List (List Int)} {P : Nat → Bool} {left : Nat} : ∀ {l : List Int}, 0 ≤ chooseR rest P left l → chooseR rest P left l ∈ l ∧ mayP rest P left (chooseR rest P left l) = true := by
  intro l
  induction l with
  | nil => intro h; simp [chooseR] at h
  | cons x l ih =>
    intro h
    simp only [chooseR] at h ⊢
    by_cases hm : mayP rest P left x = true
    · rw [if_pos hm]; exact ⟨by simp, hm⟩
    · rw [if_neg hm] at h ⊢
      exact ⟨List.mem_cons_of_mem _ (ih h).1, (ih h).2⟩
theorem fill_asg : ∀ (ls : List (List Int)) (P : Nat → Bool) (left : Nat), (∀ l ∈ ls, ∀ x ∈ l, 0 ≤ x) → left = mostR ls P → asgB ls P (fillR ls P left) = true ∧ cntR (fillR ls P left) = left := by
  intro ls
  induction ls with
  | nil => intro P left _ h; subst h; exact ⟨rfl, rfl⟩
  | cons l ls ih =>
    intro P left hp h
    have hl := hp l (by simp)
    have hls : ∀ l ∈ ls, ∀ x ∈ l, 0 ≤ x := fun l' h' => hp l' (List.mem_cons_of_mem _ h')
    unfold fillR
    by_cases hc : chooseR ls P left l < 0
    · rw [if_pos hc]
      have hno := choose_neg hl hc
      have hm : left = mostR ls P := by
        rw [mostR_cons] at h
        rcases step_or ls P l (mostR ls P) with h1 | ⟨x, hx, h1, h2⟩
        · rw [h1] at h; exact h
        · have := hno x hx
          unfold mayP at this
          rw [h1] at this
          simp at this
          omega
      obtain ⟨i1, i2⟩ := ih P left hls hm
      unfold asgB
      rw [if_pos (by omega), cntR_cons, if_neg (by omega), i2]
      exact ⟨i1, by omega⟩
    · rw [if_neg hc]
      obtain ⟨c1, c2⟩ := choose_yes (rest := ls) (P := P) (left := left) (l := l) (by omega)
      obtain ⟨x, hx⟩ : ∃ x, chooseR ls P left l = x := ⟨_, rfl⟩
      rw [hx] at hc c1 c2 ⊢
      unfold mayP at c2
      simp only [Bool.and_eq_true, decide_eq_true_eq, Bool.not_eq_true'] at c2
      obtain ⟨i1, i2⟩ := ih (updP P x.toNat) (left - 1) hls (by omega)
      unfold asgB
      rw [if_neg hc, cntR_cons, if_pos (by omega), i2, i1]
      exact ⟨by simp [c1, c2.1], by omega⟩
/-- The same, place by place. -/
def PtR (ls : List (List Int)) (P : Nat → Bool) (r : List Int) : Prop := r.length = ls.length ∧ ∀ k x, r[k]? = some x → x < 0 ∨ (x ∈ ls.getD k [] ∧ P x.toNat = false ∧ x ∉ r.take k)
theorem pt_asg : ∀ (ls : List (List Int)) (P : Nat → Bool) (r : List Int), PtR ls P r ↔ asgB ls P r = true := by
  intro ls
  induction ls with
  | nil =>
    intro P r
    cases r with
    | nil => exact ⟨fun _ => rfl, fun _ => ⟨rfl, fun k x h => by simp at h⟩⟩
    | cons x r => exact ⟨fun h => by have := h.1; simp at this, fun h => by simp [asgB] at h⟩
  | cons l ls ih =>
    intro P r
    cases r with
    | nil => exact ⟨fun h => by have := h.1; simp at this, fun h => by simp [asgB] at h⟩
    | cons x r =>
      unfold asgB
      by_cases hx : x < 0
      · rw [if_pos hx, ← ih P r]
        constructor
        · rintro ⟨h1, h2⟩
          refine ⟨by simpa using h1, fun k y hy => ?_⟩
          rcases h2 (k + 1) y (by simpa using hy) with h3 | ⟨h3, h4, h5⟩
          · exact .inl h3
          · exact .inr ⟨by simpa using h3, h4, fun h6 => h5 (by simp [h6])⟩
        · rintro ⟨h1, h2⟩
          refine ⟨by simpa using h1, fun k y hy => ?_⟩
          cases k with
          | zero => simp at hy; omega
          | succ k =>
            rcases h2 k y (by simpa using hy) with h3 | ⟨h3, h4, h5⟩
            · exact .inl h3
            · by_cases h0 : y < 0
              · exact .inl h0
              · refine .inr ⟨by simpa using h3, h4, ?_⟩
                simp only [List.take_succ_cons, List.mem_cons, not_or]
                exact ⟨fun e => by omega, h5⟩
      · rw [if_neg hx, Bool.and_eq_true, Bool.and_eq_true, decide_eq_true_eq, Bool.not_eq_true', ← ih _ r]
        constructor
        · rintro ⟨h1, h2⟩
          have h0 := h2 0 x (by simp)
          rcases h0 with h0 | ⟨h0, h0', _⟩
          · exact absurd h0 hx
          refine ⟨⟨by simpa using h0, h0'⟩, by simpa using h1, fun k y hy => ?_⟩
          rcases h2 (k + 1) y (by simpa using hy) with h3 | ⟨h3, h4, h5⟩
          · exact .inl h3
          · simp only [List.take_succ_cons, List.mem_cons, not_or] at h5
            by_cases hy0 : y < 0
            · exact .inl hy0
            · refine .inr ⟨by simpa using h3, ?_, h5.2⟩
              unfold updP
              rw [h4]
              have : y.toNat ≠ x.toNat := fun e => h5.1 (by omega)
              simp [this]
        · rintro ⟨⟨g1, g2⟩, h1, h2⟩
          refine ⟨by simpa using h1, fun k y hy => ?_⟩
          cases k with
          | zero =>
            simp at hy
            subst hy
            exact .inr ⟨by simpa using g1, g2, by simp⟩
          | succ k =>
            rcases h2 k y (by simpa using hy) with h3 | ⟨h3, h4, h5⟩
            · exact .inl h3
            · unfold updP at h4
              simp only [Bool.or_eq_false_iff, decide_eq_false_iff_not] at h4
              refine .inr ⟨by simpa using h3, h4.1, ?_⟩
              simp only [List.take_succ_cons, List.mem_cons, not_or]
              exact ⟨fun e => h4.2 (by rw [e]), h5⟩
theorem pt_good {ls : List (List Int)} {r : List Int} {f : Nat} (hb : ∀ l ∈ ls, ∀ x ∈ l, 0 ≤ x ∧ x < (f : Int)) (hm : ∀ x ∈ r, -1 ≤ x) (h : PtR ls noneP r) : goodOn f ls.length r = true ∧ fillW ls r = true := by
  obtain ⟨h1, h2⟩ := h
  unfold goodOn fillW
  rw [Bool.and_eq_true, decide_eq_true_eq, List.all_eq_true, List.all_eq_true]
  refine ⟨⟨h1, fun k hk => ?_⟩, fun k hk => ?_⟩
  · rw [List.mem_range] at hk
    have hg := List.getElem?_eq_getElem hk
    obtain ⟨x, hx⟩ : ∃ x, r[k] = x := ⟨_, rfl⟩
    rw [hx] at hg
    have hmx := hm x (List.mem_of_getElem? hg)
    unfold onceAt
    rw [hg]
    simp only [Bool.and_eq_true, Bool.or_eq_true, decide_eq_true_eq, Bool.not_eq_true', decide_eq_false_iff_not]
    rcases h2 k x hg with h3 | ⟨h3, h4, h5⟩
    · exact ⟨by unfold inB; simp; omega, .inl h3⟩
    · rw [List.getD, List.getElem?_eq_getElem (by omega)] at h3
      have := hb _ (List.getElem_mem (by omega : k < ls.length)) x (by simpa using h3)
      exact ⟨by unfold inB; simp; omega, .inr h5⟩
  · rw [List.mem_range] at hk
    have hg := List.getElem?_eq_getElem hk
    unfold fillAt
    rw [show r.getD k 0 = r[k] by simp [List.getD, hg], Bool.or_eq_true, decide_eq_true_eq, decide_eq_true_eq]
    rcases h2 k _ hg with h3 | ⟨h3, _, _⟩
    · exact .inl h3
    · exact .inr h3
theorem good_pt {ls : List (List Int)} {r : List Int} {f : Nat} (h : goodOn f ls.length r = true) (hf : fillW ls r = true) : PtR ls noneP r := by
  unfold goodOn at h
  unfold fillW at hf
  rw [Bool.and_eq_true, decide_eq_true_eq, List.all_eq_true] at h
  rw [List.all_eq_true] at hf
  refine ⟨h.1, fun k x hg => ?_⟩
  have hk := (List.getElem?_eq_some_iff.1 hg).1
  have h1 := h.2 k (List.mem_range.2 hk)
  have h2 := hf k (List.mem_range.2 hk)
  unfold onceAt at h1
  unfold fillAt at h2
  rw [hg] at h1
  rw [show r.getD k 0 = x by simp [List.getD, hg], Bool.or_eq_true, decide_eq_true_eq, decide_eq_true_eq] at h2
  simp only [Bool.and_eq_true, Bool.or_eq_true, decide_eq_true_eq, Bool.not_eq_true', decide_eq_false_iff_not] at h1
  by_cases hx : x < 0
  · exact .inl hx
  · refine .inr ⟨h2.resolve_left hx, rfl, h1.2.resolve_left hx⟩
theorem fillR_ge : ∀ (ls : List (List Int)) (P : Nat → Bool) (left : Nat), ∀ x ∈ fillR ls P left, -1 ≤ x := by
  intro ls
  induction ls with
  | nil => intro P left x h; simp [fillR] at h
  | cons l ls ih =>
    intro P left x h
    unfold fillR at h
    split at h
    · rcases List.mem_cons.1 h with rfl | h
      · omega
      · exact ih _ _ x h
    · rcases List.mem_cons.1 h with rfl | h
      · omega
      · exact ih _ _ x h
theorem cntR_len {r : List Int} (h : ∀ x ∈ r, 0 ≤ x) : cntR r = r.length := by
  unfold cntR
  rw [List.filter_eq_self.2 (fun x hx => decide_eq_true (h x hx))]
theorem cntR_full : ∀ {r : List Int}, r.length ≤ cntR r → ∀ x ∈ r, 0 ≤ x := by
  intro r
  induction r with
  | nil => intro _ x h; cases h
  | cons y r ih =>
    intro h x hx
    rw [cntR_cons, List.length_cons] at h
    have : cntR r ≤ r.length := List.length_filter_le _ _
    by_cases hy : 0 ≤ y
    · rw [if_pos hy] at h
      rcases List.mem_cons.1 hx with rfl | hx
      · exact hy
      · exact ih (by omega) x hx
    · rw [if_neg hy] at h; omega

/-- The table as a relation. -/
def relB (ls : List (List Int)) (i m : Nat) : Bool := decide ((m : Int) ∈ ls.getD i [])
def Mov7 (ls : List (List Int)) : Prop := ∀ l ∈ ls, ∀ x ∈ l, 0 ≤ x ∧ x < 7
theorem full_sdr {ls : List (List Int)} (hb : Mov7 ls) (h : mostR ls noneP = ls.length) : ∃ f : Nat → Nat, (∀ i, i < ls.length → f i < 7 ∧ relB ls i (f i) = true) ∧ ∀ i j, i < ls.length → j < ls.length → f i = f j → i = j := by
  obtain ⟨h1, h2⟩ := fill_asg ls noneP _ (fun l hl x hx => (hb l hl x hx).1) rfl
  obtain ⟨r, hr⟩ : ∃ r, fillR ls noneP (mostR ls noneP) = r := ⟨_, rfl⟩
  rw [hr] at h1 h2
  obtain ⟨p1, p2⟩ := (pt_asg ls noneP r).2 h1
  have hpos := cntR_full (r := r) (by omega)
  have at_ : ∀ i, i < ls.length → ∃ x, r[i]? = some x ∧ 0 ≤ x ∧ x ∈ ls.getD i [] ∧ x ∉ r.take i := by
    intro i hi
    have hg := List.getElem?_eq_getElem (show i < r.length by omega)
    refine ⟨r[i], hg, hpos _ (List.mem_of_getElem? hg), ?_⟩
    rcases p2 i _ hg with h3 | ⟨h3, _, h5⟩
    · have := hpos _ (List.mem_of_getElem? hg); omega
    · exact ⟨h3, h5⟩
  refine ⟨fun i => (r.getD i 0).toNat, fun i hi => ?_, ?_⟩
  · obtain ⟨x, hg, hx, hm, _⟩ := at_ i hi
    have e : r.getD i 0 = x := by simp [List.getD, hg]
    have hrow : ls.getD i [] ∈ ls := by rw [List.getD, List.getElem?_eq_getElem hi]; exact List.getElem_mem hi
    have := hb _ hrow x hm
    simp only [e]
    refine ⟨by omega, ?_⟩
    unfold relB
    rw [show ((x.toNat : Nat) : Int) = x by omega]
    exact decide_eq_true hm
  · have key : ∀ i j, i < j → j < ls.length → (r.getD i 0).toNat ≠ (r.getD j 0).toNat := by
      intro i j hij hj e
      obtain ⟨x, hg, hx, _, _⟩ := at_ i (by omega)
      obtain ⟨y, hg', hy, _, hn⟩ := at_ j hj
      rw [show r.getD i 0 = x by simp [List.getD, hg], show r.getD j 0 = y by simp [List.getD, hg']] at e
      have : x = y := by omega
      subst this
      refine hn (List.mem_of_getElem? (i := i) ?_)
      rw [List.getElem?_take, if_pos hij]; exact hg
    intro i j hi hj e
    rcases Nat.lt_trichotomy i j with h3 | h3 | h3
    · exact absurd e (key i j h3 hj)
    · exact h3
    · exact absurd e.symm (key j i h3 hi)
theorem sdr_full {ls : List (List Int)} {f : Nat → Nat} (f1 : ∀ i, i < ls.length → f i < 7 ∧ relB ls i (f i) = true) (f2 : ∀ i j, i < ls.length → j < ls.length → f i = f j → i = j) : mostR ls noneP = ls.length := by
  have hlen : ((List.range ls.length).map fun i => (f i : Int)).length = ls.length := by simp
  have hpt : PtR ls noneP ((List.range ls.length).map fun i => (f i : Int)) := by
    refine ⟨hlen, fun k x hg => .inr ?_⟩
    have hk := (List.getElem?_eq_some_iff.1 hg).1
    rw [hlen] at hk
    simp only [List.getElem?_map, List.getElem?_range hk, Option.map_some, Option.some.injEq] at hg
    subst hg
    refine ⟨of_decide_eq_true (f1 k hk).2, rfl, fun hm => ?_⟩
    obtain ⟨i, hi⟩ := List.mem_iff_getElem?.1 hm
    rw [List.getElem?_take] at hi
    split at hi
    · rename_i hik
      simp only [List.getElem?_map, List.getElem?_range (by omega : i < ls.length), Option.map_some, Option.some.injEq] at hi
      have := f2 i k (by omega) hk (by omega)
      omega
    · cases hi
  have h1 := asg_le ls noneP _ ((pt_asg ls noneP _).1 hpt)
  rw [cntR_len (fun x hx => by obtain ⟨i, _, rfl⟩ := List.mem_map.1 hx; omega), hlen] at h1
  exact Nat.le_antisymm (mostR_le _ _) h1
theorem selI_cn (p : Nat → Bool) : ∀ n, (selI p n).length = cn p n := by
  intro n
  induction n with
  | zero => rfl
  | succ n ih =>
    simp only [cn]
    cases h : p n with
    | true => rw [selI_yes h, List.length_append, ih]; simp
    | false => rw [selI_no h, ih]; simp
theorem hit_nb (ls : List (List Int)) (S : Nat → Bool) (m : Nat) : hitL ls (selI S ls.length) m = nbB (relB ls) ls.length S m := by
  rw [Bool.eq_iff_iff, nbB_iff]
  unfold hitL relB
  simp only [List.any_eq_true, decide_eq_true_eq]
  constructor
  · rintro ⟨k, hk, h⟩
    obtain ⟨i, rfl, hi, hs⟩ := selI_mem.1 hk
    exact ⟨i, hi, hs, by simpa using h⟩
  · rintro ⟨i, hi, hs, h⟩
    exact ⟨(i : Int), selI_mem.2 ⟨i, rfl, hi, hs⟩, by simpa using h⟩
theorem blk_cn (ls : List (List Int)) (S : Nat → Bool) : blkS ls (selI S ls.length) = decide (cn (nbB (relB ls) ls.length S) 7 < cn S ls.length) := by
  unfold blkS cntP
  rw [selI_cn, selI_cn]
  congr 1
  rw [cn_congr 7 (fun m _ => hit_nb ls S m)]
/-- Blocked stations there are just where not all can be filled. -/
theorem blocked_iff {ls : List (List Int)} (hb : Mov7 ls) : blockedR ls ≠ [] ↔ mostR ls noneP < ls.length := by
  constructor
  · intro h
    obtain ⟨⟨s, _, _, hs⟩, hk, _⟩ := (bestS_spec ls _).2 h
    rw [hs, blk_cn] at hk
    have hk := of_decide_eq_true hk
    rcases Nat.lt_or_ge (mostR ls noneP) ls.length with h1 | h1
    · exact h1
    · obtain ⟨f, f1, f2⟩ := full_sdr hb (Nat.le_antisymm (mostR_le _ _) h1)
      have := sdr_count f1 f2 s.testBit
      omega
  · intro h hn
    have hH : HallB (relB ls) ls.length 7 := by
      intro S
      rcases Nat.lt_or_ge (cn (nbB (relB ls) ls.length S) 7) (cn S ls.length) with h1 | h1
      · exfalso
        have hne : selI S ls.length ≠ [] := by
          intro e
          have := selI_cn S ls.length
          rw [e] at this
          simp at this
          omega
        obtain ⟨s, s1, s2, s3⟩ := inc_bits (selI_Inc S ls.length) hne
        have h2 := (bestS_spec ls _).1 hn s s1 s2
        rw [s3, blk_cn, decide_eq_false_iff_not] at h2
        exact h2 h1
      · exact h1
    obtain ⟨f, f1, f2⟩ := rado ls.length 7 _ (relB ls) (Nat.le_refl _) hH
    have := sdr_full f1 f2
    omega
end Go.Proofs.Ytahehdgkbhjpoaa

namespace Go.Proofs.Ytahehdgkbhjpoaa
set_option linter.unusedVariables false
set_option linter.unusedSimpArgs false
open Go.RowKit

theorem reach_row {m : Nat} {ar : List Arc} {p q : List Int} {a : Int} {k : Nat} {y : Int} (h : q[k]? = some y) : (reachL m ar p q a).getD k [] = selI (reachP m ar p a y) p.length := by
  unfold reachL
  simp [List.getD, h]
theorem reach_lt (m : Nat) (ar : List Arc) (p q : List Int) (a : Int) : ∀ l ∈ reachL m ar p q a, ∀ x ∈ l, 0 ≤ x ∧ x < (p.length : Int) := by
  intro l hl x hx
  unfold reachL at hl
  obtain ⟨y, _, rfl⟩ := List.mem_map.1 hl
  obtain ⟨i, rfl, hi, _⟩ := selI_mem.1 hx
  omega
theorem reach_mov7 {m : Nat} {ar : List Arc} {p q : List Int} {a : Int} (h : p.length ≤ 7) : Mov7 (reachL m ar p q a) := fun l hl x hx => by
  have := reach_lt m ar p q a l hl x hx
  omega
/-- A filling keeps its limit. -/
theorem slow_le {m : Nat} {l : List St} {p q : List Int} {a : Int} {r : List Int} (hg : goodMv (m : Int) l p q = true) (ha : 0 ≤ a) (hf : fillB m (arcs l) p q a r = true) :
    ∃ z, slowK m (arcs l) p q r r.length = some z ∧ 0 ≤ z ∧ z ≤ a := by
  obtain ⟨g1, g2, g3, g4, g5⟩ := goodMv_true hg
  have hA := arcs_good g1
  rw [Int.toNat_natCast] at hA
  unfold fillB at hf
  rw [Bool.and_eq_true] at hf
  obtain ⟨h1, h2⟩ := hf
  obtain ⟨h3, h4⟩ := goodOn_true h1
  unfold fillW at h2
  rw [List.all_eq_true] at h2
  have key : ∀ k, k ≤ r.length → ∃ z, slowK m (arcs l) p q r k = some z ∧ 0 ≤ z ∧ z ≤ a := by
    intro k
    induction k with
    | zero => intro _; exact ⟨0, rfl, Int.le_refl _, ha⟩
    | succ k ih =>
      intro hk
      obtain ⟨z, hz, z0, z1⟩ := ih (by omega)
      by_cases hx : r.getD k 0 < 0
      · exact ⟨z, slowK_skip hz hx, z0, z1⟩
      · have hfa := h2 k (List.mem_range.2 (by omega))
        unfold fillAt at hfa
        rw [Bool.or_eq_true, decide_eq_true_eq, decide_eq_true_eq] at hfa
        have hfa := hfa.resolve_left hx
        obtain ⟨y, hy⟩ : ∃ y, q[k]? = some y := ⟨_, List.getElem?_eq_getElem (show k < q.length by omega)⟩
        rw [reach_row hy] at hfa
        obtain ⟨i, hi, hip, hb⟩ := selI_mem.1 hfa
        unfold reachP at hb
        obtain ⟨b0, b1⟩ := inB_true hb
        have hmv : moveT m (arcs l) p q r k = (distT m (arcs l) y.toNat).getD (p.getD i 0).toNat 0 := by
          unfold moveT
          rw [hi, Int.toNat_natCast, getD_of hy]
          have e1 := g2 y (List.mem_of_getElem? hy)
          have e2 := g5 (p.getD i 0) (by rw [List.getD, List.getElem?_eq_getElem hip]; exact List.getElem_mem hip)
          exact dist_sym hA (by omega) (by omega)
        rw [slowK_max hz hx (by rw [hmv]; omega)]
        refine ⟨_, rfl, ?_, ?_⟩ <;> rw [hmv] <;> unfold maxI <;> split <;> omega
  exact key _ (Nat.le_refl _)
theorem covered_snd {n : Int} {l : List St} {p q : List Int} {a : Int} {r : List Int} (h : askF n l p q a r = true) : (coveredAfterV n l p q a r).2 = true := by
  unfold coveredAfterV; rw [if_pos h]; rfl
theorem slow_is {m : Nat} {l : List St} {p q : List Int} {a : Int} {r : List Int} (hg : goodMv (m : Int) l p q = true) (ha : 0 ≤ a) (hf : fillB m (arcs l) p q a r = true) : ∃ z, slowestMoveV m l p q r = (z, true) ∧ z ≤ a := by
  obtain ⟨z, h1, _, h2⟩ := slow_le hg ha hf
  refine ⟨z, ?_, h2⟩
  unfold slowestMoveV askO
  have : goodOn p.length q.length r = true := by unfold fillB at hf; rw [Bool.and_eq_true] at hf; exact hf.1
  rw [hg, this, if_pos (by rfl), Int.toNat_natCast, h1]
  rfl
/-- What FnMoves asks of the filling. -/
theorem moves_is {m : Nat} {l : List St} {p q : List Int} {a : Int} (h : askM (m : Int) l p q a = true) :
    isFillingV m l p q a (fillStationsV m l p q a).1 = (true, true) ∧ (∃ z, slowestMoveV m l p q (fillStationsV m l p q a).1 = (z, true) ∧ z ≤ a) ∧ (coveredAfterV m l p q a (fillStationsV m l p q a).1).2 = true ∧ ((cntR (fillStationsV m l p q a).1 : Nat) : Int) = (mostFilledV m l p q a).1 := by
  obtain ⟨hg, hb⟩ := askM_true h
  obtain ⟨a0, a1⟩ := inB_true hb
  have e : (fillStationsV m l p q a).1 = fillR (reachL m (arcs l) p q a) noneP (mostR (reachL m (arcs l) p q a) noneP) := by unfold fillStationsV; rw [if_pos h]; rfl
  obtain ⟨f1, f2⟩ := fill_asg (reachL m (arcs l) p q a) noneP _ (fun r hr x hx => (reach_lt m (arcs l) p q a r hr x hx).1) rfl
  obtain ⟨k1, k2⟩ := pt_good (reach_lt m (arcs l) p q a) (fillR_ge _ _ _) ((pt_asg _ _ _).2 f1)
  rw [reachL_len] at k1
  have hf : fillB m (arcs l) p q a (fillStationsV m l p q a).1 = true := by unfold fillB; rw [e, k1, k2]; rfl
  refine ⟨?_, slow_is hg a0 hf, covered_snd (by unfold askF; rw [h, Int.toNat_natCast, hf]; rfl), ?_⟩
  · unfold isFillingV; rw [if_pos h, Int.toNat_natCast, hf]
  · rw [e, f2]; unfold mostFilledV; rw [if_pos h]; rfl
/-- Blocked stations are told just where not all can be filled. -/
theorem blocked_is {m : Nat} {l : List St} {p q : List Int} {a : Int} (h : askM (m : Int) l p q a = true) : (blockedStationsV m l p q a).2 = decide ((mostFilledV m l p q a).1 < (q.length : Int)) := by
  obtain ⟨hg, _⟩ := askM_true h
  obtain ⟨_, _, _, g4, _⟩ := goodMv_true hg
  unfold blockedStationsV mostFilledV
  rw [if_pos h, if_pos h]
  simp only [Int.toNat_natCast]
  rw [decide_eq_decide, blocked_iff (reach_mov7 g4), reachL_len]
  omega

/-- The movers of some stations, each once. -/
def addU (M : List Int) (x : Int) : List Int := if x ∈ M then M else M ++ [x]
theorem addU_yes {M : List Int} {x : Int} (h : decide (x ∈ M) = true) : addU M x = M := by unfold addU; rw [if_pos (of_decide_eq_true h)]
theorem addU_no {M : List Int} {x : Int} (h : decide (x ∈ M) = false) : addU M x = M ++ [x] := by unfold addU; rw [if_neg (of_decide_eq_false h)]
theorem nodup_cn : ∀ (M : List Int) (P : Nat → Bool), M.Nodup → (∀ x ∈ M, ∃ i : Nat, x = (i : Int) ∧ i < 7 ∧ P i = true) → M.length ≤ cn P 7 := by
  intro M
  induction M with
  | nil => intro P _ _; simp
  | cons x M ih =>
    intro P hn h
    rw [List.nodup_cons] at hn
    obtain ⟨i, rfl, h7, hP⟩ := h x (by simp)
    rw [cn_off hP h7, List.length_cons]
    have := ih (offB P i) hn.2 (fun y hy => by
      obtain ⟨j, rfl, j7, hj⟩ := h y (List.mem_cons_of_mem _ hy)
      refine ⟨j, rfl, j7, ?_⟩
      have : j ≠ i := by rintro rfl; exact hn.1 hy
      unfold offB; simp [hj, this])
    omega
theorem addU_foldl (F : List Int) : ∀ M : List Int, M.Nodup → (F.foldl addU M).Nodup ∧ ∀ x, x ∈ F.foldl addU M ↔ x ∈ M ∨ x ∈ F := by
  induction F with
  | nil => intro M h; exact ⟨h, by simp⟩
  | cons y F ih =>
    intro M h
    have h1 : (addU M y).Nodup ∧ ∀ x, x ∈ addU M y ↔ x ∈ M ∨ x = y := by
      unfold addU
      split
      · rename_i hm
        exact ⟨h, fun x => ⟨.inl, fun hx => by rcases hx with hx | rfl <;> assumption⟩⟩
      · rename_i hm
        refine ⟨List.nodup_append.2 ⟨h, by simp, fun x hx z hz => ?_⟩, by simp⟩
        simp at hz
        subst hz
        rintro rfl
        exact hm hx
    obtain ⟨i1, i2⟩ := ih _ h1.1
    refine ⟨i1, fun x => ?_⟩
    rw [List.foldl_cons, i2, h1.2, List.mem_cons, or_assoc]
def movL (TB : List (List Int)) (bl : List Int) : List Int := (bl.flatMap fun k => TB.getD k.toNat []).foldl addU []
theorem movL_less {m : Nat} {l : List St} {p q : List Int} {a : Int} (h : (blockedStationsV m l p q a).2 = true) :
    (movL (reachTableV m l p q a).1 (blockedStationsV m l p q a).1).length < (blockedStationsV m l p q a).1.length ∧ (movL (reachTableV m l p q a).1 (blockedStationsV m l p q a).1).length ≤ 7 := by
  have hask : askM (m : Int) l p q a = true := by
    unfold blockedStationsV at h
    split at h
    · assumption
    · cases h
  obtain ⟨hg, _⟩ := askM_true hask
  obtain ⟨_, _, _, g4, _⟩ := goodMv_true hg
  have e1 : (reachTableV m l p q a).1 = reachL m (arcs l) p q a := by unfold reachTableV; rw [if_pos hask]; rfl
  have e2 : blockedStationsV m l p q a = (blockedR (reachL m (arcs l) p q a), decide (blockedR (reachL m (arcs l) p q a) ≠ [])) := by unfold blockedStationsV; rw [if_pos hask]; rfl
  rw [e2] at h ⊢
  rw [e1]
  obtain ⟨TB, hTB⟩ : ∃ TB, reachL m (arcs l) p q a = TB := ⟨_, rfl⟩
  have hb := reach_mov7 (m := m) (ar := arcs l) (p := p) (q := q) (a := a) g4
  rw [hTB] at h hb ⊢
  have hne : blockedR TB ≠ [] := of_decide_eq_true h
  have hk := of_decide_eq_true (show decide (cntP (hitL TB (blockedR TB)) < (blockedR TB).length) = true from ((bestS_spec TB _).2 hne).2.1)
  unfold cntP at hk
  rw [selI_cn] at hk
  obtain ⟨n1, n2⟩ := addU_foldl ((blockedR TB).flatMap fun k => TB.getD k.toNat []) [] (by simp)
  have := nodup_cn _ (hitL TB (blockedR TB)) n1 (fun x hx => by
    rcases (n2 x).1 hx with hx | hx
    · cases hx
    · obtain ⟨k, hk, hm⟩ := List.mem_flatMap.1 hx
      have hrow : TB.getD k.toNat [] ∈ TB := by
        rcases Nat.lt_or_ge k.toNat TB.length with h1 | h1
        · rw [List.getD, List.getElem?_eq_getElem h1]; exact List.getElem_mem h1
        · rw [List.getD, List.getElem?_eq_none h1] at hm; cases hm
      obtain ⟨x0, x1⟩ := hb _ hrow x hm
      refine ⟨x.toNat, by omega, by omega, ?_⟩
      unfold hitL
      rw [List.any_eq_true]
      exact ⟨k, hk, decide_eq_true (by rw [show ((x.toNat : Nat) : Int) = x by omega]; exact hm)⟩)
  have h7 : cn (hitL TB (blockedR TB)) 7 ≤ 7 := by rw [← selI_cn]; exact selI_len _ _
  unfold movL
  dsimp only
  omega
theorem cntR_snoc {r : List Int} {k : Nat} {x : Int} (h : r[k]? = some x) : cntR (r.take (k + 1)) = cntR (r.take k) + if 0 ≤ x then 1 else 0 := by
  rw [take_succ_of h]
  unfold cntR
  rw [List.filter_append, List.length_append]
  by_cases hx : 0 ≤ x <;> simp [hx]
theorem addU_len7 {G : List Int} (h : ∀ x ∈ G, 0 ≤ x ∧ x < 7) : (G.foldl addU []).length ≤ 7 := by
  obtain ⟨n1, n2⟩ := addU_foldl G [] (by simp)
  have := nodup_cn _ (fun _ => true) n1 (fun x hx => by
    rcases (n2 x).1 hx with hx | hx
    · cases hx
    · have := h x hx
      exact ⟨x.toNat, by omega, by omega, rfl⟩)
  have h7 : cn (fun _ => true) 7 ≤ 7 := by rw [← selI_cn]; exact selI_len _ _
  omega
theorem mov_flat {TB : List (List Int)} (hb : Mov7 TB) (bl : List Int) : ∀ x ∈ bl.flatMap (fun k => TB.getD k.toNat []), 0 ≤ x ∧ x < 7 := by
  intro x hx
  obtain ⟨k, _, hm⟩ := List.mem_flatMap.1 hx
  rcases Nat.lt_or_ge k.toNat TB.length with h1 | h1
  · rw [List.getD, List.getElem?_eq_getElem h1] at hm
    exact hb _ (List.getElem_mem h1) x hm
  · rw [List.getD, List.getElem?_eq_none h1] at hm; cases hm
theorem mov_len {TB : List (List Int)} (hb : Mov7 TB) (bl row : List Int) (hrow : row ∈ TB) (j : Nat) : ((row.take j).foldl addU (movL TB bl)).length ≤ 7 := by
  unfold movL
  rw [← List.foldl_append]
  refine addU_len7 (fun x hx => ?_)
  rcases List.mem_append.1 hx with hx | hx
  · exact mov_flat hb bl x hx
  · exact hb row hrow x (List.mem_of_mem_take hx)
theorem mov_snoc {TB : List (List Int)} {bl row : List Int} {k i : Nat} (h : bl[k]? = some (i : Int)) (hr : TB[i]? = some row) : movL TB (bl.take (k + 1)) = row.foldl addU (movL TB (bl.take k)) := by
  unfold movL
  rw [take_succ_of h, List.flatMap_append, List.foldl_append]
  simp [List.getD, hr]
theorem blk_in {n : Int} {l : List St} {p q : List Int} {a : Int} : ∀ x ∈ (blockedStationsV n l p q a).1, ∃ i : Nat, x = (i : Int) ∧ i < (reachTableV n l p q a).1.length := by
  unfold blockedStationsV reachTableV
  split
  · intro x hx
    dsimp only at hx ⊢
    rcases Decidable.em (blockedR (reachL n.toNat (arcs l) p q a) = []) with h0 | h0
    · rw [h0] at hx; cases hx
    · obtain ⟨⟨s, _, _, hs⟩, _⟩ := (bestS_spec _ _).2 h0
      rw [show blockedR (reachL n.toNat (arcs l) p q a) = _ from hs] at hx
      obtain ⟨i, hi, h1, _⟩ := selI_mem.1 hx
      exact ⟨i, hi, h1⟩
  · intro x hx; cases hx
theorem mov7_V {n : Int} {l : List St} {p q : List Int} {a : Int} : Mov7 (reachTableV n l p q a).1 := by
  unfold reachTableV
  split
  · rename_i h
    obtain ⟨hg, _⟩ := askM_true h
    exact reach_mov7 (goodMv_true hg).2.2.2.1
  · intro l hl; cases hl
theorem fill_snd (n : Int) (l : List St) (p q : List Int) (a : Int) : (fillStationsV n l p q a).2 = askM n l p q a := by
  unfold fillStationsV; split <;> rename_i h
  · rw [h]
  · simp at h; rw [h]
theorem most_snd (n : Int) (l : List St) (p q : List Int) (a : Int) : (mostFilledV n l p q a).2 = askM n l p q a := by
  unfold mostFilledV; split <;> rename_i h
  · rw [h]
  · simp at h; rw [h]
theorem table_snd (n : Int) (l : List St) (p q : List Int) (a : Int) : (reachTableV n l p q a).2 = askM n l p q a := by
  unfold reachTableV; split <;> rename_i h
  · rw [h]
  · simp at h; rw [h]
theorem blk_no {n : Int} {l : List St} {p q : List Int} {a : Int} (h : askM n l p q a = false) : (blockedStationsV n l p q a).2 = false := by
  unfold blockedStationsV; rw [h]; rfl
theorem cntR_le (r : List Int) : cntR r ≤ r.length := List.length_filter_le _ _
end Go.Proofs.Ytahehdgkbhjpoaa
