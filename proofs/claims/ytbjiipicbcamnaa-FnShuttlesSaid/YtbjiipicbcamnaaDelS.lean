/-
  Deliveries: the reference's side (printed by gen_dels.py).
-/
import Derived.Test.YtbjiipicbcamnaaDelC
import Derived.Test.YtbjiipicbcamnaaDelR
import Derived.Test.YtbjiipicbcamnaaTankJ
import Derived.BigRegion
import Derived.Deep.CutRange
import Derived.Deep.CutBlock
namespace Go.Proofs.Ytbjiipicbcamnaa
open Go Go.RowKit

section
variable {P : Program} {ops : Array Oper} {Q : Exit → Act → World → Prop}
theorem puts_out2 {V : Nat → Option Value} {a : Act} {t : Tmp} : ∀ n, (∀ j, j < n → V j = none ∨ dstAt ops j ≠ some t) → (putsTo ops V n a).eval (.tmp t) = a.eval (.tmp t) := by
  intro n
  induction n with
  | zero => intro _; rfl
  | succ n ih =>
    intro h
    simp only [putsTo]
    cases hv : V n with
    | none => exact ih (fun j hj => h j (by omega))
    | some v =>
      simp only
      rw [Act.eval_put (fun d hd e => (h n (by omega)).elim (fun h0 => by rw [hv] at h0; cases h0) (fun h0 => h0 (by rw [hd]; injection e with e; rw [e]))), ih (fun j hj => h j (by omega))]
/-- **The same, and a slot that the region writes late is read as it was before.** -/
theorem wp_region_inv3 {id : Nat} {a0 : Act} {w0 : World} (hm : P.follows .mixedOrders = true) (hap : apartD ops = true) (hbk : backD ops = true) (I : (Nat → Option Value) → World → Prop) (h0 : I (fun _ => none) w0.drew)
    (hstep : ∀ (V : Nat → Option Value) (w : World), I V w → (∀ j, (V j).isSome = true → preD ops V j) → ∀ (i : Nat) (o : Oper), ops[i]? = some o → i < ops.size → V i = none → preD ops V i →
      ∀ a : Act, (∀ (j : Nat) (d : Tmp) (v : Value), dstAt ops j = some d → j < ops.size → d < a0.tmps.size → V j = some v → a.eval (.tmp d) = v) → (∀ t : Tmp, writesD ops t = false → a.eval (.tmp t) = a0.eval (.tmp t)) →
      (∀ (j : Nat) (t : Tmp), dstAt ops j = some t → j < ops.size → V j = none → a.eval (.tmp t) = a0.eval (.tmp t)) →
      ∀ K : Act → World → Prop, (∀ v w', I (updV V i v) w' → K (a.put o.dst v) w') → o.wp P a w K Q)
    (hfin : ∀ (V : Nat → Option Value) (w : World), I V w → (∀ i, i < ops.size → (V i).isSome = true) → Q .normal (putsTo ops V ops.size a0) w) :
    (Code.region id ops true).wp P Q a0 w0 :=
  wp_region_inv hm hap hbk I h0 (fun V w hI hcl i o ho hVi hpre K hK => hstep V w hI hcl i o ho (Array.getElem?_eq_some_iff.1 ho).1 hVi (pre_of ho hpre) _ (fun _ _ _ hd hi hs hV => eval_in hap hd hi hs hV) (fun _ h => eval_out h)
    (fun j t hd hj hV => puts_out2 _ (fun j' hj' => by
      by_cases e : j' = j
      · exact .inl (e ▸ hV)
      · exact .inr (fun e2 => apartD_spec hap hj hj' (fun h => e h.symm) t hd e2))) K hK) hfin
end

theorem tk_box {w : World} {b : Nat} {l f d e : Int} (h : TkAt w b l f d e) {w' : World} (g : Below w.heap.size w w') : TkAt w' b l f d e := tkAt_below h g
/-- The rows hold three numbers each. -/
theorem ins_three {l : List Tk} {s : Int} (R : List (List Int)) (h : ∀ x ∈ R, x.length = 3) : ∀ x ∈ insAll R, x.length = 3 := by
  have : ∀ (R out : List (List Int)), (∀ x ∈ out, x.length = 3) → (∀ x ∈ R, x.length = 3) → ∀ x ∈ R.foldl insD out, x.length = 3 := by
    intro R
    induction R with
    | nil => intro out ho _; exact ho
    | cons r R ih =>
      intro out ho hR
      exact ih (insD out r) (fun x hx => by
        rcases mem_insD.1 hx with k | rfl
        · exact ho x k
        · exact hR _ (by simp)) (fun x hx => hR x (by simp [hx]))
  exact this R [] (by simp) h
theorem insAll_len (R : List (List Int)) : (insAll R).length = R.length := by
  have : ∀ (R out : List (List Int)), (R.foldl insD out).length = out.length + R.length := by
    intro R
    induction R with
    | nil => intro out; simp
    | cons r R ih => intro out; rw [List.foldl_cons, ih, insD_len, List.length_cons]; omega
  have := this R []
  unfold insAll; rw [this]; simp
theorem rowsUp_mono (l : List Tk) (s : Int) : ∀ i, i ≤ l.length → (rowsUp l s i).length ≤ (rowsUp l s l.length).length := by
  have h1 : ∀ d i, (rowsUp l s i).length ≤ (rowsUp l s (i + d)).length := by
    intro d
    induction d with
    | zero => intro i; exact Nat.le_refl _
    | succ d ih =>
      intro i
      refine Nat.le_trans (ih i) ?_
      show _ ≤ (rowsUp l s (i + d) ++ _).length
      rw [List.length_append]; omega
  intro i hi
  have := h1 (l.length - i) i
  rwa [show i + (l.length - i) = l.length by omega] at this
theorem ssv_one {w : World} {base : Nat} {v : Value} {vs : List Value} {ls : List (List Int)} (h : SSv w base v vs ls) : ∀ u ∈ vs, u.oneCell' = true := by
  intro u hu
  obtain ⟨i, hi, rfl⟩ := List.getElem_of_mem hu
  obtain ⟨l, hl⟩ := h.has (List.getElem?_eq_getElem hi)
  obtain ⟨A, c, e, _⟩ := own_rd (h.inner i _ l (List.getElem?_eq_getElem hi) hl)
  rw [e]; rfl
/-- One row of such a row of rows, and the number at its head. -/
theorem ssv_head {w : World} {base : Nat} {A : Option Addr} {c : Nat} {vs : List Value} {M : List (List Int)} (h : SSv w base (.slice A M.length c) vs M) (h3 : ∀ x ∈ M, x.length = 3) {p : Nat} (hp : p < M.length) :
    ∃ (g b off cu : Nat) (o : Nat), A = some ⟨g, o, none⟩ ∧ w.cell? ⟨g, o + p, none⟩ = some (.slice (some ⟨b, off, none⟩) 3 cu) ∧ w.cell? ⟨b, off, none⟩ = some (.int .i64 (aOf (M.getD p []))) := by
  obtain ⟨A', c', hA, _, _, h9⟩ := own_rd h.outer
  injection hA with hA _ _
  subst hA
  obtain ⟨g, o, rfl, _, hc⟩ := h9 (by omega)
  have hvl := h.len
  have hu : vs[p]? = some vs[p] := List.getElem?_eq_getElem (by omega)
  have hr : M[p]? = some M[p] := List.getElem?_eq_getElem hp
  have ho := h.inner p _ _ hu hr
  rw [h3 _ (List.getElem_mem hp)] at ho
  obtain ⟨Au, cu, eu, _, _, h8⟩ := own_rd ho
  obtain ⟨b, off, rfl, _, hcu⟩ := h8 (by omega)
  refine ⟨g, b, off, cu, o, rfl, ?_, ?_⟩
  · have := hc p _ hu
    rw [eu] at this; exact this
  · have e3 := h3 _ (List.getElem_mem hp)
    have hgd : M.getD p [] = M[p] := by simp [List.getD, hr]
    have h0 : (ints M[p])[0]? = some (.int .i64 (aOf M[p])) := ints_get (by
      unfold aOf
      rw [List.getD_eq_getElem?_getD, List.getElem?_eq_getElem (by omega)]; rfl)
    have := hcu 0 _ h0
    rw [Nat.add_zero] at this
    rw [hgd]; exact this

set_option maxRecDepth 100000 in
set_option maxHeartbeats 4000000 in
theorem deliveriesS_c (v : Value) (l : List Tk) (s : Int) (w : World) (hr : Rd w v l.length (l.flatMap Tk.cells)) :
    Calls Try.prog 6 #[v, .int .i64 s] w (OwnSB (deliveriesV l s) w) := by
  have HR := Lib.hid hr
  clear hr
  by_cases h : okL l = true ∧ inB s 0 36000 = true
  · obtain ⟨h1, h2⟩ := h
    obtain ⟨s0, s1⟩ := inB_36 h2
    obtain ⟨h12, hall⟩ := okL_true h1
    have HALL := Lib.hid hall
    have HRB := Lib.hid (rowsUp_bd (s := s) h1 s1)
    have HO := Lib.hid h1
    have H2 := Lib.hid h2
    have HSUM := Lib.hid (sumTo_bd (f := fun t => t.times s) (B := 36001) (fun t ht => times_bd (hall t ht) s1))
    have HRL := Lib.hid (rowsUp_len l s (fun t ht => (times_bd (hall t ht) s1).1))
    clear hall
    obtain ⟨A, c, rfl, hc, hm, hr0⟩ := HR.out
    rw [maxLen_eq] at hm
    have HR0 := Lib.hid hr0
    clear hr0
    go_enter Try.func6, Try.ntmps6
    go_wp2_with (first | (go_at_call 29; refine (shAll_c _ l _ HR.out).mono ?_; rintro e w' ⟨rfl, hb1⟩) | (go_at_call 30; refine (shSecond_c _ _).mono ?_; rintro e w' ⟨rfl, rfl⟩))
    obtain ⟨w0, rfl⟩ : ∃ w0 : World, w0 = w' := ⟨_, rfl⟩
    have HB1 := Lib.hid hb1
    have hs0 := hb1.size
    clear hb1
    go_loopw [6, 25] (fun v6 v20 wr => ∃ k : Nat, k ≤ l.length ∧ v20 = .int .i64 k ∧ v6 = .int .i64 (sumTo (fun t => t.times s) l k) ∧ Hid (Below w0.heap.size w0 wr)) (fun _ v20 _ => l.length - (intOf v20).toNat)
    case atStart => exact ⟨0, Nat.zero_le _, rfl, rfl, Lib.hid (Below.refl _ _)⟩
    case round =>
      obtain ⟨k, hk, rfl, rfl, HB⟩ := hrel
      obtain ⟨wA, rfl⟩ : ∃ wA : World, wA = wr := ⟨_, rfl⟩
      by_cases hlt : k < l.length
      · obtain ⟨b, off, rfl, hbl, hcell⟩ := HR0.out (by omega)
        obtain ⟨tl, tf, td, te, hx, c0, c1, c2, c3⟩ := tk_at' hcell (bel_then HB1.out HB.out) hbl hlt
        have hot := HALL.out _ (List.mem_of_getElem? hx)
        obtain ⟨z0, z1⟩ := HSUM.out k hk
        obtain ⟨t0, t1⟩ := times_bd hot s1
        have HT := Lib.hid hot
        have HX := Lib.hid hx
        clear hx hot hcell
        have es : IntKind.i64.wrap (sumTo (fun t => t.times s) l k + (Tk.mk tl tf td te).times s) = sumTo (fun t => t.times s) l k + (Tk.mk tl tf td te).times s := IntWalk.i64_in _ (by omega)
        go_wp2_with fail
        (generalize hw1 : World.alloc wA _ = w1; have k0 : w1.cell? ⟨wA.heap.size, 0, none⟩ = some (.int .i64 tl) := (by subst hw1; simp [go_sem]); have k1 : w1.cell? ⟨wA.heap.size, 1, none⟩ = some (.int .i64 tf) := (by subst hw1; simp [go_sem]); have k2 : w1.cell? ⟨wA.heap.size, 2, none⟩ = some (.int .i64 td) := (by subst hw1; simp [go_sem]); have k3 : w1.cell? ⟨wA.heap.size, 3, none⟩ = some (.int .i64 te) := (by subst hw1; simp [go_sem]); have hb0 : Below wA.heap.size wA w1 := (by subst hw1; exact bel_al (Below.refl _ _) _); have hsz : wA.heap.size < w1.heap.size := (by subst hw1; simp); clear hw1)
        go_wp2_with fail
        refine (shTimes_c tl tf td te s _ HT.out s0 s1).mono ?_; rintro e wT ⟨rfl, hb⟩
        have HB' := Lib.hid (bel_then (bel_then HB.out hb0) hb)
        clear k0 k1 k2 k3 hb0 hb c0 c1 c2 c3
        go_wp2
        exact ⟨⟨k + 1, by omega, by go_num, by rw [sumTo_succ HX.out], HB'⟩, by simp [intOf]; omega⟩
      · obtain rfl : k = l.length := by omega
        have hcl := HRL.out l.length
        obtain ⟨C, hC⟩ : ∃ C, sumTo (fun t => t.times s) l l.length = C := ⟨_, rfl⟩
        rw [hC] at hcl ⊢
        clear hC
        by_cases h200 : C ≤ 200
        · have hcl2 : (rowsUp l s l.length).length ≤ 200 := by omega
          have HMONO : Hid (∀ i, i ≤ l.length → (rowsUp l s i).length ≤ (rowsUp l s l.length).length) := Lib.hid (rowsUp_mono l s)
          have HC2 := Lib.hid hcl2
          have HB2 := Lib.hid (bel_then HB1.out HB.out)
          clear hcl hcl2 hlt hk
          go_wp2_with fail
          go_loopw [9, 39] (fun v9 v39 wr => ∃ (i : Nat) (vs : List Value), i ≤ l.length ∧ v39 = .int .i64 i ∧ Hid (SSv wr wA.heap.size v9 vs (insAll (rowsUp l s i))) ∧ Hid (Below wA.heap.size wA wr)) (fun _ v39 _ => l.length - (intOf v39).toNat)
          case atStart => exact ⟨0, [], Nat.zero_le _, rfl, Lib.hid (SSv.nil _ _), Lib.hid (Below.refl _ _)⟩
          case round =>
            obtain ⟨i, vs, hi, rfl, HS, HBL⟩ := hrel
            obtain ⟨wE, rfl⟩ : ∃ wE : World, wE = wr := ⟨_, rfl⟩
            by_cases hlt : i < l.length
            · obtain ⟨b, off, rfl, hbl, hcell⟩ := HR0.out (by omega)
              obtain ⟨tl, tf, td, te, hx, c0, c1, c2, c3⟩ := tk_at' hcell (bel_then HB2.out HBL.out) hbl hlt
              have hot := HALL.out _ (List.mem_of_getElem? hx)
              obtain ⟨cy0, cy1⟩ := Tk.cyc_bd hot
              have hbd := Tk.bd hot
              dsimp only at hbd
              obtain ⟨_, _, _, _, _, _, _, _⟩ := hbd
              obtain ⟨tm0, tm1⟩ := times_bd hot s1
              have HT := Lib.hid hot
              have HX := Lib.hid hx
              obtain ⟨K, hK⟩ : ∃ K : Nat, (Tk.mk tl tf td te).times s = (K : Int) := ⟨((Tk.mk tl tf td te).times s).toNat, by omega⟩
              rw [hK] at tm1
              have HK := Lib.hid hK
              have HKN : Hid (((Tk.mk tl tf td te).times s).toNat = K) := Lib.hid (by rw [hK]; simp)
              obtain ⟨L0, hL0⟩ : ∃ L0, rowsUp l s i = L0 := ⟨_, rfl⟩
              have hRN : L0.length + K ≤ 200 := by
                have h1 := HMONO.out (i + 1) (by omega)
                have h2 := HC2.out
                rw [rowsUp_succ hx, hL0, List.length_append, dBlk_len, hK] at h1
                simp at h1
                omega
              have HL3 : Hid (∀ x ∈ L0, x.length = 3) := Lib.hid (fun x hx2 => by rw [← hL0] at hx2; exact rows_three hx2)
              rw [hL0] at HS
              have HL0 := Lib.hid hL0
              have hsA := HBL.out.size
              clear hcell hx hot hK tm0 hL0
              go_wp2_with fail
              (generalize hw1 : World.alloc wE _ = w1; have k0 : w1.cell? ⟨wE.heap.size, 0, none⟩ = some (.int .i64 tl) := (by subst hw1; simp [go_sem]); have k1 : w1.cell? ⟨wE.heap.size, 1, none⟩ = some (.int .i64 tf) := (by subst hw1; simp [go_sem]); have k2 : w1.cell? ⟨wE.heap.size, 2, none⟩ = some (.int .i64 td) := (by subst hw1; simp [go_sem]); have k3 : w1.cell? ⟨wE.heap.size, 3, none⟩ = some (.int .i64 te) := (by subst hw1; simp [go_sem]); have hb0 : Below wE.heap.size wE w1 := (by subst hw1; exact bel_al (Below.refl _ _) _); have hsz : wE.heap.size < w1.heap.size := (by subst hw1; simp); clear hw1)
              obtain ⟨cy, hcy⟩ : ∃ cy, (Tk.mk tl tf td te).cyc = cy := ⟨_, rfl⟩
              rw [hcy] at cy0 cy1
              have HCY := Lib.hid hcy
              have HBX : Hid (TkAt w1 wE.heap.size tl tf td te) := Lib.hid ⟨k0, k1, k2, k3, hsz⟩
              have HBw1 := Lib.hid hb0
              clear k0 k1 k2 k3 hb0 hcy c0 c1 c2 c3
              go_loopw [9, 12] (fun v9 v12 wi => ∃ (q : Nat) (vs : List Value), q ≤ K ∧ v12 = .int .i64 q ∧ Hid (SSv wi wA.heap.size v9 vs (insAll (L0 ++ dBlk (Tk.mk tl tf td te) i q))) ∧ Hid (Below wA.heap.size wA wi) ∧ Hid (TkAt wi wE.heap.size tl tf td te)) (fun _ v12 _ => K - (intOf v12).toNat)
              case atStart =>
                refine ⟨0, vs, Nat.zero_le _, rfl, Lib.hid ?_, Lib.hid (bel_then HBL.out HBw1.out), HBX⟩
                have : dBlk (Tk.mk tl tf td te) i 0 = [] := rfl
                rw [this, List.append_nil]
                exact HS.out.below HBw1.out
              case round =>
                obtain ⟨q, vs2, hq, rfl, HS2, HB3, HBX2⟩ := hrel
                obtain ⟨wI, rfl⟩ : ∃ wI : World, wI = wr := ⟨_, rfl⟩
                obtain ⟨M, hM⟩ : ∃ M, insAll (L0 ++ dBlk (Tk.mk tl tf td te) i q) = M := ⟨_, rfl⟩
                rw [hM] at HS2
                have hml : M.length ≤ 200 := by rw [← hM, insAll_len, List.length_append, dBlk_len]; omega
                have HM3 : Hid (∀ x ∈ M, x.length = 3) := Lib.hid (by
                  rw [← hM]
                  refine ins_three (l := l) (s := s) _ (fun x hx => ?_)
                  rcases List.mem_append.1 hx with h | h
                  · exact HL3.out x h
                  · obtain ⟨_, _, rfl⟩ := List.mem_map.1 h; rfl)
                have HM := Lib.hid hM
                clear hM
                obtain ⟨A9, c9, rfl, hc9, hm9, -⟩ := own_rd HS2.out.outer
                rw [maxLen_eq] at hm9
                obtain ⟨x0, x1, x2, x3, hxs⟩ := HBX2.out
                go_wp2_with fail
                refine (shTimes_c tl tf td te s _ HT.out s0 s1).mono ?_; rw [HK.out]; rintro e wT ⟨rfl, hb⟩
                have HS3 := Lib.hid (HS2.out.below hb)
                have HB4 := Lib.hid (bel_then HB3.out hb)
                have HBX3 := Lib.hid (tkAt_below HBX2.out hb)
                clear x0 x1 x2 x3 hxs HS2 HB3 HBX2 hb
                obtain ⟨x0, x1, x2, x3, hxs⟩ := HBX3.out
                by_cases hin : q < K
                · have m0 : 0 ≤ (q : Int) * cy := Int.mul_nonneg (by omega) (by omega)
                  have m1 : (q : Int) * cy ≤ 36001 * cy := Int.mul_le_mul_of_nonneg_right (by omega) (by omega)
                  have e1 : IntKind.i64.wrap ((q : Int) * (Tk.mk tl tf td te).cyc) = (q : Int) * cy := by rw [HCY.out]; exact IntWalk.i64_in _ (by omega)
                  obtain ⟨at0, hat⟩ : ∃ a0, te + (q : Int) * cy = a0 := ⟨_, rfl⟩
                  have e2 : IntKind.i64.wrap (te + (q : Int) * cy) = at0 := by rw [← hat]; exact IntWalk.i64_in _ (by omega)
                  have HAT := Lib.hid hat
                  have hrow : dRow (Tk.mk tl tf td te) i q = [at0, (i : Int), tl] := by
                    unfold dRow
                    rw [HCY.out]
                    dsimp only
                    rw [HAT.out]
                  have HROW := Lib.hid hrow
                  clear hat m0 m1 hrow
                  go_wp2_with fail
                  go_region_held3 (fun w' => w'.cell? ⟨wE.heap.size, 0, none⟩ = some (.int .i64 tl) ∧ w'.cell? ⟨wE.heap.size, 1, none⟩ = some (.int .i64 tf) ∧ w'.cell? ⟨wE.heap.size, 2, none⟩ = some (.int .i64 td) ∧ w'.cell? ⟨wE.heap.size, 3, none⟩ = some (.int .i64 te)) (first | go_keep | (go_split_ands; refine ⟨?_, ?_, ?_, ?_⟩ <;> (rw [hb1.cell (by simp; omega)]; assumption))) (first | (go_at_call 36; refine (cycle_c _ _ _ _ _ HT.out).mono ?_; rintro e w' ⟨rfl, hb1⟩) | (go_at_call 32; refine (shCycle_c _ _ _ _ _ HT.out).mono ?_; rintro e w' ⟨rfl, hb1⟩))
                  have HB5 := Lib.hid (bel_then (bel_dr HB4.out) hb1)
                  have HS5 := Lib.hid ((HS3.out.below (bel_dr (Below.refl _ _))).below hb1)
                  have HBX5 := Lib.hid (tkAt_below (tkAt_below HBX3.out (bel_dr (Below.refl _ _))) hb1)
                  obtain ⟨wX, rfl⟩ : ∃ wX : World, wX = w' := ⟨_, rfl⟩
                  clear x0 x1 x2 x3 hxs HS3 HB4 HBX3 hb1
                  go_upto_block 6 with fail
                  go_cut [14] from 60 to 74 (fun v14 wx => ∃ p : Nat, v14 = .int .i64 p ∧ p ≤ M.length ∧ Hid (posD M at0 M.length = p) ∧ wX = wx)
                  case first =>
                    go_wp2_with fail
                    go_loopw [14] (fun v14 wr => ∃ p : Nat, v14 = .int .i64 p ∧ p ≤ M.length ∧ Hid (posD M at0 M.length = posD M at0 p) ∧ wX = wr) (fun v14 _ => (intOf v14).toNat)
                    case atStart => exact ⟨M.length, rfl, Nat.le_refl _, Lib.hid rfl, rfl⟩
                    case round =>
                      obtain ⟨p, rfl, hp, HP, rfl⟩ := hrel
                      rcases p with _ | p
                      · have hd0 : decide ((0 : Int) < 0) = false := by decide
                        go_wp2_with fail
                        go_meet
                        exact ⟨0, rfl, Nat.zero_le _, Lib.hid HP.out, rfl⟩
                      · obtain ⟨g, br, offr, cu, o, rfl, y0, y1⟩ := ssv_head HS5.out HM3.out (p := p) (by omega)
                        have s1x : IntKind.i64.wrap (p : Int) = (p : Int) := IntWalk.i64_in _ (by omega)
                        have j0 : (0 : Int) ≤ (p : Int) := Int.natCast_nonneg _
                        have j1 : (p : Int) < (M.length : Int) := by omega
                        have hpz : (0 : Int) < (p : Int) + 1 := by omega
                        have HPS : Hid (posD M at0 (p + 1) = if at0 < aOf (M.getD p []) then posD M at0 p else p + 1) := Lib.hid rfl
                        obtain ⟨hd, hhd⟩ : ∃ hd, aOf (M.getD p []) = hd := ⟨_, rfl⟩
                        rw [hhd] at y1 HPS
                        clear hhd
                        by_cases hlt2 : at0 < hd
                        · go_wp2
                          exact ⟨⟨p, by go_num, by omega, Lib.hid (by rw [HP.out, HPS.out, if_pos (by omega)]), by first | rfl | trivial⟩, by simp [intOf]⟩
                        · go_wp2_with fail
                          go_meet
                          exact ⟨p + 1, by go_num, by omega, Lib.hid (by rw [HP.out, HPS.out, if_neg (by omega)]), by first | rfl | trivial⟩
                  case rest =>
                    obtain ⟨p, rfl, hpl, HP, rfl⟩ := hcut
                    have hvl := HS5.out.len
                    obtain ⟨DA, hSL, hD0, hP0⟩ := cut_rows HS5.out.outer hvl hpl hc9 (by omega)
                    have HSL := Lib.hid hSL
                    have HD := Lib.hid hD0
                    have HPR := Lib.hid hP0
                    have HVS := Lib.hid hvl
                    have H1 := Lib.hid (ssv_one HS5.out)
                    obtain ⟨t0, -, -, -, hRT⟩ := HBX5.out
                    clear hvl hSL hD0 hP0
                    go_wp2_with fail
                    refine wp_region_inv3 (by kernel_rfl) (by kernel_rfl) (by kernel_rfl) (fun V w' => I22 wX wE.heap.size at0 (i : Int) tl A9 DA M.length c9 p vs2 V w') (i22_start _ _ _ _ _ _ _ _ _ _ _) ?_ ?_
                    · intro V w' hI hcl i9 o ho hi17 hVi hp a9 hin hout hout2 KK hKK
                      have D : D22 V := ⟨fun h => wait_some (by kernel_rfl) (hcl 4 h), fun h => wait_some (by kernel_rfl) (hcl 10 h), fun h => ⟨wait_some (by kernel_rfl) (hcl 11 h), wait_some (by kernel_rfl) (hcl 11 h)⟩, fun h => wait_some (by kernel_rfl) (hcl 15 h), fun h => wait_some (by kernel_rfl) (hcl 16 h)⟩
                      have hi17 : i9 < 17 := hi17
                      obtain rfl | rfl | rfl | rfl | rfl | rfl | rfl | rfl | rfl | rfl | rfl | rfl | rfl | rfl | rfl | rfl | rfl : i9 = 0 ∨ i9 = 1 ∨ i9 = 2 ∨ i9 = 3 ∨ i9 = 4 ∨ i9 = 5 ∨ i9 = 6 ∨ i9 = 7 ∨ i9 = 8 ∨ i9 = 9 ∨ i9 = 10 ∨ i9 = 11 ∨ i9 = 12 ∨ i9 = 13 ∨ i9 = 14 ∨ i9 = 15 ∨ i9 = 16 := by omega
                      · obtain rfl := Option.some.inj ho
                        exact op22_0 hI D hVi  hKK
                      · obtain rfl := Option.some.inj ho
                        have n3 : V 3 = none := dNone (fun h => wait_some (by kernel_rfl) (hcl 3 h)) hVi
                        have n4 : V 4 = none := dNone (fun h => wait_some (by kernel_rfl) (hcl 4 h)) n3
                        have n11 : V 11 = none := dNone (fun h => (D.d11 h).1) n4
                        have n15 : V 15 = none := dNone D.d15 n11
                        have n16 : V 16 = none := dNone D.d16 n15
                        exact op22_1 hI D hVi ((hout2 16 9 (by kernel_rfl) (by decide) n16).trans rfl) hKK
                      · obtain rfl := Option.some.inj ho
                        exact op22_2 hI D hVi ((hout 14 (by kernel_rfl)).trans rfl) hKK
                      · obtain rfl := Option.some.inj ho
                        exact op22_3 hI D hVi (fun v hv => hin 1 76 v (by kernel_rfl) (by decide) (by simp) hv) (fun v hv => hin 2 77 v (by kernel_rfl) (by decide) (by simp) hv) (wait_some (by kernel_rfl) hp) (wait_some (by kernel_rfl) hp) HVS.out hpl hc9 hml H1.out hKK
                      · obtain rfl := Option.some.inj ho
                        exact op22_4 hI D hVi (fun v hv => hin 0 75 v (by kernel_rfl) (by decide) (by simp) hv) (fun v hv => hin 3 78 v (by kernel_rfl) (by decide) (by simp) hv) (wait_some (by kernel_rfl) hp) (wait_some (by kernel_rfl) hp) HPR.out HVS.out hpl hc9 hml H1.out hKK
                      · obtain rfl := Option.some.inj ho
                        exact op22_5 hI D hVi ((hout 13 (by kernel_rfl)).trans rfl) hKK
                      · obtain rfl := Option.some.inj ho
                        exact op22_6 hI D hVi ((hout 10 (by kernel_rfl)).trans rfl) hKK
                      · obtain rfl := Option.some.inj ho
                        exact op22_7 hI D hVi ((hout 11 (by kernel_rfl)).trans rfl) hKK
                      · obtain rfl := Option.some.inj ho
                        exact op22_8 hI D hVi (fun v hv => hin 7 82 v (by kernel_rfl) (by decide) (by simp) hv) (wait_some (by kernel_rfl) hp) hRT t0 hKK
                      · obtain rfl := Option.some.inj ho
                        exact op22_9 hI D hVi (fun v hv => hin 5 80 v (by kernel_rfl) (by decide) (by simp) hv) (fun v hv => hin 6 81 v (by kernel_rfl) (by decide) (by simp) hv) (fun v hv => hin 8 83 v (by kernel_rfl) (by decide) (by simp) hv) (wait_some (by kernel_rfl) hp) (wait_some (by kernel_rfl) hp) (wait_some (by kernel_rfl) hp) hKK
                      · obtain rfl := Option.some.inj ho
                        exact op22_10 hI D hVi (fun v hv => hin 9 84 v (by kernel_rfl) (by decide) (by simp) hv) (wait_some (by kernel_rfl) hp) hKK
                      · obtain rfl := Option.some.inj ho
                        exact op22_11 hI D hVi (fun v hv => hin 4 79 v (by kernel_rfl) (by decide) (by simp) hv) (fun v hv => hin 10 85 v (by kernel_rfl) (by decide) (by simp) hv) (wait_some (by kernel_rfl) hp) (wait_some (by kernel_rfl) hp) HVS.out hpl hc9 hml H1.out hKK
                      · obtain rfl := Option.some.inj ho
                        have n14 : V 14 = none := dNone (fun h => wait_some (by kernel_rfl) (hcl 14 h)) hVi
                        have n15 : V 15 = none := dNone (fun h => wait_some (by kernel_rfl) (hcl 15 h)) n14
                        have n16 : V 16 = none := dNone D.d16 n15
                        exact op22_12 hI D hVi ((hout2 16 9 (by kernel_rfl) (by decide) n16).trans rfl) hKK
                      · obtain rfl := Option.some.inj ho
                        exact op22_13 hI D hVi ((hout 14 (by kernel_rfl)).trans rfl) hKK
                      · obtain rfl := Option.some.inj ho
                        exact op22_14 hI D hVi (fun v hv => hin 12 87 v (by kernel_rfl) (by decide) (by simp) hv) (fun v hv => hin 13 88 v (by kernel_rfl) (by decide) (by simp) hv) (wait_some (by kernel_rfl) hp) (wait_some (by kernel_rfl) hp) HSL.out hKK
                      · obtain rfl := Option.some.inj ho
                        have q11 : (V 11).isSome = true := wait_some (by kernel_rfl) hp
                        have q4 : (V 4).isSome = true := (D.d11 q11).1
                        exact op22_15 hI D hVi (fun v hv => hin 11 86 v (by kernel_rfl) (by decide) (by simp) hv) (fun v hv => hin 14 89 v (by kernel_rfl) (by decide) (by simp) hv) (wait_some (by kernel_rfl) hp) (wait_some (by kernel_rfl) hp) q4 HD.out HVS.out hpl hc9 hml H1.out hKK
                      · obtain rfl := Option.some.inj ho
                        exact op22_16 hI D hVi (fun v hv => hin 15 90 v (by kernel_rfl) (by decide) (by simp) hv) (wait_some (by kernel_rfl) hp) hKK
                    · intro V w' hI hall
                      obtain ⟨v0, h0⟩ := dSome (hall 0 (by decide))
                      obtain ⟨v1, h1⟩ := dSome (hall 1 (by decide))
                      obtain ⟨v2, h2⟩ := dSome (hall 2 (by decide))
                      obtain ⟨v3, h3⟩ := dSome (hall 3 (by decide))
                      obtain ⟨v4, h4⟩ := dSome (hall 4 (by decide))
                      obtain ⟨v5, h5⟩ := dSome (hall 5 (by decide))
                      obtain ⟨v6, h6⟩ := dSome (hall 6 (by decide))
                      obtain ⟨v7, h7⟩ := dSome (hall 7 (by decide))
                      obtain ⟨v8, h8⟩ := dSome (hall 8 (by decide))
                      obtain ⟨v9, h9⟩ := dSome (hall 9 (by decide))
                      obtain ⟨v10, h10⟩ := dSome (hall 10 (by decide))
                      obtain ⟨v11, h11⟩ := dSome (hall 11 (by decide))
                      obtain ⟨v12, h12⟩ := dSome (hall 12 (by decide))
                      obtain ⟨v13, h13⟩ := dSome (hall 13 (by decide))
                      obtain ⟨v14, h14⟩ := dSome (hall 14 (by decide))
                      obtain ⟨v15, h15⟩ := dSome (hall 15 (by decide))
                      obtain ⟨v16, h16⟩ := dSome (hall 16 (by decide))
                      obtain ⟨u, A3, c3, e9, e15, ho15⟩ := hI.r15 v15 h15
                      obtain ⟨b9, e9b, ho9⟩ := hI.r9 u e9
                      have e16 := hI.r16 v16 h16
                      rw [h15] at e16
                      obtain rfl := Option.some.inj e16
                      have hs := hI.s9 u v15 e9 (.inr (.inr (.inr h15)))
                      have hlow := hI.low
                      show Exit.inBlock 5 (Exit.then _ _) Exit.normal (putsTo _ V 17 _) _
                      simp only [putsTo, h0, h1, h2, h3, h4, h5, h6, h7, h8, h9, h10, h11, h12, h13, h14, h15, h16, dstAt, List.getElem?_toArray, List.getElem?_cons_zero, List.getElem?_cons_succ, Option.bind_some, Act.put, List.setIfInBounds_toArray, List.set_cons_zero, List.set_cons_succ]
                      clear hI hall
                      have hbs := HB5.out.size
                      have hss := HS5.out.insert hlow hbs hpl (u := u) (l := [at0, (i : Int), tl]) ho9 ho15 hs
                      have hnext : M.take p ++ [[at0, (i : Int), tl]] ++ M.drop p = insAll (L0 ++ dBlk (Tk.mk tl tf td te) i (q + 1)) := by
                        rw [dBlk_succ, ← List.append_assoc, insAll_snoc, HM.out, HROW.out]
                        unfold insD
                        rw [show aOf [at0, (i : Int), tl] = at0 from rfl, HP.out]
                        simp
                      rw [hnext] at hss
                      have HSS := Lib.hid hss
                      have HLOW := Lib.hid hlow
                      clear hss hnext ho15 ho9 hs hlow e9 e9b e16
                      go_wp2
                      exact ⟨⟨q + 1, _, by omega, by go_num, HSS, Lib.hid (bel_then HB5.out HLOW.out), Lib.hid (tkAt_below HBX5.out HLOW.out)⟩, by simp [intOf]; omega⟩
                · obtain rfl : q = K := by omega
                  go_wp2
                  refine ⟨⟨i + 1, vs2, by omega, by go_num, Lib.hid ?_, HB4⟩, by simp [intOf]; omega⟩
                  rw [rowsUp_succ HX.out, HL0.out, HKN.out, HM.out]
                  exact HS3.out
            · obtain rfl : i = l.length := by omega
              go_wp2
              go_ret2
              refine ⟨_, by rw [del_yes HO.out H2.out HC2.out]; rfl, ?_, ?_⟩
              · rw [del_yes HO.out H2.out HC2.out]
                exact ⟨vs, HS.out.base (by have := HB2.out.size; omega)⟩
              · exact bel_then HB2.out HBL.out
        · have hgt : 200 < C := by omega
          go_wp2_with fail
          go_ret2
          refine ⟨_, by rw [del_no3 (by omega)]; rfl, ?_, bel_then HB1.out HB.out⟩
          rw [del_no3 (by omega)]
          exact ⟨[], SSv.nil _ _⟩
  · have H := Lib.hid h
    clear h
    go_enter Try.func6, Try.ntmps6
    go_wp2_with (first | (go_at_call 29; refine (shAll_c _ l _ HR.out).mono ?_; rintro e w' ⟨rfl, hb1⟩) | (go_at_call 30; refine (shSecond_c _ _).mono ?_; rintro e w' ⟨rfl, rfl⟩))
    all_goals first
      | (exfalso; have := H.out; simp_all; done)
      | (go_ret2
         have e : deliveriesV l s = ([], false) := by
           unfold deliveriesV
           rw [if_neg (fun k => H.out ⟨k.1, k.2.1⟩)]
         exact ⟨_, by rw [e]; rfl, by rw [e]; exact ⟨[], SSv.nil _ _⟩, by assumption⟩)
end Go.Proofs.Ytbjiipicbcamnaa
