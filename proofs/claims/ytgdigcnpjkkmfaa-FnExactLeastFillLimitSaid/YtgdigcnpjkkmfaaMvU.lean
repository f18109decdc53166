/-
  The reference's tables: the times of each mover, and who reaches whom out of them.
-/
import Derived.Test.YtgdigcnpjkkmfaaMvT
namespace Go.Proofs.Ytgdigcnpjkkmfaa
open Go.RowKit

def timesL (n : Nat) (ar : List Arc) (p q : List Int) : List (List Int) := p.map fun x => q.map fun s => (distT n ar x.toNat).getD s.toNat 0
theorem timesL_snoc {n : Nat} {ar : List Arc} {p q : List Int} {x : Int} {i : Nat} (h : p[i]? = some x) : timesL n ar (p.take (i + 1)) q = timesL n ar (p.take i) q ++ [q.map fun s => (distT n ar x.toNat).getD s.toNat 0] := by
  unfold timesL; rw [take_succ_of h, List.map_append]; rfl
theorem map_take_succ {f : Int → Int} {q : List Int} {j : Nat} {s : Int} (h : q[j]? = some s) : (q.take (j + 1)).map f = (q.take j).map f ++ [f s] := by
  rw [take_succ_of h, List.map_append]; rfl

set_option maxRecDepth 100000 in
set_option maxHeartbeats 4000000 in
theorem mvTimes_c (n : Nat) (s v u : Value) (l : List St) (p q : List Int) (w : World) (hg : goodTown n l = true) (hp : ∀ x ∈ p, 0 ≤ x ∧ x ≤ (n : Int) - 1) (hq : ∀ x ∈ q, 0 ≤ x ∧ x ≤ (n : Int) - 1) (hp7 : p.length ≤ 7) (hq6 : q.length ≤ 6)
    (hr : Rd w s l.length (l.flatMap St.cells)) (hvp : RdI w v p) (hvq : RdI w u q) :
    Calls Try.prog 41 #[.agg #[.int .i64 n, s], v, u] w (OwnSS (timesL n (arcs l) p q) w) := by
  obtain ⟨hn1, hn2, _, _⟩ := goodTown_true hg
  obtain ⟨A, c, rfl, hc, hm, hvp⟩ := hvp
  obtain ⟨A', c', rfl, hc', hm', hvq⟩ := hvq
  rw [maxLen_eq] at hm hm'
  have HVP := Lib.hid hvp
  have HVQ := Lib.hid hvq
  have HP := Lib.hid hp
  have HQ := Lib.hid hq
  have HG := Lib.hid hg
  have HR := Lib.hid hr
  obtain ⟨As, cs, rfl, _⟩ := hr
  obtain ⟨i0, hi, hz0, hz1, hz2⟩ := info_parts Try.infoInt
  obtain ⟨iS, hiS, hzS0, hzS1, hzS2⟩ := info_parts Try.infoSS
  clear hvp hvq hp hq hg
  go_enter Try.func41, Try.ntmps41
  go_wp2_with fail
  generalize hW : World.alloc w _ = w0
  have t0 : w0.cell? ⟨w.heap.size, 0, none⟩ = some (.int .i64 n) := by subst hW; simp [go_sem]
  have t1 : w0.cell? ⟨w.heap.size, 1, none⟩ = some (.slice As l.length cs) := by subst hW; simp [go_sem]
  have hb0 : Below w.heap.size w w0 := by subst hW; exact bel_al (Below.refl _ _) _
  have hz0' : w.heap.size < w0.heap.size := by subst hW; simp
  have T0 := Lib.hid t0
  have T1 := Lib.hid t1
  have HB0 := Lib.hid hb0
  clear hW t0 t1 hb0
  go_loopw [7, 16] (fun v7 v16 wr => ∃ (k : Nat) (vs : List Value) (L : List (List Int)), k ≤ p.length ∧ L.length = k ∧ v16 = .int .i64 k ∧ Hid (timesL n (arcs l) (p.take k) q = L) ∧ Hid (SSv wr w0.heap.size v7 vs L) ∧ Hid (Below w0.heap.size w0 wr)) (fun _ v16 _ => p.length - (intOf v16).toNat)
  case atStart => exact ⟨0, [], [], Nat.zero_le _, rfl, rfl, Lib.hid rfl, Lib.hid (SSv.nil _ _), Lib.hid (Below.refl _ _)⟩
  case round =>
    obtain ⟨k, vs, L, hk, hLk, rfl, HL, HO, HB⟩ := hrel
    obtain ⟨wA, rfl⟩ : ∃ wA : World, wA = wr := ⟨_, rfl⟩
    by_cases hlt : k < p.length
    · obtain ⟨b, off, rfl, hbl, hcell⟩ := HVP.out (by omega)
      obtain ⟨x, hx⟩ : ∃ x, p[k]? = some x := ⟨_, List.getElem?_eq_getElem hlt⟩
      have c0 := cell_at hcell (bel_then HB0.out HB.out) hbl (ints_get hx)
      have hxb := HP.out x (List.mem_of_getElem? hx)
      obtain ⟨xn, rfl⟩ := Int.eq_ofNat_of_zero_le hxb.1
      have hxn : xn < n := by omega
      have HX := Lib.hid hx
      have z0 := (HB.out.cell (p := ⟨w.heap.size, 0, none⟩) hz0').trans T0.out
      have z1 := (HB.out.cell (p := ⟨w.heap.size, 1, none⟩) hz0').trans T1.out
      have hsA := HB.out.size
      clear hcell hx hxb
      go_wp2_with fail
      refine (toTimes_c n _ l xn _ HG.out hxn (rd_below HR.out (bel_then HB0.out HB.out))).mono ?_
      rintro e w5 ⟨v5, rfl, ho5, hb5⟩
      rw [distT_len] at ho5
      obtain ⟨h, cap5, rfl, hbh, hhl, hcap5, hcm5⟩ := own_shape ho5 (by omega)
      obtain ⟨ev, hev⟩ : ∃ ev, distT n (arcs l) xn = ev := ⟨_, rfl⟩
      rw [hev] at ho5
      have HEV := Lib.hid hev
      have HO5 := Lib.hid ho5
      have HB5 := Lib.hid hb5
      have HBW := Lib.hid (bel_then HB.out hb5)
      have HOS := Lib.hid (HO.out.below hb5)
      have hs5 := hb5.size
      clear ho5 hb5 c0 hev z0 z1
      go_wp2_with fail
      go_loopw [11, 25] (fun v11 v25 wr => ∃ (j : Nat) (S : List Int), j ≤ q.length ∧ S.length = j ∧ v25 = .int .i64 j ∧ Hid ((q.take j).map (fun s => ev.getD s.toNat 0) = S) ∧ Hid (wr.ownsRow w5.heap.size 3 1 v11 S.length (ints S)) ∧ Hid (Below w5.heap.size w5 wr)) (fun _ v25 _ => q.length - (intOf v25).toNat)
      case atStart => exact ⟨0, [], Nat.zero_le _, rfl, rfl, Lib.hid rfl, Lib.hid (show w5.ownsRow w5.heap.size 3 1 (.slice none 0 0) 0 [] from World.ownsRow_nil _ _ _ _), Lib.hid (Below.refl _ _)⟩
      case round =>
        obtain ⟨j, S, hj, hSj, rfl, HS, HOW, HBL⟩ := hrel
        obtain ⟨wB, rfl⟩ : ∃ wB : World, wB = wr := ⟨_, rfl⟩
        by_cases hjn : j < q.length
        · obtain ⟨b2, off2, rfl, hbl2, hcell⟩ := HVQ.out (by omega)
          obtain ⟨y, hy⟩ : ∃ y, q[j]? = some y := ⟨_, List.getElem?_eq_getElem hjn⟩
          have d0 := cell_at hcell (bel_then HB0.out (bel_then HBW.out HBL.out)) hbl2 (ints_get hy)
          have hyb := HQ.out y (List.mem_of_getElem? hy)
          obtain ⟨yn, rfl⟩ := Int.eq_ofNat_of_zero_le hyb.1
          have hyn : yn < n := by omega
          have ce := (HBL.out.cell (p := ⟨h, yn, none⟩) hhl).trans (own_cell HO5.out hyn)
          have HY := Lib.hid hy
          obtain ⟨t, ht⟩ : ∃ t, ev.getD yn 0 = t := ⟨_, rfl⟩
          rw [ht] at ce
          have HT := Lib.hid ht
          have y0 : (0 : Int) ≤ (yn : Int) := by omega
          have y1 : (yn : Int) < (n : Int) := by omega
          have HSJ := Lib.hid hSj
          have hS6 : S.length ≤ 6 := by omega
          clear hcell hy hyb ht hSj
          go_wp2_with (at_builtin; refine wpList_app_rd _ rfl _ _ 25 rfl w5.heap.size 3 i0 (.int .i64 0) 1 8 Try.underlying25 hi hz0 hz1 hz2 rfl (by decide) _ _ _ rfl (HOW.out.alloc _) _ 1 [.int .i64 t] rfl (rd_new _ rfl (Nat.le_refl _) (by rw [maxLen_eq]; omega)) rfl (ints_one [t]) (by rw [maxLen_eq]; omega) (by omega) (by have := HBL.out.size; simp; omega) ?_; intro v' w7 hown' hgrow _)
          refine ⟨⟨j + 1, S ++ [t], by omega, by simp [HSJ.out], by go_num, Lib.hid ?_, Lib.hid ?_, Lib.hid (bel_grown (bel_al HBL.out _) hgrow (fun q e => (HOW.out.lt q e).1))⟩, by simp [intOf]; omega⟩
          · rw [map_take_succ HY.out, HS.out, Int.toNat_natCast, HT.out]
          · rw [ints_append, List.length_append]; exact hown'
        · obtain rfl : j = q.length := by omega
          obtain ⟨A3, c3, hx3, hc3, hm3, _⟩ := own_rd HOW.out
          subst hx3
          rw [maxLen_eq] at hm3
          have HO6 := Lib.hid (HOS.out.below HBL.out)
          have hsB := HBL.out.size
          have hS6 : S.length ≤ 6 := by omega
          subst hLk
          clear hSj
          go_wp2_with (at_builtin; refine wpList_app_rd _ rfl _ _ 39 rfl w0.heap.size 25 iS (.slice none 0 0) 1 24 Try.underlying39 hiS hzS0 hzS1 hzS2 rfl (by decide) _ _ _ rfl (HO6.out.outer.alloc _) _ 1 [.slice A3 S.length c3] rfl (rd_new _ rfl (Nat.le_refl _) (by rw [maxLen_eq]; omega)) rfl (by simp [Value.oneCell']) (by rw [maxLen_eq]; omega) (by omega) (by simp; omega) ?_; intro v' w7 hown' hgrow he)
          refine ⟨⟨L.length + 1, vs ++ [.slice A3 S.length c3], L ++ [S], by omega, by simp, by go_num, Lib.hid ?_, Lib.hid ?_, Lib.hid (bel_grown (bel_al (bel_then HBW.out HBL.out) _) hgrow (fun q e => (HO6.out.outer.lt q e).1))⟩, by simp [intOf]; omega⟩
          · have e := HS.out
            rw [List.take_length] at e
            rw [timesL_snoc HX.out, HL.out, Int.toNat_natCast, HEV.out, e]
          · have hal := bel_al (Below.refl wB.heap.size wB) (.cells #[.slice A3 S.length c3] 25)
            refine (HO6.out.below hal).push (own_base (own_below HOW.out hal) (by omega)) (fun q q' e1 e2 => ?_) (fun i z hz q q' e1 e2 => ?_) hown' hgrow he
            · have h1 := (HOS.out.lt.1 q e1).2
              have h2 := (HOW.out.lt q' e2).1
              omega
            · have h1 := (HOS.out.lt.2 i z hz q e1).2
              have h2 := (HOW.out.lt q' e2).1
              omega
    · obtain rfl : k = p.length := by omega
      go_wp2
      go_ret
      have e := HL.out
      rw [List.take_length] at e
      exact ⟨_, rfl, ⟨vs, by rw [e]; exact HO.out.base (by omega)⟩, bel_then HB0.out HB.out⟩

/-- Rows that a function of their place gives. -/
def rowsF (f : Nat → List Int) (m : Nat) : List (List Int) := (List.range m).map f
theorem rowsF_len (f : Nat → List Int) (m : Nat) : (rowsF f m).length = m := by simp [rowsF]
theorem rowsF_get {f : Nat → List Int} {m k : Nat} (h : k < m) : (rowsF f m)[k]? = some (f k) := by simp [rowsF, h]
theorem rowsF_set {f g : Nat → List Int} {m k : Nat} {x : List Int} (hk : k < m) (h : g k = x) (h' : ∀ i, i ≠ k → g i = f i) : (rowsF f m).set k x = rowsF g m := by
  apply List.ext_getElem?
  intro i
  by_cases hik : i = k
  · subst hik
    rw [List.getElem?_set_self (by rw [rowsF_len]; exact hk), rowsF_get hk, h]
  · rw [List.getElem?_set_ne (fun e => hik e.symm)]
    by_cases hi : i < m
    · rw [rowsF_get hi, rowsF_get hi, h' i hik]
    · rw [List.getElem?_eq_none (by rw [rowsF_len]; omega), List.getElem?_eq_none (by rw [rowsF_len]; omega)]
theorem rowsF_eq {f g : Nat → List Int} {m : Nat} (h : ∀ i, i < m → f i = g i) : rowsF f m = rowsF g m := by
  unfold rowsF
  exact List.map_congr_left (fun i hi => h i (List.mem_range.1 hi))
/-- The places in t whose entry at k lies within a. -/
def colP (t : List (List Int)) (a : Int) (k : Nat) (i : Nat) : Bool := inB ((t.getD i []).getD k 0) 0 a
def mvMix (t : List (List Int)) (a : Int) (k j : Nat) (i : Nat) : List Int := if i < k then selI (colP t a i) t.length else if i = k then selI (colP t a i) j else []
def reachT (t : List (List Int)) (m : Nat) (a : Int) : List (List Int) := rowsF (fun k => selI (colP t a k) t.length) m
theorem mvMix_start (t : List (List Int)) (a : Int) (m : Nat) : rowsF (mvMix t a 0 0) m = List.replicate m [] := by
  apply List.ext_getElem?
  intro i
  by_cases hi : i < m
  · rw [rowsF_get hi, List.getElem?_replicate, if_pos hi]
    unfold mvMix
    rw [if_neg (by omega)]
    split <;> rfl
  · rw [List.getElem?_eq_none (by rw [rowsF_len]; omega), List.getElem?_eq_none (by simp; omega)]
theorem mvMix_next (t : List (List Int)) (a : Int) (k m : Nat) : rowsF (mvMix t a k t.length) m = rowsF (mvMix t a (k + 1) 0) m := rowsF_eq (fun i _ => by
  unfold mvMix
  rcases Nat.lt_trichotomy i k with h | h | h
  · rw [if_pos h, if_pos (by omega)]
  · rw [if_neg (by omega), if_pos h, if_pos (by omega)]
  · rw [if_neg (by omega), if_neg (by omega), if_neg (by omega)]
    split <;> rfl)
theorem mvMix_full (t : List (List Int)) (a : Int) (m : Nat) : rowsF (mvMix t a m 0) m = reachT t m a := rowsF_eq (fun i hi => by unfold mvMix; rw [if_pos hi])
theorem mvMix_yes {t : List (List Int)} {a : Int} {k j m : Nat} (hk : k < m) (h : colP t a k j = true) : (rowsF (mvMix t a k j) m).set k (mvMix t a k j k ++ [(j : Int)]) = rowsF (mvMix t a k (j + 1)) m :=
  rowsF_set hk (by unfold mvMix; rw [if_neg (by omega), if_pos rfl, if_neg (by omega), if_pos rfl, selI_yes h]) (fun i hi => by unfold mvMix; rw [if_neg hi, if_neg hi])
theorem mvMix_no {t : List (List Int)} {a : Int} {k j m : Nat} (h : colP t a k j = false) : rowsF (mvMix t a k (j + 1)) m = rowsF (mvMix t a k j) m :=
  rowsF_eq (fun i _ => by unfold mvMix; by_cases e : i = k
                          · subst e; rw [if_neg (by omega), if_pos rfl, if_neg (by omega), if_pos rfl, selI_no h]
                          · rw [if_neg e, if_neg e])
theorem mvMix_len (t : List (List Int)) (a : Int) (k j : Nat) : (mvMix t a k j k).length ≤ j := by
  unfold mvMix; rw [if_neg (by omega), if_pos rfl]; exact selI_len _ _
theorem made_nils (n : Nat) : (madeCells (Value.slice none 0 0).cells (n * 1)).toList = List.replicate n (.slice none 0 0) := by
  rw [made_eq (sz := 1) rfl (by omega)]
  induction n with
  | zero => rfl
  | succ n ih => rw [List.replicate_succ, List.flatten_cons, ih, List.replicate_succ]; rfl
theorem SSv.made {w : World} {base m : Nat} {v : Value} (h : w.ownsRow base 25 1 v m (List.replicate m (.slice none 0 0))) : SSv w base v (List.replicate m (.slice none 0 0)) (List.replicate m []) := by
  have hn : ∀ (i : Nat) (u : Value), (List.replicate m (Value.slice none 0 0))[i]? = some u → u = .slice none 0 0 := fun i u hu => by
    rw [List.getElem?_replicate] at hu
    split at hu
    · exact (Option.some.inj hu).symm
    · cases hu
  refine ⟨by simp, by simpa using h, fun i u l hu hl => ?_, fun i u hu q q' e1 e2 => ?_, fun i j u u' _ hu _ q q' e1 e2 => ?_⟩
  · rw [hn i u hu]
    have : l = [] := by
      rw [List.getElem?_replicate] at hl
      split at hl
      · exact (Option.some.inj hl).symm
      · cases hl
    subst this
    exact World.ownsRow_nil _ _ _ _
  · rw [hn i u hu] at e2; cases e2
  · rw [hn i u hu] at e1; cases e1
end Go.Proofs.Ytgdigcnpjkkmfaa
