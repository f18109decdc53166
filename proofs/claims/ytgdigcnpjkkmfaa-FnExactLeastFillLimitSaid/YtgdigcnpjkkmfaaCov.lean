/-
  Times of attendance of stations: the least travel time from one of them, on both sides.
-/
import Derived.Test.YtgdigcnpjkkmfaaTimesS
namespace Go.Proofs.Ytgdigcnpjkkmfaa
open Go.RowKit

def pickT (o x : Int) : Int := if 0 ≤ x ∧ (o < 0 ∨ x < o) then x else o
def mergeT (d e : List Int) : List Int := List.zipWith pickT d e
def coverL (n : Nat) (ar : List Arc) (q : List Int) : List Int := q.foldl (fun d s => mergeT d (distT n ar s.toNat)) (List.replicate n (-1))
def mixT (d e : List Int) (j : Nat) : List Int := (mergeT d e).take j ++ d.drop j
theorem distT_len (n : Nat) (ar : List Arc) (s : Nat) : (distT n ar s).length = n := by unfold distT; rw [iterT_len, startT_len]
theorem mergeT_len {d e : List Int} {n : Nat} (hd : d.length = n) (he : e.length = n) : (mergeT d e).length = n := by unfold mergeT; simp [hd, he]
theorem mixT_zero (d e : List Int) : mixT d e 0 = d := by simp [mixT]
theorem mixT_full {d e : List Int} {n : Nat} (hd : d.length = n) (he : e.length = n) : mixT d e n = mergeT d e := by
  unfold mixT; rw [List.take_of_length_le (by rw [mergeT_len hd he]; omega), List.drop_eq_nil_of_le (by omega), List.append_nil]
theorem mixT_len {d e : List Int} {n j : Nat} (hd : d.length = n) (he : e.length = n) (hj : j ≤ n) : (mixT d e j).length = n := by
  unfold mixT; rw [List.length_append, List.length_take, mergeT_len hd he, List.length_drop]; omega
theorem mixT_getD {d e : List Int} {n j : Nat} (hd : d.length = n) (he : e.length = n) (hj : j < n) : (mixT d e j).getD j 0 = d.getD j 0 := by
  unfold mixT
  simp only [List.getD]
  rw [List.getElem?_append_right (by rw [List.length_take, mergeT_len hd he]; omega), List.length_take, mergeT_len hd he, List.getElem?_drop]
  congr 2; omega
theorem mixT_set {d e : List Int} {n j : Nat} (hd : d.length = n) (he : e.length = n) (hj : j < n) : (mixT d e j).set j (pickT (d.getD j 0) (e.getD j 0)) = mixT d e (j + 1) := by
  have hm : (mergeT d e)[j]? = some (pickT (d.getD j 0) (e.getD j 0)) := by
    unfold mergeT
    simp [List.getElem?_zipWith, List.getD, List.getElem?_eq_getElem (show j < d.length by omega), List.getElem?_eq_getElem (show j < e.length by omega)]
  unfold mixT
  have hl : ((mergeT d e).take j).length = j := by rw [List.length_take, mergeT_len hd he]; omega
  rw [List.set_append_right (h := by omega), hl, Nat.sub_self, List.drop_eq_getElem_cons (show j < d.length by omega), List.set_cons_zero, take_succ_of hm, List.append_assoc]
  rfl
theorem pick_yes {o x : Int} (h : 0 ≤ x ∧ (o < 0 ∨ x < o)) : pickT o x = x := by unfold pickT; rw [if_pos h]
theorem pick_no {o x : Int} (h : ¬ (0 ≤ x ∧ (o < 0 ∨ x < o))) : pickT o x = o := by unfold pickT; rw [if_neg h]
theorem mix_yes {d e : List Int} {n j : Nat} {o x : Int} (hd : d.length = n) (he : e.length = n) (hj : j < n) (ho : d.getD j 0 = o) (hx : e.getD j 0 = x) (h : 0 ≤ x ∧ (o < 0 ∨ x < o)) : (mixT d e j).set j x = mixT d e (j + 1) := by
  rw [← mixT_set hd he hj, ho, hx, pick_yes h]
theorem mix_no {d e : List Int} {n j : Nat} {o x : Int} (hd : d.length = n) (he : e.length = n) (hj : j < n) (ho : d.getD j 0 = o) (hx : e.getD j 0 = x) (h : ¬ (0 ≤ x ∧ (o < 0 ∨ x < o))) : mixT d e j = mixT d e (j + 1) := by
  rw [← mixT_set hd he hj, ho, hx, pick_no h]
  have h1 : (mixT d e j).getD j 0 = o := by rw [mixT_getD hd he hj, ho]
  have h2 : j < (mixT d e j).length := by rw [mixT_len hd he (by omega)]; exact hj
  rw [← h1]
  simp [List.getD, List.getElem?_eq_getElem h2]
theorem coverL_len (n : Nat) (ar : List Arc) (q : List Int) : (coverL n ar q).length = n := by
  unfold coverL
  have : ∀ (q d : List Int), d.length = n → (q.foldl (fun d s => mergeT d (distT n ar s.toNat)) d).length = n := by
    intro q
    induction q with
    | nil => intro d h; exact h
    | cons s q ih => intro d h; exact ih _ (mergeT_len h (distT_len n ar _))
  exact this q _ (by simp)
theorem coverL_snoc (n : Nat) (ar : List Arc) {q : List Int} {i : Nat} {s : Int} (h : q[i]? = some s) : coverL n ar (q.take (i + 1)) = mergeT (coverL n ar (q.take i)) (distT n ar s.toNat) := by
  unfold coverL; rw [take_succ_of h, List.foldl_append]; rfl

set_option maxRecDepth 100000 in
set_option maxHeartbeats 4000000 in
theorem coverTimes_c (n : Nat) (s v : Value) (l : List St) (q : List Int) (B : Nat) (w : World) (hg : goodTown n l = true) (hq : ∀ x ∈ q, 0 ≤ x ∧ x ≤ (n : Int) - 1) (t0 : w.cell? ⟨B, 0, none⟩ = some (.int .i64 n)) (t1 : w.cell? ⟨B, 1, none⟩ = some s) (hr : Rd w s l.length (l.flatMap St.cells)) (hv : RdI w v q) :
    Calls Try.prog 86 #[.pointer (some ⟨B, 0, none⟩), v] w (OwnI (coverL n (arcs l) q) w) := by
  obtain ⟨A, c, rfl, hc, hm, hv⟩ := hv
  rw [maxLen_eq] at hm
  have hB : B < w.heap.size := World.block_lt_of_cell? w _ t0
  obtain ⟨hn1, hn2, hl40, _⟩ := goodTown_true hg
  have HG := Lib.hid hg
  have HR := Lib.hid hr
  have HV := Lib.hid hv
  have HQ := Lib.hid hq
  clear hg hr hv hq
  go_enter Try.func86, Try.ntmps86
  go_wp2_with fail
  refine (repeat_c _ (-1) n _ (rd_new w rfl (Nat.le_refl _) (by rw [maxLen_eq]; simp)) (by omega) (by omega)).mono ?_
  rintro e w2 ⟨v1, rfl, ho, hb⟩
  rw [List.length_replicate] at ho
  obtain ⟨g, cap, rfl, hbg, hgl, hcap, hcm⟩ := own_shape ho (by omega)
  have hg1 : w.heap.size ≤ g := by simp at hbg; omega
  have HB2 : Hid (Below w.heap.size w w2) := Lib.hid (bel_then (bel_al (Below.refl _ _) _) hb)
  have HO := Lib.hid (own_base (base' := w.heap.size) ho (by simp))
  have HGE : Hid (∀ q, some g = some q → w.heap.size ≤ q) := Lib.hid (fun q e => by have := Option.some.inj e; omega)
  have HT0 := Lib.hid t0
  have HT1 := Lib.hid t1
  clear ho hb hbg t0 t1
  go_wp2_with fail
  go_loopw [18] (fun v18 wr => ∃ (i : Nat) (d : List Int), i ≤ q.length ∧ v18 = .int .i64 i ∧ Hid (coverL n (arcs l) (q.take i) = d) ∧ Hid (wr.ownsRow w.heap.size 3 1 (.slice (some ⟨g, 0, none⟩) n cap) n (ints d)) ∧ Hid (w2.grownBy wr (some g))) (fun v18 _ => q.length - (intOf v18).toNat)
  case atStart => exact ⟨0, _, Nat.zero_le _, rfl, Lib.hid rfl, HO, Lib.hid (World.grownBy.refl _ _)⟩
  case round =>
    obtain ⟨i, d, hi, rfl, HD, HOW, HGR⟩ := hrel
    obtain ⟨wA, rfl⟩ : ∃ wA : World, wA = wr := ⟨_, rfl⟩
    by_cases hlt : i < q.length
    · have hbA : Below w.heap.size w wA := gro_new HB2.out HGR.out HGE.out
      obtain ⟨b, off, rfl, hbl, hcell⟩ := HV.out (by omega)
      have hx : q[i]? = some q[i] := by simp [hlt]
      generalize q[i] = x at hx
      have c0 := cell_at hcell hbA hbl (ints_get hx)
      have hxb := HQ.out x (List.mem_of_getElem? hx)
      obtain ⟨xn, rfl⟩ := Int.eq_ofNat_of_zero_le hxb.1
      have hxn : xn < n := by omega
      have HX := Lib.hid hx
      have hs2 := HGR.out.size
      have HBA := Lib.hid hbA
      clear hcell hbA hx hxb
      go_wp2_with fail
      refine (timesI_c n _ l B xn _ HG.out hxn ((HBA.out.cell (p := ⟨B, 0, none⟩) hB).trans HT0.out) ((HBA.out.cell (p := ⟨B, 1, none⟩) hB).trans HT1.out) (rd_below HR.out HBA.out)).mono ?_
      rintro e w5 ⟨v5, rfl, ho5, hb5⟩
      rw [distT_len] at ho5
      obtain ⟨h, cap5, rfl, hbh, hhl, hcap5, hcm5⟩ := own_shape ho5 (by omega)
      have HB5 := Lib.hid hb5
      have HO5 := Lib.hid ho5
      have hs5 := hb5.size
      have hgA : g < wA.heap.size := (HOW.out.lt g rfl).2
      have HGR5 : Hid (w2.grownBy w5 (some g)) := Lib.hid (gro_bel HGR.out hb5)
      have HOW5 := Lib.hid (own_below HOW.out hb5)
      obtain ⟨ev, hev⟩ : ∃ ev, distT n (arcs l) xn = ev := ⟨_, rfl⟩
      have hel : ev.length = n := by rw [← hev, distT_len]
      rw [hev] at HO5
      have HEV := Lib.hid hev
      have HEL := Lib.hid hel
      have HDL : Hid (d.length = n) := Lib.hid (by rw [← HD.out, coverL_len])
      clear hb5 ho5 c0 hev hel
      go_wp2_with fail
      go_loopw [26] (fun v26 wr2 => ∃ (j : Nat), j ≤ n ∧ v26 = .int .i64 j ∧ Hid (wr2.ownsRow w.heap.size 3 1 (.slice (some ⟨g, 0, none⟩) n cap) n (ints (mixT d ev j))) ∧ Hid (w5.grownBy wr2 (some g))) (fun v26 _ => n - (intOf v26).toNat)
      case atStart => exact ⟨0, Nat.zero_le _, rfl, by rw [mixT_zero]; exact HOW5, Lib.hid (World.grownBy.refl _ _)⟩
      case round =>
        obtain ⟨j, hj, rfl, HOWj, HGRj⟩ := hrel
        obtain ⟨wB, rfl⟩ : ∃ wB : World, wB = wr := ⟨_, rfl⟩
        by_cases hjn : j < n
        · have co := own_cell HOWj.out hjn
          rw [mixT_getD HDL.out HEL.out hjn] at co
          have fo := HOWj.out.frozenAt j
          have ce := (gro_cell (o := j) HGRj.out hhl (by omega)).trans (own_cell HO5.out hjn)
          obtain ⟨o, ho⟩ : ∃ o, d.getD j 0 = o := ⟨_, rfl⟩
          obtain ⟨x, hx⟩ : ∃ x, ev.getD j 0 = x := ⟨_, rfl⟩
          rw [ho] at co
          rw [hx] at ce
          have HOO := Lib.hid ho
          have HXX := Lib.hid hx
          clear ho hx
          go_wp2
          all_goals first
            | (refine ⟨⟨j + 1, by omega, by go_num, Lib.hid ?_, Lib.hid (only_setCell HGRj.out j _)⟩, by simp [intOf]; omega⟩; rw [← mix_yes HDL.out HEL.out hjn HOO.out HXX.out (by omega)]; exact own_setI HOWj.out j x)
            | (refine ⟨⟨j + 1, by omega, by go_num, Lib.hid ?_, HGRj⟩, by simp [intOf]; omega⟩; rw [← mix_no HDL.out HEL.out hjn HOO.out HXX.out (by omega)]; exact HOWj.out)
        · obtain rfl : j = n := by omega
          go_wp2
          refine ⟨⟨i + 1, _, by omega, by go_num, Lib.hid rfl, Lib.hid ?_, Lib.hid (gro_trans HGR5.out HGRj.out)⟩, by simp [intOf]; omega⟩
          rw [coverL_snoc _ _ HX.out, HD.out, Int.toNat_natCast, HEV.out, ← mixT_full HDL.out HEL.out]
          exact HOWj.out
    · obtain rfl : i = q.length := by omega
      go_wp2
      go_ret
      refine ⟨_, rfl, ?_, gro_new HB2.out HGR.out HGE.out⟩
      have e := HD.out
      rw [List.take_length] at e
      rw [coverL_len, e]; exact HOW.out
end Go.Proofs.Ytgdigcnpjkkmfaa
