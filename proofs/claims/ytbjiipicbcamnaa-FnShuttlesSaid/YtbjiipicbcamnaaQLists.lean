/-
  laws.qLists: lists of lists of ints compared.
-/
import Derived.Test.YtbjiipicbcamnaaSS
import Derived.Test.YtbjiipicbcamnaaQInts
import Derived.Deep.RegionHeld3
namespace Go.Proofs.Ytbjiipicbcamnaa
open Go.RowKit

set_option maxRecDepth 100000 in
set_option maxHeartbeats 1000000 in
theorem qLists_c (v v' : Value) (l l' : List (List Int)) (w : World) (hr : RdSS w v l) (hr' : RdSS w v' l') :
    Calls Try.prog 26 #[v, v'] w fun en w' => en = .returned (.bool (decide (l = l'))) ∧ Below w.heap.size w w' := by
  obtain ⟨vs, hv⟩ := hr
  obtain ⟨us, hu⟩ := hr'
  have HV := Lib.hid hv
  have HU := Lib.hid hu
  obtain ⟨A, c, rfl, hc, hm, hr⟩ := hv.outer
  obtain ⟨A', c', rfl, hc', hm', hr'⟩ := hu.outer
  have hvl := hv.len
  have hul := hu.len
  rw [maxLen_eq] at hm hm'
  clear hv hu
  by_cases hlen : l.length = l'.length
  · have hlb : ((l.length : Int) != l'.length) = false := by rw [hlen]; simp
    have HL := Lib.hid hlen
    clear hlen
    go_enter Try.func26, Try.ntmps26
    go_wp2
    go_loopw [13] (fun i wr => ∃ k : Nat, k ≤ l.length ∧ i = .int .i64 k ∧ l.take k = l'.take k ∧ Below w.heap.size w wr) (fun i _ => l.length - (intOf i).toNat)
    case atStart => exact ⟨0, Nat.zero_le _, rfl, rfl, Below.refl _ _⟩
    case round =>
      obtain ⟨k, hk, rfl, hpre, hb⟩ := hrel
      have HP := Lib.hid hpre
      have HB := Lib.hid hb
      obtain ⟨wA, rfl⟩ : ∃ wA : World, wA = wr := ⟨_, rfl⟩
      clear hpre
      by_cases hlt : k < l.length
      · have hlt' : k < l'.length := by have := HL.out; omega
        obtain ⟨b, off, rfl, hbl, hcell⟩ := hr (by omega)
        obtain ⟨b', off', rfl, hbl', hcell'⟩ := hr' (by omega)
        obtain ⟨x, hx⟩ : ∃ x, vs[k]? = some x := ⟨_, List.getElem?_eq_getElem (by omega)⟩
        obtain ⟨y, hy⟩ : ∃ y, us[k]? = some y := ⟨_, List.getElem?_eq_getElem (by omega)⟩
        obtain ⟨t, ht⟩ : ∃ t, l[k]? = some t := ⟨_, List.getElem?_eq_getElem (by omega)⟩
        obtain ⟨t', ht'⟩ : ∃ t', l'[k]? = some t' := ⟨_, List.getElem?_eq_getElem (by omega)⟩
        have c0 := cell_at hcell hb hbl hx
        have d0 := cell_at hcell' hb hbl' hy
        have hs := hb.size
        have HX : Hid (RdI wA x t) := Lib.hid (rdi_below (HV.out.inner k x t hx ht) hb)
        have HY : Hid (RdI wA y t') := Lib.hid (rdi_below (HU.out.inner k y t' hy ht') hb)
        have HT := Lib.hid ht
        have HT' := Lib.hid ht'
        have i0 : (0 : Int) ≤ (k : Int) := Int.natCast_nonneg _
        have i1 : (k : Int) < (l.length : Int) := by omega
        have i2 : (k : Int) < (l'.length : Int) := by omega
        clear hx hy ht ht' hcell hcell' hr hr' hb
        go_wp2_with fail
        go_region_held3 (fun w' => w'.cell? ⟨b, off + k, none⟩ = some x ∧ w'.cell? ⟨b', off' + k, none⟩ = some y) (first | go_keep | (go_split_ands; refine ⟨?_, ?_⟩ <;> (first | assumption | (rw [hb1.cell (by simp; omega)]; assumption))))
          (first | (go_at_call 57; refine (qInts_c _ _ t t' _ (rdi_below HX.out (bel_dr (Below.refl _ _))) (rdi_below HY.out (bel_dr (Below.refl _ _)))).mono ?_; rintro e w4 ⟨rfl, hb1⟩; have hbT : Below wA.heap.size wA w4 := bel_then (bel_dr (Below.refl _ _)) hb1))
        have HBT := Lib.hid hbT
        clear hbT hb1
        by_cases hh : t = t'
        · rw [decide_eq_true hh]
          go_wp2
          refine ⟨⟨k + 1, by omega, by go_num, ?_, bel_then HB.out HBT.out⟩, by simp [intOf]; omega⟩
          rw [take_succ_of HT.out, take_succ_of HT'.out, HP.out, hh]
        · rw [decide_eq_false hh]
          go_wp2
          go_ret
          refine ⟨?_, bel_then HB.out HBT.out⟩
          have hne : l ≠ l' := fun e => by
            have h1 := HT.out; have h2 := HT'.out; rw [e, h2] at h1
            exact hh (Option.some.inj h1).symm
          rw [decide_eq_false hne]; rfl
      · go_wp2
        go_ret
        refine ⟨?_, HB.out⟩
        have e := HP.out
        rw [List.take_of_length_le (by omega), List.take_of_length_le (by have := HL.out; omega)] at e
        rw [e]; simp
  · have hlb : ((l.length : Int) != l'.length) = true := by simp; omega
    have hne : l ≠ l' := fun e => hlen (by rw [e])
    go_enter Try.func26, Try.ntmps26
    go_wp2
    go_ret
    exact ⟨by rw [decide_eq_false hne]; rfl, Below.refl _ _⟩

end Go.Proofs.Ytbjiipicbcamnaa
