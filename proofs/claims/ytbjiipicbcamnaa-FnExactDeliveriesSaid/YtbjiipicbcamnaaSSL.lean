/-
  Slices of slices of ints: the laws' comparison, marks and look at the marks.
-/
import Derived.Test.YtbjiipicbcamnaaSS
namespace Go.Proofs.Ytbjiipicbcamnaa
open Go.RowKit

set_option maxRecDepth 100000 in
set_option maxHeartbeats 1000000 in
theorem eqIntSS_c (v v' : Value) (l l' : List (List Int)) (w : World) (hr : RdSS w v l) (hr' : RdSS w v' l') :
    Calls Try.prog 9 #[v, v'] w fun en w' => en = .returned (.bool (decide (l = l'))) ∧ Below w.heap.size w w' := by
  obtain ⟨vs, hv⟩ := hr
  obtain ⟨us, hu⟩ := hr'
  have HV := Lib.hid hv
  have HU := Lib.hid hu
  obtain ⟨A, c, rfl, hc, hm, hr⟩ := hv.outer
  obtain ⟨A', c', rfl, hc', hm', hr'⟩ := hu.outer
  have hvl := hv.len
  have hul := hu.len
  rw [maxLen_eq] at hm hm'
  clear hv hu
  by_cases hlen : l.length = l'.length
  · have hlb : ((l.length : Int) != l'.length) = false := by rw [hlen]; simp
    have HL := Lib.hid hlen
    clear hlen
    go_enter Try.func9, Try.ntmps9
    go_wp2
    go_loopw [5] (fun i wr => ∃ k : Nat, k ≤ l.length ∧ i = .int .i64 k ∧ l.take k = l'.take k ∧ Below w.heap.size w wr) (fun i _ => l.length - (intOf i).toNat)
    case atStart => exact ⟨0, Nat.zero_le _, rfl, rfl, Below.refl _ _⟩
    case round =>
      obtain ⟨k, hk, rfl, hpre, hb⟩ := hrel
      have HP := Lib.hid hpre
      have HB := Lib.hid hb
      obtain ⟨wA, rfl⟩ : ∃ wA : World, wA = wr := ⟨_, rfl⟩
      clear hpre
      by_cases hlt : k < l.length
      · have hlt' : k < l'.length := by have := HL.out; omega
        obtain ⟨b, off, rfl, hbl, hcell⟩ := hr (by omega)
        obtain ⟨b', off', rfl, hbl', hcell'⟩ := hr' (by omega)
        obtain ⟨x, hx⟩ : ∃ x, vs[k]? = some x := ⟨_, List.getElem?_eq_getElem (by omega)⟩
        obtain ⟨y, hy⟩ : ∃ y, us[k]? = some y := ⟨_, List.getElem?_eq_getElem (by omega)⟩
        obtain ⟨t, ht⟩ : ∃ t, l[k]? = some t := ⟨_, List.getElem?_eq_getElem (by omega)⟩
        obtain ⟨t', ht'⟩ : ∃ t', l'[k]? = some t' := ⟨_, List.getElem?_eq_getElem (by omega)⟩
        have c0 := cell_at hcell hb hbl hx
        have d0 := cell_at hcell' hb hbl' hy
        have hs := hb.size
        have HX : Hid (RdI wA x t) := Lib.hid (rdi_below (HV.out.inner k x t hx ht) hb)
        have HY : Hid (RdI wA y t') := Lib.hid (rdi_below (HU.out.inner k y t' hy ht') hb)
        have HT := Lib.hid ht
        have HT' := Lib.hid ht'
        have i0 : (0 : Int) ≤ (k : Int) := Int.natCast_nonneg _
        have i1 : (k : Int) < (l.length : Int) := by omega
        have i2 : (k : Int) < (l'.length : Int) := by omega
        clear hx hy ht ht' hcell hcell' hr hr' hb
        go_wp2_with fail
        go_region_held3 (fun w' => w'.cell? ⟨b, off + k, none⟩ = some x ∧ w'.cell? ⟨b', off' + k, none⟩ = some y) (first | go_keep | (go_split_ands; refine ⟨?_, ?_⟩ <;> (first | assumption | (rw [hb1.cell (by simp; omega)]; assumption))))
          (first | (go_at_call 39; refine (eqIntS_c _ _ t t' _ (rdi_below HX.out (bel_dr (Below.refl _ _))) (rdi_below HY.out (bel_dr (Below.refl _ _)))).mono ?_; rintro e w4 ⟨rfl, hb1⟩; have hbT : Below wA.heap.size wA w4 := bel_then (bel_dr (Below.refl _ _)) hb1))
        have HBT := Lib.hid hbT
        clear hbT hb1
        by_cases hh : t = t'
        · rw [decide_eq_true hh]
          go_wp2
          refine ⟨⟨k + 1, by omega, by go_num, ?_, bel_then HB.out HBT.out⟩, by simp [intOf]; omega⟩
          rw [take_succ_of HT.out, take_succ_of HT'.out, HP.out, hh]
        · rw [decide_eq_false hh]
          go_wp2
          go_ret
          refine ⟨?_, bel_then HB.out HBT.out⟩
          have hne : l ≠ l' := fun e => by
            have h1 := HT.out; have h2 := HT'.out; rw [e, h2] at h1
            exact hh (Option.some.inj h1).symm
          rw [decide_eq_false hne]; rfl
      · go_wp2
        go_ret
        refine ⟨?_, HB.out⟩
        have e := HP.out
        rw [List.take_of_length_le (by omega), List.take_of_length_le (by have := HL.out; omega)] at e
        rw [e]; simp
  · have hlb : ((l.length : Int) != l'.length) = true := by simp; omega
    have hne : l ≠ l' := fun e => hlen (by rw [e])
    go_enter Try.func9, Try.ntmps9
    go_wp2
    go_ret
    exact ⟨by rw [decide_eq_false hne]; rfl, Below.refl _ _⟩

set_option maxRecDepth 100000 in
set_option maxHeartbeats 1000000 in
theorem markIntSS_c (v : Value) (ls : List (List Int)) (q : Int) (base : Nat) (w : World) (ho : SS w base v ls) (h0 : 0 ≤ q) (h1 : q ≤ 1000000000) (hn : totL ls ≤ 1000000000) (hB : base ≤ w.heap.size) :
    Calls Try.prog 12 #[v, .int .i64 q] w fun en w' => en = .returned (.int .i64 (q + totL ls)) ∧ SS w' base v (upSS q ls) ∧ Below base w w' := by
  obtain ⟨vs, hs⟩ := ho
  have HS := Lib.hid hs
  have hvl := hs.len
  obtain ⟨A, c, rfl, hc, hm, _⟩ := own_rd hs.outer
  rw [maxLen_eq] at hm
  have hsh : 0 < ls.length → ∃ g, A = some ⟨g, 0, none⟩ := fun h => by
    obtain ⟨g, cap, e, _⟩ := own_shape hs.outer h
    injection e with e _ _
    exact ⟨g, e⟩
  clear hs
  go_enter Try.func12, Try.ntmps12
  go_wp2
  go_loopw [1, 5] (fun a i wr => ∃ k : Nat, k ≤ ls.length ∧ i = .int .i64 k ∧ a = .int .i64 (q + totL (ls.take k)) ∧ Hid (SSv wr base (.slice A ls.length c) vs (mixSS q ls k)) ∧ Hid (Below base w wr) ∧ w.heap.size ≤ wr.heap.size) (fun _ i _ => ls.length - (intOf i).toNat)
  case atStart => exact ⟨0, Nat.zero_le _, rfl, by simp [totL], by rw [mixSS_zero]; exact HS, Lib.hid (Below.refl _ _), Nat.le_refl _⟩
  case round =>
    obtain ⟨k, hk, rfl, rfl, HO, HB, hsz⟩ := hrel
    obtain ⟨wA, rfl⟩ : ∃ wA : World, wA = wr := ⟨_, rfl⟩
    by_cases hlt : k < ls.length
    · obtain ⟨g, rfl⟩ := hsh (by omega)
      obtain ⟨x, hx⟩ : ∃ x, vs[k]? = some x := ⟨_, List.getElem?_eq_getElem (by omega)⟩
      obtain ⟨t, ht⟩ : ∃ t, ls[k]? = some t := ⟨_, List.getElem?_eq_getElem (by omega)⟩
      have hout : wA.ownsRow base 48 1 (.slice (some ⟨g, 0, none⟩) ls.length c) ls.length vs := by have h := HO.out.outer; rw [mixSS_len q ls hk] at h; exact h
      have c0 := (hout.cellAt k (by omega)).trans hx
      clear hout
      have hin := HO.out.inner k x t hx (mixSS_at ht)
      have ht1 := totL_take ht
      have ht2 := totL_le ls (k + 1)
      have HX := Lib.hid hx
      have HT := Lib.hid ht
      have HIN := Lib.hid hin
      obtain ⟨T, hT⟩ : ∃ T, totL (ls.take k) = T := ⟨_, rfl⟩
      rw [hT] at ht1 ⊢
      have HTT := Lib.hid hT
      clear hx ht hin hsh hT
      go_wp2_with fail
      refine (markIntS_c _ t _ base _ _ HIN.out (by omega) (by omega) (by omega)).mono ?_
      rintro e w4 ⟨rfl, ho4, g4⟩
      have HO4 : Hid (SSv w4 base (.slice (some ⟨g, 0, none⟩) ls.length c) vs (mixSS q ls (k + 1))) := Lib.hid (by
        rw [mixSS_succ HT.out, HTT.out]
        exact HO.out.redo HX.out (by rw [upFrom_len]; exact ho4) g4)
      have HB4 : Hid (Below base w w4) := Lib.hid (bel_mark HB.out (by omega) g4 (fun q' e' => (HIN.out.lt q' e').1))
      have hs4 := g4.size
      clear ho4 g4
      go_wp2
      refine ⟨⟨k + 1, by omega, by go_num, ?_, HO4, HB4, by omega⟩, by simp [intOf]; omega⟩
      exact congrArg (Value.int .i64) (by omega)
    · obtain rfl : k = ls.length := by omega
      rw [List.take_length]
      go_wp2
      go_ret
      exact ⟨rfl, ⟨vs, by have h := HO.out; rw [mixSS_full] at h; exact h⟩, HB.out⟩

set_option maxRecDepth 100000 in
set_option maxHeartbeats 1000000 in
theorem heldIntSS_c (v : Value) (ls : List (List Int)) (q : Int) (w : World) (hr : RdSS w v (upSS q ls)) (h0 : 0 ≤ q) (h1 : q ≤ 1000000000) (hn : totL ls ≤ 1000000000) :
    Calls Try.prog 13 #[v, .int .i64 q] w fun en w' => en = .returned (.int .i64 (q + totL ls)) ∧ Below w.heap.size w w' := by
  obtain ⟨vs, hv⟩ := hr
  have HV := Lib.hid hv
  obtain ⟨A, c, rfl, hc, hm, hr⟩ := hv.outer
  have hvl := hv.len
  rw [maxLen_eq] at hm
  rw [upSS_len] at hc hr hvl ⊢
  clear hv
  go_enter Try.func13, Try.ntmps13
  go_wp2
  go_loopw [1, 5] (fun a i wr => ∃ k : Nat, k ≤ ls.length ∧ i = .int .i64 k ∧ a = .int .i64 (q + totL (ls.take k)) ∧ Hid (Below w.heap.size w wr)) (fun _ i _ => ls.length - (intOf i).toNat)
  case atStart => exact ⟨0, Nat.zero_le _, rfl, by simp [totL], Lib.hid (Below.refl _ _)⟩
  case round =>
    obtain ⟨k, hk, rfl, rfl, HB⟩ := hrel
    obtain ⟨wA, rfl⟩ : ∃ wA : World, wA = wr := ⟨_, rfl⟩
    by_cases hlt : k < ls.length
    · obtain ⟨b, off, rfl, hbl, hcell⟩ := hr (by omega)
      obtain ⟨x, hx⟩ : ∃ x, vs[k]? = some x := ⟨_, List.getElem?_eq_getElem (by omega)⟩
      obtain ⟨t, ht⟩ : ∃ t, ls[k]? = some t := ⟨_, List.getElem?_eq_getElem (by omega)⟩
      have c0 := cell_at hcell HB.out hbl hx
      have ht1 := totL_take ht
      have ht2 := totL_le ls (k + 1)
      have HX : Hid (RdI wA x (upFrom (q + totL (ls.take k)) t.length)) := Lib.hid (rdi_below (HV.out.inner k x _ hx (upSS_get ht)) HB.out)
      obtain ⟨T, hT⟩ : ∃ T, totL (ls.take k) = T := ⟨_, rfl⟩
      rw [hT] at ht1 HX ⊢
      clear hx ht hT hcell hr
      go_wp2_with fail
      refine (heldIntS_c _ _ _ _ HX.out (by omega) (by omega) (by omega)).mono ?_
      rintro e w4 ⟨rfl, hb4⟩
      have HB4 := Lib.hid (bel_then HB.out hb4)
      clear hb4
      have p0 : (0 : Int) ≤ q + T + t.length := by omega
      go_wp2
      refine ⟨⟨k + 1, by omega, by go_num, ?_, HB4⟩, by simp [intOf]; omega⟩
      exact congrArg (Value.int .i64) (by omega)
    · obtain rfl : k = ls.length := by omega
      rw [List.take_length]
      go_wp2
      go_ret
      exact ⟨rfl, HB.out⟩
/-- The same with a bound of its blocks. -/
def SSB (w : World) (base H : Nat) (v : Value) (ls : List (List Int)) : Prop :=
  ∃ vs, SSv w base v vs ls ∧ (∀ q, v.ownBlock = some q → q < H) ∧ ∀ (i : Nat) (u : Value), vs[i]? = some u → ∀ q, u.ownBlock = some q → q < H
theorem SS.toB {w : World} {base : Nat} {v : Value} {ls : List (List Int)} (h : SS w base v ls) : SSB w base w.heap.size v ls := by
  obtain ⟨vs, k⟩ := h
  exact ⟨vs, k, fun q e => (k.lt.1 q e).2, fun i u hu q e => (k.lt.2 i u hu q e).2⟩
theorem SSB.ss {w : World} {base H : Nat} {v : Value} {ls : List (List Int)} (h : SSB w base H v ls) : SS w base v ls := h.imp fun _ k => k.1
theorem SSB.below {w w' : World} {base H : Nat} {v : Value} {ls : List (List Int)} (h : SSB w base H v ls) (hb : Below w.heap.size w w') : SSB w' base H v ls := h.imp fun _ k => ⟨k.1.below hb, k.2⟩
theorem SSB.kept {a b : World} {base H : Nat} {v x : Value} {ls : List (List Int)} (h : SSB a base H v ls) (g : a.grownBy b x.ownBlock) (hx : ∀ q, x.ownBlock = some q → q < base ∨ H ≤ q) : SSB b base H v ls := by
  obtain ⟨vs, k, h1, h2⟩ := h
  refine ⟨vs, k.kept g (fun q q' e e' => ?_) (fun i u hu q q' e e' => ?_), h1, h2⟩
  · have a1 := h1 q e
    have a2 := (k.lt.1 q e).1
    have a3 := hx q' e'
    omega
  · have a1 := h2 i u hu q e
    have a2 := (k.lt.2 i u hu q e).1
    have a3 := hx q' e'
    omega
theorem own_belowB {a b : World} {B base : Nat} {e : TypeId} {sz : Nat} {v : Value} {n : Nat} {xs : List Value} (h : a.ownsRow base e sz v n xs) (hb : Below B a b) (hlt : ∀ q, v.ownBlock = some q → q < B) : b.ownsRow base e sz v n xs := by
  refine ⟨h.1, ?_⟩
  rcases h.2 with hn | ⟨g, cap, cur, rfl, h1, hg, rest⟩
  · exact .inl hn
  · exact .inr ⟨g, cap, cur, rfl, h1, (hb.block g (hlt g rfl)).trans hg, rest⟩
theorem SSB.low {a b : World} {B base H : Nat} {v : Value} {ls : List (List Int)} (h : SSB a base H v ls) (hb : Below B a b) (hH : H ≤ B) : SSB b base H v ls := by
  obtain ⟨vs, k, h1, h2⟩ := h
  exact ⟨vs, ⟨k.len, own_belowB k.outer hb (fun q e => Nat.lt_of_lt_of_le (h1 q e) hH), fun i u l hu hl => own_belowB (k.inner i u l hu hl) hb (fun q e => Nat.lt_of_lt_of_le (h2 i u hu q e) hH), k.sep, k.apart⟩, h1, h2⟩
end Go.Proofs.Ytbjiipicbcamnaa
