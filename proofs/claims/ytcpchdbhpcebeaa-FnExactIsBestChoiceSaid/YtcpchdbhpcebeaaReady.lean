/-
  ReadyTimes: both sides (printed by gen_ready.py).
-/
import Derived.Test.YtcpchdbhpcebeaaChoices
import Derived.Test.YtcpchdbhpcebeaaTimesI
namespace Go.Proofs.Ytcpchdbhpcebeaa
open Go.RowKit

def OwnChB (r : List Ch × Bool) (w : World) (e : Ending) (w' : World) : Prop := ∃ x, e = .returned (.tuple #[x, .bool r.2]) ∧ w'.ownsRow w.heap.size 96 2 x r.1.length (r.1.flatMap Ch.cells) ∧ Below w.heap.size w w'
theorem dist_len (n : Nat) (l : List St) (src : Nat) : (distT n (arcs l) src).length = n := by unfold distT; rw [iterT_len, startT_len]
def readyTimesV (n : Int) (l : List St) (f : List Ap) (x : Int) : List Ch × Bool :=
  if askD n l f x = true then (chL f (distT n.toNat (arcs l) x.toNat) (readyL (distT n.toNat (arcs l) x.toNat) f), true) else ([], false)
theorem readyTimes_no1 {n : Int} {l : List St} {f : List Ap} {x : Int} (h : askD n l f x = false) : readyTimesV n l f x = ([], false) := by
  unfold readyTimesV; rw [if_neg (by rw [h]; simp)]
theorem readyTimes_yes {n src : Nat} {l : List St} {f : List Ap} (h : askD n l f src = true) : readyTimesV n l f src = (chL f (distT n (arcs l) src) (readyL (distT n (arcs l) src) f), true) := by
  unfold readyTimesV; rw [if_pos h, Int.toNat_natCast, Int.toNat_natCast]
theorem readyTimes_mem {ev : List Int} {f : List Ap} (hfl : goodFl f = true) : (∀ y ∈ (readyL ev f), ∃ (i : Nat) (a : Ap), y = (i : Int) ∧ f[i]? = some a) ∧ (readyL ev f).length ≤ 12 := by
  have hm : ∀ y ∈ readyL ev f, ∃ (i : Nat) (a : Ap), y = (i : Int) ∧ f[i]? = some a := fun y hy => by
    obtain ⟨i, a, h1, h2, _⟩ := readyL_mem hy
    exact ⟨i, a, h1, h2⟩
  have hl := Nat.le_trans (readyL_len ev f) (goodFl_true hfl).1
  exact ⟨hm, hl⟩
theorem readyTimesV_len (n : Int) (l : List St) (f : List Ap) (x : Int) : (readyTimesV n l f x).1.length ≤ 1000000 := by
  unfold readyTimesV
  split
  · dsimp only
    rw [chL_len]
    have := (readyTimes_mem (ev := distT n.toNat (arcs l) x.toNat) (goodDs_true (askD_true (by rename_i h; exact h)).1).2.1).2
    omega
  · simp

set_option maxRecDepth 100000 in
set_option maxHeartbeats 4000000 in
theorem readyTimesS_c (n : Int) (s : Value) (l : List St) (v : Value) (f : List Ap) (x : Int) (w : World) (hr : Rd w s l.length (l.flatMap St.cells)) (hz : ∀ x ∈ f, x.nm.size ≤ 9223372036854775807) (hf : Rd w v f.length (f.flatMap Ap.cells)) :
    Calls Try.prog 30 #[.agg #[.int .i64 n, s], v, .int .i64 x] w (OwnChB (readyTimesV n l f x) w) := by
  have HR := Lib.hid hr
  have HF := Lib.hid hf
  have HZ := Lib.hid hz
  clear hr hz hf
  go_enter Try.func30, Try.ntmps30
  go_wp2_with fail
  (generalize hw1 : World.alloc w _ = w1; have k0 : w1.cell? ⟨w.heap.size, 0, none⟩ = some (.int .i64 n) := (by subst hw1; simp [go_sem]); have k1 : w1.cell? ⟨w.heap.size, 1, none⟩ = some s := (by subst hw1; simp [go_sem]); have hb0 : Below w.heap.size w w1 := (by subst hw1; exact bel_al (Below.refl _ _) _); have hsz1 : w.heap.size < w1.heap.size := (by subst hw1; simp); clear hw1)
  have HB := Lib.hid hb0
  refine (dsAsked_c n s l _ f x _ (rd_below HR.out HB.out) HZ.out (rd_below HF.out HB.out)).mono ?_; rintro e w2 ⟨rfl, hb1⟩
  have e0 := (hb1.cell (p := ⟨w.heap.size, 0, none⟩) (by show w.heap.size < _; omega)).trans k0
  have e1 := (hb1.cell (p := ⟨w.heap.size, 1, none⟩) (by show w.heap.size < _; omega)).trans k1
  have HB1 := Lib.hid (bel_then HB.out hb1)
  clear k0 k1 hb0 hb1
  by_cases hg : askD n l f x = true
  · have HASK := Lib.hid hg
    rw [hg]
    obtain ⟨hds, hx0, hx1⟩ := askD_true hg
    obtain ⟨hgt, hgf, hnd⟩ := goodDs_true hds
    have hn1 := (goodTown_true hgt).1
    obtain ⟨N, rfl⟩ := Int.eq_ofNat_of_zero_le (show 0 ≤ n by omega)
    obtain ⟨src, rfl⟩ := Int.eq_ofNat_of_zero_le hx0
    have hs : src < N := by omega
    have HGT := Lib.hid hgt
    have HGF := Lib.hid hgf
    have HND := Lib.hid hnd
    have HND2 : Hid (∀ a ∈ f, 0 ≤ a.nd ∧ a.nd ≤ ((distT N (arcs l) src).length : Int) - 1) := Lib.hid (by rw [dist_len]; exact hnd)
    clear hg hds hgt hgf hnd hx0 hx1
    go_wp2_with fail
    have HV := Lib.hid (readyTimes_yes HASK.out)
    clear e0 e1
    refine (dsReady_c N s l _ f src _ HGT.out HGF.out HND.out hs (rd_below HR.out HB1.out) (rd_below HF.out HB1.out)).mono ?_
    rintro e w3 ⟨v5, u5, rfl, hv5, hu5, hb2⟩
    have HB2 := Lib.hid (bel_then HB1.out hb2)
    have HL5 := Lib.hid hv5
    have HU5 := Lib.hid hu5
    obtain ⟨hm, hl⟩ := readyTimes_mem (ev := distT N (arcs l) src) HGF.out
    have HM := Lib.hid hm
    clear hm hb2 hv5 hu5
    go_wp2_with fail
    refine (dsChoices_c _ f _ _ _ (distT N (arcs l) src) _ HM.out hl HND2.out (rd_below HF.out HB2.out) HL5.out HU5.out).mono ?_
    rintro e w4 ⟨xx, rfl, ho, hb3⟩
    have HO := Lib.hid ho
    have HB3 := Lib.hid (bel_then HB2.out hb3)
    clear ho hb3
    go_wp2
    go_ret2
    rw [HV.out]
    exact ⟨_, rfl, own_base HO.out HB2.out.size, HB3.out⟩
  · have hg : askD n l f x = false := by simpa using hg
    have HV := Lib.hid (readyTimes_no1 hg)
    rw [hg]
    go_wp2
    go_ret2
    rw [HV.out]
    exact ⟨_, rfl, World.ownsRow_nil _ _ _ _, HB1.out⟩

set_option maxRecDepth 100000 in
set_option maxHeartbeats 4000000 in
theorem readyTimesI_c (n : Int) (s : Value) (l : List St) (v : Value) (f : List Ap) (x : Int) (w : World) (hr : Rd w s l.length (l.flatMap St.cells)) (hz : ∀ x ∈ f, x.nm.size ≤ 9223372036854775807) (hf : Rd w v f.length (f.flatMap Ap.cells)) :
    Calls Try.prog 31 #[.agg #[.int .i64 n, s], v, .int .i64 x] w (OwnChB (readyTimesV n l f x) w) := by
  have HR := Lib.hid hr
  have HF := Lib.hid hf
  have HZ := Lib.hid hz
  clear hr hz hf
  go_enter Try.func31, Try.ntmps31
  go_wp2_with fail
  (generalize hw1 : World.alloc w _ = w1; have k0 : w1.cell? ⟨w.heap.size, 0, none⟩ = some (.int .i64 n) := (by subst hw1; simp [go_sem]); have k1 : w1.cell? ⟨w.heap.size, 1, none⟩ = some s := (by subst hw1; simp [go_sem]); have hb0 : Below w.heap.size w w1 := (by subst hw1; exact bel_al (Below.refl _ _) _); have hsz1 : w.heap.size < w1.heap.size := (by subst hw1; simp); clear hw1)
  have HB := Lib.hid hb0
  refine (dispatchFits_c n s l _ f w.heap.size _ k0 k1 (rd_below HR.out HB.out) HZ.out (rd_below HF.out HB.out)).mono ?_; rintro e w2 ⟨rfl, hb1⟩
  have e0 := (hb1.cell (p := ⟨w.heap.size, 0, none⟩) (by show w.heap.size < _; omega)).trans k0
  have e1 := (hb1.cell (p := ⟨w.heap.size, 1, none⟩) (by show w.heap.size < _; omega)).trans k1
  have hs1 := hb1.size
  have HB1 := Lib.hid (bel_then HB.out hb1)
  clear k0 k1 hb0 hb1
  by_cases hg : goodDs n l f = true
  · have HDS := Lib.hid hg
    rw [hg]
    obtain ⟨hgt, hgf, hnd⟩ := goodDs_true hg
    obtain ⟨hn1, hn2, _⟩ := goodTown_true hgt
    have HGT := Lib.hid hgt
    have HGF := Lib.hid hgf
    have HND := Lib.hid hnd
    clear hg hgt hgf hnd
    go_wp2_with fail
    refine (has_c n x _ _ hn1 hn2 e0).mono ?_; rintro e w3 ⟨rfl, rfl⟩
    by_cases hx : inB x 0 (n - 1) = true
    · have HASK : Hid (askD n l f x = true) := Lib.hid (by unfold askD; rw [HDS.out, hx]; rfl)
      rw [hx]
      obtain ⟨hx0, hx1⟩ := inB_true hx
      obtain ⟨N, rfl⟩ := Int.eq_ofNat_of_zero_le (show 0 ≤ n by omega)
      obtain ⟨src, rfl⟩ := Int.eq_ofNat_of_zero_le hx0
      have hs : src < N := by omega
      have E0 := Lib.hid e0
      have E1 := Lib.hid e1
      have HND2 : Hid (∀ a ∈ f, 0 ≤ a.nd ∧ a.nd ≤ ((distT N (arcs l) src).length : Int) - 1) := Lib.hid (by rw [dist_len]; exact HND.out)
      clear hx hx0 hx1
      go_wp2_with fail
      have HV := Lib.hid (readyTimes_yes HASK.out)
      refine (readyOrder_c N s l _ f src w.heap.size _ HGT.out HGF.out HND.out hs E0.out E1.out (rd_below HR.out HB1.out) (rd_below HF.out HB1.out)).mono ?_
      rintro e w3 ⟨v5, rfl, ho5, hb2⟩
      have f0 := (hb2.cell (p := ⟨w.heap.size, 0, none⟩) (by show w.heap.size < _; omega)).trans E0.out
      have f1 := (hb2.cell (p := ⟨w.heap.size, 1, none⟩) (by show w.heap.size < _; omega)).trans E1.out
      have HB2 := Lib.hid (bel_then HB1.out hb2)
      have HO5 := Lib.hid ho5
      have F0 := Lib.hid f0
      have F1 := Lib.hid f1
      obtain ⟨hm, hl⟩ := readyTimes_mem (ev := distT N (arcs l) src) HGF.out
      have HM := Lib.hid hm
      clear hm hb2 ho5 e0 e1 f0 f1
      go_wp2_with fail
      refine (timesI_c N s l w.heap.size src _ HGT.out hs F0.out F1.out (rd_below HR.out HB2.out)).mono ?_
      rintro e w4 ⟨v6, rfl, ho6, hb3⟩
      have HB3 := Lib.hid (bel_then HB2.out hb3)
      have HO6 := Lib.hid ho6
      have HL5 := Lib.hid (own_below HO5.out hb3)
      clear hb3 ho6
      go_wp2_with fail
      refine (choicesOf_c _ f _ _ _ (distT N (arcs l) src) _ HM.out hl HND2.out (rd_below HF.out HB3.out) (rdi_own HL5.out) (rdi_own HO6.out)).mono ?_
      rintro e w5 ⟨xx, rfl, ho, hb4⟩
      have HO := Lib.hid ho
      have HB4 := Lib.hid (bel_then HB3.out hb4)
      clear ho hb4
      go_wp2
      go_ret2
      rw [HV.out]
      exact ⟨_, rfl, own_base HO.out HB3.out.size, HB4.out⟩
    · have hx : inB x 0 (n - 1) = false := by simpa using hx
      have HV := Lib.hid (readyTimes_no1 (l := l) (f := f) (x := x) (n := n) (by unfold askD; rw [hx]; simp))
      rw [hx]
      go_wp2
      go_ret2
      rw [HV.out]
      exact ⟨_, rfl, World.ownsRow_nil _ _ _ _, HB1.out⟩
  · have hg : goodDs n l f = false := by simpa using hg
    have HV := Lib.hid (readyTimes_no1 (x := x) (n := n) (l := l) (f := f) (by unfold askD; rw [hg]; rfl))
    rw [hg]
    go_wp2
    go_ret2
    rw [HV.out]
    exact ⟨_, rfl, World.ownsRow_nil _ _ _ _, HB1.out⟩
end Go.Proofs.Ytcpchdbhpcebeaa
