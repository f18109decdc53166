/-
  MissingKinds: both sides.
-/
import Derived.Test.YtcpchdbhpcebeaaPick
namespace Go.Proofs.Ytcpchdbhpcebeaa
open Go.RowKit

theorem missL_len (f : List Ap) : ∀ (L d : List Int), (missL f L d).length = d.length := by
  intro L
  induction L with
  | nil => intro d; rfl
  | cons i L ih => intro d; unfold missL; rw [List.foldl_cons]; have := ih (missStep f d i); unfold missL at this; rw [this]; unfold missStep; simp
def missingKindsV (n : Int) (l : List St) (f : List Ap) (x : Int) (need : List Int) : List Int × Bool :=
  if askD n l f x = true ∧ needB need = true then ((pickL f (readyL (distT n.toNat (arcs l) x.toNat) f) need).2, true) else ([], false)
theorem missV_no1 {n : Int} {l : List St} {f : List Ap} {x : Int} {need : List Int} (h : askD n l f x = false) : missingKindsV n l f x need = ([], false) := by
  unfold missingKindsV; rw [if_neg (by rw [h]; simp)]
theorem missV_no2 {n : Int} {l : List St} {f : List Ap} {x : Int} {need : List Int} (h : needB need = false) : missingKindsV n l f x need = ([], false) := by
  unfold missingKindsV; rw [if_neg (by rw [h]; simp)]
theorem missV_yes {n src : Nat} {l : List St} {f : List Ap} {need : List Int} (h : askD n l f src = true) (h2 : needB need = true) : missingKindsV n l f src need = ((pickL f (readyL (distT n (arcs l) src) f) need).2, true) := by
  unfold missingKindsV; rw [if_pos ⟨h, h2⟩, Int.toNat_natCast, Int.toNat_natCast]
theorem missingKindsV_len (n : Int) (l : List St) (f : List Ap) (x : Int) (need : List Int) : (missingKindsV n l f x need).1.length ≤ 1000000 := by
  unfold missingKindsV
  split
  · dsimp only
    rw [← pick_miss, missL_len, (needB_true (by rename_i h; exact h.2)).1]; omega
  · simp

set_option maxRecDepth 100000 in
set_option maxHeartbeats 4000000 in
theorem missingKindsS_c (n : Int) (s : Value) (l : List St) (v : Value) (f : List Ap) (x : Int) (vn : Value) (need : List Int) (w : World) (hr : Rd w s l.length (l.flatMap St.cells)) (hz : ∀ x ∈ f, x.nm.size ≤ 9223372036854775807) (hf : Rd w v f.length (f.flatMap Ap.cells)) (hvn : RdI w vn need) :
    Calls Try.prog 35 #[.agg #[.int .i64 n, s], v, .int .i64 x, vn] w (OwnIB (missingKindsV n l f x need) w) := by
  have HR := Lib.hid hr
  have HF := Lib.hid hf
  have HZ := Lib.hid hz
  have HN := Lib.hid hvn
  clear hr hz hf hvn
  go_enter Try.func35, Try.ntmps35
  go_wp2_with fail
  (generalize hw1 : World.alloc w _ = w1; have k0 : w1.cell? ⟨w.heap.size, 0, none⟩ = some (.int .i64 n) := (by subst hw1; simp [go_sem]); have k1 : w1.cell? ⟨w.heap.size, 1, none⟩ = some s := (by subst hw1; simp [go_sem]); have hb0 : Below w.heap.size w w1 := (by subst hw1; exact bel_al (Below.refl _ _) _); have hsz1 : w.heap.size < w1.heap.size := (by subst hw1; simp); clear hw1)
  have HB := Lib.hid hb0
  refine (dsAsked_c n s l _ f x _ (rd_below HR.out HB.out) HZ.out (rd_below HF.out HB.out)).mono ?_; rintro e w2 ⟨rfl, hb1⟩
  have e0 := (hb1.cell (p := ⟨w.heap.size, 0, none⟩) (by show w.heap.size < _; omega)).trans k0
  have e1 := (hb1.cell (p := ⟨w.heap.size, 1, none⟩) (by show w.heap.size < _; omega)).trans k1
  have HB1 := Lib.hid (bel_then HB.out hb1)
  clear k0 k1 hb0 hb1
  by_cases hg : askD n l f x = true
  · have HASK := Lib.hid hg
    rw [hg]
    obtain ⟨hds, hx0, hx1⟩ := askD_true hg
    obtain ⟨hgt, hgf, hnd⟩ := goodDs_true hds
    have hn1 := (goodTown_true hgt).1
    obtain ⟨N, rfl⟩ := Int.eq_ofNat_of_zero_le (show 0 ≤ n by omega)
    obtain ⟨src, rfl⟩ := Int.eq_ofNat_of_zero_le hx0
    have hs : src < N := by omega
    have HGT := Lib.hid hgt
    have HGF := Lib.hid hgf
    have HND := Lib.hid hnd
    clear hg hds hgt hgf hnd hx0 hx1
    go_wp2_with fail
    refine (tbNeed_c _ need _ (rd_below HN.out HB1.out)).mono ?_; rintro e w3 ⟨rfl, rfl⟩
    by_cases hne : needB need = true
    · have HV := Lib.hid (missV_yes HASK.out hne)
      have HNE := Lib.hid hne
      rw [hne]
      clear hne
      go_wp2_with fail
      refine (dsPick_c N s l _ f src _ need _ HGT.out HGF.out HND.out hs HNE.out (rd_below HR.out HB1.out) (rd_below HF.out HB1.out) (rd_below HN.out HB1.out)).mono ?_
      rintro e w3 ⟨xx, yy, zz, rfl, _, hy, _, hb2⟩
      have HY := Lib.hid hy
      have HB2 := Lib.hid (bel_then HB1.out hb2)
      clear e0 e1 hb2 hy
      go_wp2
      go_ret2
      rw [HV.out]
      exact ⟨_, rfl, own_base HY.out HB1.out.size, HB2.out⟩
    · have hne : needB need = false := by simpa using hne
      have HV := Lib.hid (missV_no2 (n := N) (l := l) (f := f) (x := src) hne)
      rw [hne]
      go_wp2
      go_ret2
      rw [HV.out]
      exact ⟨_, rfl, World.ownsRow_nil _ _ _ _, HB1.out⟩
  · have hg : askD n l f x = false := by simpa using hg
    have HV := Lib.hid (missV_no1 (need := need) hg)
    rw [hg]
    go_wp2
    go_ret2
    rw [HV.out]
    exact ⟨_, rfl, World.ownsRow_nil _ _ _ _, HB1.out⟩

set_option maxRecDepth 100000 in
set_option maxHeartbeats 4000000 in
theorem missingKindsI_c (n : Int) (s : Value) (l : List St) (v : Value) (f : List Ap) (x : Int) (vn : Value) (need : List Int) (w : World) (hr : Rd w s l.length (l.flatMap St.cells)) (hz : ∀ x ∈ f, x.nm.size ≤ 9223372036854775807) (hf : Rd w v f.length (f.flatMap Ap.cells)) (hvn : RdI w vn need) :
    Calls Try.prog 37 #[.agg #[.int .i64 n, s], v, .int .i64 x, vn] w (OwnIB (missingKindsV n l f x need) w) := by
  have HR := Lib.hid hr
  have HF := Lib.hid hf
  have HZ := Lib.hid hz
  have HN := Lib.hid hvn
  clear hr hz hf hvn
  go_enter Try.func37, Try.ntmps37
  go_wp2_with fail
  (generalize hw1 : World.alloc w _ = w1; have k0 : w1.cell? ⟨w.heap.size, 0, none⟩ = some (.int .i64 n) := (by subst hw1; simp [go_sem]); have k1 : w1.cell? ⟨w.heap.size, 1, none⟩ = some s := (by subst hw1; simp [go_sem]); have hb0 : Below w.heap.size w w1 := (by subst hw1; exact bel_al (Below.refl _ _) _); have hsz1 : w.heap.size < w1.heap.size := (by subst hw1; simp); clear hw1)
  have HB := Lib.hid hb0
  refine (dispatchFits_c n s l _ f w.heap.size _ k0 k1 (rd_below HR.out HB.out) HZ.out (rd_below HF.out HB.out)).mono ?_; rintro e w2 ⟨rfl, hb1⟩
  have e0 := (hb1.cell (p := ⟨w.heap.size, 0, none⟩) (by show w.heap.size < _; omega)).trans k0
  have e1 := (hb1.cell (p := ⟨w.heap.size, 1, none⟩) (by show w.heap.size < _; omega)).trans k1
  have hs1 := hb1.size
  have HB1 := Lib.hid (bel_then HB.out hb1)
  clear k0 k1 hb0 hb1
  by_cases hg : goodDs n l f = true
  · have HDS := Lib.hid hg
    rw [hg]
    obtain ⟨hgt, hgf, hnd⟩ := goodDs_true hg
    obtain ⟨hn1, hn2, _⟩ := goodTown_true hgt
    have HGT := Lib.hid hgt
    have HGF := Lib.hid hgf
    have HND := Lib.hid hnd
    clear hg hgt hgf hnd
    go_wp2_with fail
    refine (has_c n x _ _ hn1 hn2 e0).mono ?_; rintro e w3 ⟨rfl, rfl⟩
    by_cases hx : inB x 0 (n - 1) = true
    · have HASK : Hid (askD n l f x = true) := Lib.hid (by unfold askD; rw [HDS.out, hx]; rfl)
      rw [hx]
      obtain ⟨hx0, hx1⟩ := inB_true hx
      obtain ⟨N, rfl⟩ := Int.eq_ofNat_of_zero_le (show 0 ≤ n by omega)
      obtain ⟨src, rfl⟩ := Int.eq_ofNat_of_zero_le hx0
      have hs : src < N := by omega
      have E0 := Lib.hid e0
      have E1 := Lib.hid e1
      clear hx hx0 hx1
      go_wp2_with fail
      refine (isNeed_c _ need _ (rd_below HN.out HB1.out)).mono ?_; rintro e w3 ⟨rfl, rfl⟩
      by_cases hne : needB need = true
      · have HV := Lib.hid (missV_yes HASK.out hne)
        have HNE := Lib.hid hne
        rw [hne]
        clear hne
        go_wp2_with fail
        refine (choose_c N s l _ f src w.heap.size _ need _ HGT.out HGF.out HND.out hs HNE.out E0.out E1.out (rd_below HR.out HB1.out) (rd_below HF.out HB1.out) (rd_below HN.out HB1.out)).mono ?_
        rintro e w3 ⟨v5, rfl, ho5, hb2⟩
        have HB2 := Lib.hid (bel_then HB1.out hb2)
        have HO5 := Lib.hid ho5
        have hpm := pick_mem f (fun y => ∃ (i : Nat) (a : Ap), y = (i : Int) ∧ f[i]? = some a) (readyL (distT N (arcs l) src) f) need (fun y hy => by
          obtain ⟨i, a, h1, h2, _⟩ := readyL_mem hy
          exact ⟨i, a, h1, h2⟩)
        have HPM := Lib.hid hpm.1
        have hpl := Nat.le_trans hpm.2 (Nat.le_trans (readyL_len _ _) (goodFl_true HGF.out).1)
        have HPL := Lib.hid hpl
        clear hb2 ho5 hpm hpl e0 e1
        go_wp2_with fail
        refine (missing_c _ f _ _ _ need _ HGF.out HNE.out HPM.out HPL.out (rd_below HF.out HB2.out) (rdi_own HO5.out) (rd_below HN.out HB2.out)).mono ?_
        rintro e w4 ⟨v6, rfl, ho6, hb3⟩
        have HO6 := Lib.hid ho6
        have HB3 := Lib.hid (bel_then HB2.out hb3)
        clear ho6 hb3
        go_wp2
        go_ret2
        rw [HV.out, ← pick_miss]
        exact ⟨_, rfl, own_base HO6.out HB2.out.size, HB3.out⟩
      · have hne : needB need = false := by simpa using hne
        have HV := Lib.hid (missV_no2 (n := N) (l := l) (f := f) (x := src) hne)
        rw [hne]
        go_wp2
        go_ret2
        rw [HV.out]
        exact ⟨_, rfl, World.ownsRow_nil _ _ _ _, HB1.out⟩
    · have hx : inB x 0 (n - 1) = false := by simpa using hx
      have HV := Lib.hid (missV_no1 (l := l) (f := f) (x := x) (n := n) (need := need) (by unfold askD; rw [hx]; simp))
      rw [hx]
      go_wp2
      go_ret2
      rw [HV.out]
      exact ⟨_, rfl, World.ownsRow_nil _ _ _ _, HB1.out⟩
  · have hg : goodDs n l f = false := by simpa using hg
    have HV := Lib.hid (missV_no1 (x := x) (n := n) (l := l) (f := f) (need := need) (by unfold askD; rw [hg]; rfl))
    rw [hg]
    go_wp2
    go_ret2
    rw [HV.out]
    exact ⟨_, rfl, World.ownsRow_nil _ _ _ _, HB1.out⟩
end Go.Proofs.Ytcpchdbhpcebeaa
