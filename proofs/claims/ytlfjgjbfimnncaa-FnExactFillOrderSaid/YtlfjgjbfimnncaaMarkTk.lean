/-
  Marks on a list of tankers of the call's own; and the law of FillOrder.
-/
import Derived.Test.YtlfjgjbfimnncaaFillS
namespace Go.Proofs.Ytlfjgjbfimnncaa
open Go.RowKit

theorem only_put {a : World} {g : Nat} : ∀ (us : List Value) (w : World) (j : Nat), a.grownBy w (some g) → a.grownBy (setMany w g j us) (some g) := by
  intro us
  induction us with
  | nil => intro w j h; exact h
  | cons u us ih => intro w j h; exact ih _ _ (only_setCell h j u)
theorem some_at {xs : List Value} {j : Nat} (h : j < xs.length) : ∃ u, xs[j]? = some u := ⟨_, List.getElem?_eq_getElem h⟩

set_option maxRecDepth 100000 in
set_option maxHeartbeats 1000000 in
theorem markTankerS_c (v : Value) (xs : List Value) (q : Int) (base n : Nat) (w : World) (ho : w.ownsRow base 34 4 v n xs) (h0 : 0 ≤ q) (h1 : q ≤ 4611686018427387904) (hn : n ≤ 1048576) :
    Calls Try.prog 41 #[v, .int .i64 q] w fun en w' => en = .returned (.int .i64 (q + 4 * n)) ∧ w.grownBy w' v.ownBlock := by
  have hlen := ho.1
  rcases ho.2 with ⟨rfl, rfl⟩ | ⟨g, cap, cur, rfl, hbg, hgh, hnc, hcm, hcs, htk⟩
  · go_enter Try.func41, Try.ntmps41
    go_wp2
    go_loopw [1, 5] (fun a i wr => a = .int .i64 q ∧ i = .int .i64 0 ∧ wr = w) (fun _ _ _ => 0)
    case atStart => exact ⟨rfl, rfl, rfl⟩
    case round =>
      obtain ⟨rfl, rfl, rfl⟩ := hrel
      go_wp2
      go_ret
      exact ⟨ret_int1 (by simp), World.grownBy.refl _ _⟩
  · rw [maxLen_eq] at hcm
    clear htk hgh
    go_enter Try.func41, Try.ntmps41
    go_wp2
    go_loopw [1, 5] (fun a i wr => ∃ k : Nat, k ≤ n ∧ i = .int .i64 k ∧ a = .int .i64 (q + 4 * k) ∧ (∃ ys : List Value, wr.ownsRow base 34 4 (.slice (some ⟨g, 0, none⟩) n cap) n ys) ∧ w.grownBy wr (some g)) (fun _ i _ => n - (intOf i).toNat)
    case atStart => exact ⟨0, Nat.zero_le _, rfl, by simp, ⟨_, ho⟩, World.grownBy.refl _ _⟩
    case round =>
      obtain ⟨k, hk, rfl, rfl, ⟨ys, hown⟩, hg⟩ := hrel
      by_cases hlt : k < n
      · have hyl := hown.1
        obtain ⟨u0, e0⟩ := some_at (xs := ys) (j := k * 4) (by omega)
        obtain ⟨u1, e1⟩ := some_at (xs := ys) (j := k * 4 + 1) (by omega)
        obtain ⟨u2, e2⟩ := some_at (xs := ys) (j := k * 4 + 2) (by omega)
        obtain ⟨u3, e3⟩ := some_at (xs := ys) (j := k * 4 + 3) (by omega)
        have c0 := (hown.cellAt (k * 4) (by omega)).trans e0
        have c1 := (hown.cellAt (k * 4 + 1) (by omega)).trans e1
        have c2 := (hown.cellAt (k * 4 + 2) (by omega)).trans e2
        have c3 := (hown.cellAt (k * 4 + 3) (by omega)).trans e3
        have f0 := hown.frozenAt (k * 4)
        have f1 := hown.frozenAt (k * 4 + 1)
        have f2 := hown.frozenAt (k * 4 + 2)
        have f3 := hown.frozenAt (k * 4 + 3)
        have HO := Lib.hid hown
        clear hown hyl e0 e1 e2 e3
        go_wp2
        refine ⟨⟨k + 1, by omega, by go_num, ?_, ⟨_, own_put [_, _, _, _] wr _ (k * 4) HO.out⟩, only_put [_, _, _, _] wr (k * 4) hg⟩, by simp [intOf]; omega⟩
        exact congrArg (Value.int .i64) (by omega)
      · obtain rfl : k = n := by omega
        go_wp2
        go_ret
        exact ⟨rfl, hg⟩

set_option maxHeartbeats 1000000 in
theorem walk_FnExactFillOrder (w : World) (v : Value) (l : List Tk) (hr : Rd w v l.length (l.flatMap Tk.cells)) :
    Calls Try.prog 12 #[v] w fun en w' => en = .returned (.bool true) ∧ Below w.heap.size w w' := by
  have HR := Lib.hid hr
  clear hr
  by_cases hbig : (1048576 : Int) < l.length
  · go_enter Try.func12, Try.ntmps12
    go_wp2_with (go_at_call 29; refine (szTankerS_big _ l.length _ _ _ (by omega) (by omega) HR.out (by omega)).mono ?_; rintro e w' ⟨rfl, rfl⟩)
    go_ret
    exact ⟨rfl, Below.refl _ _⟩
  · have hgl : (fillOrder l).1.length ≤ 1048576 := by
      unfold fillOrder
      split
      · simp only [isort_length, upFrom_len]; omega
      · simp
    obtain ⟨r1, hr1⟩ : ∃ r1, (fillOrder l).1 = r1 := ⟨_, rfl⟩
    obtain ⟨r2, hr2⟩ : ∃ r2, (fillOrder l).2 = r2 := ⟨_, rfl⟩
    rw [hr1] at hgl
    have hS := fillOrderS_c
    have hI := fillOrderI_c
    have e1 : ∀ (W : World) (e : Ending) (W' : World), OwnIB (fillOrder l) W e W' → ∃ x, e = .returned (.tuple #[x, .bool r2]) ∧ W'.ownsRow W.heap.size 3 1 x r1.length (ints r1) ∧ Below W.heap.size W W' := by
      rintro W e W' ⟨x, h1, h2, h3⟩
      rw [hr1] at h2
      rw [hr2] at h1
      exact ⟨x, h1, h2, h3⟩
    have E1 : Aside _ := e1
    clear e1 hS hI hr1 hr2
    go_enter Try.func12, Try.ntmps12
    go_wp2_with (go_at_call 29; refine (szTankerS_fits _ l.length _ _ _ (by omega) HR.out (by omega)).mono ?_; rintro e w' ⟨rfl, rfl⟩)
    refine (toTankerS_c _ l _ (by omega) HR.out).mono ?_; rintro e w1 ⟨v1, rfl, ho1, hb1⟩
    go_wp2_with fail
    refine (fillOrderS_c _ l _ (own_rd ho1)).mono ?_; intro e w2 hh
    obtain ⟨x0, rfl, hw0, hb2⟩ := E1 _ _ _ hh
    clear hh
    have b2 := bel_then hb1 hb2
    go_wp2_with fail
    refine (toTankerS_c _ l _ (by omega) (rd_below HR.out b2)).mono ?_; rintro e w3 ⟨v3, rfl, ho3, hb3⟩
    go_wp2_with fail
    refine (fillOrderI_c _ l _ (own_rd ho3)).mono ?_; intro e w4 hh
    obtain ⟨g0, rfl, hg0, hb4⟩ := E1 _ _ _ hh
    clear hh
    have b4 := bel_then (bel_then b2 hb3) hb4
    go_wp2_with fail
    refine (eqIntS_c _ _ r1 r1 _ (rdi_own hg0) (rdi_below (rdi_own hw0) (bel_then hb3 hb4))).mono ?_; rintro e w5 ⟨rfl, hb5⟩
    go_wp2_with fail
    have b5 := bel_then b4 hb5
    refine (toTankerS_c _ l _ (by omega) (rd_below HR.out b5)).mono ?_; rintro e w6 ⟨v6, rfl, ho6, hb6⟩
    go_wp2_with fail
    refine (eqTankerS_c _ _ l l _ (rd_below (own_rd ho3) (bel_then (bel_then hb4 hb5) hb6)) (own_rd ho6)).mono ?_; rintro e w7 ⟨rfl, hb7⟩
    go_wp2_with fail
    have b37 := bel_then (bel_then (bel_then hb4 hb5) hb6) hb7
    have b47 := bel_then (bel_then hb5 hb6) hb7
    have b7 := bel_then (bel_then b5 hb6) hb7
    refine (markTankerS_c _ _ 1 _ l.length _ (own_below ho3 b37) (by omega) (by omega) (by omega)).mono ?_; rintro e w8 ⟨rfl, hgr8⟩
    have lt3 := (own_below ho3 b37).lt
    have ltg := (own_below hg0 b47).lt
    have hg8 := (own_below hg0 b47).kept hgr8 (by
      cases hb : g0.ownBlock with
      | none => exact .inl rfl
      | some q =>
        refine .inr (fun h => ?_)
        have h1 := (ltg q hb).1
        have h2 := (ho3.lt q h.symm).2
        omega)
    have b28 : Below w2.heap.size w2 w8 := bel_grown (bel_then hb3 b37) hgr8 (fun q e => (ho3.lt q e).1)
    have b8 : Below w.heap.size w w8 := bel_grown b7 hgr8 (fun q e => by have := (ho3.lt q e).1; have := b2.size; omega)
    go_wp2_with fail
    refine (eqIntS_c _ _ r1 r1 _ (rdi_own hg8) (rdi_below (rdi_own hw0) b28)).mono ?_; rintro e w9 ⟨rfl, hb9⟩
    go_wp2_with fail
    refine (markIntS_c _ r1 1 _ r1.length _ (own_below hg8 hb9) (by omega) (by omega) (by omega)).mono ?_; rintro e w10 ⟨rfl, hg10, hgr10⟩
    have b210 : Below w2.heap.size w2 w10 := bel_grown (bel_then b28 hb9) hgr10 (fun q e => by have := (hg0.lt q e).1; have := hb3.size; omega)
    have b10 : Below w.heap.size w w10 := bel_grown (bel_then b8 hb9) hgr10 (fun q e => by have := (hg0.lt q e).1; have := (bel_then b2 hb3).size; omega)
    go_wp2_with fail
    refine (heldIntS_c _ 1 r1.length _ (rdi_own hg10) (by omega) (by omega) (by omega)).mono ?_; rintro e w11 ⟨rfl, hb11⟩
    go_wp2_with fail
    have b11 := bel_then b10 hb11
    refine (toTankerS_c _ l _ (by omega) (rd_below HR.out b11)).mono ?_; rintro e w12 ⟨v12, rfl, ho12, hb12⟩
    go_wp2_with fail
    refine (fillOrderI_c _ l _ (own_rd ho12)).mono ?_; intro e w13 hh
    obtain ⟨h13, rfl, hh13, hb13⟩ := E1 _ _ _ hh
    clear hh
    go_wp2_with fail
    have b1013 := bel_then (bel_then hb11 hb12) hb13
    refine (eqIntS_c _ _ r1 r1 _ (rdi_own hh13) (rdi_below (rdi_own hw0) (bel_then b210 b1013))).mono ?_; rintro e w14 ⟨rfl, hb14⟩
    go_wp2_with fail
    refine (heldIntS_c _ 1 r1.length _ (rdi_own (own_below hg10 (bel_then b1013 hb14))) (by omega) (by omega) (by omega)).mono ?_; rintro e w15 ⟨rfl, hb15⟩
    go_wp2
    go_ret
    exact ⟨rfl, bel_then (bel_then (bel_then b10 b1013) hb14) hb15⟩
end Go.Proofs.Ytlfjgjbfimnncaa
