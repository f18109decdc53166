/-
  The walks of DryAt's and LeastStore's laws.
-/
import Derived.Test.YtlfjgjbfimnncaaTankJ
import Derived.Test.YtlfjgjbfimnncaaTankS
namespace Go.Proofs.Ytlfjgjbfimnncaa
open Go.RowKit

set_option maxHeartbeats 1000000 in
theorem walk_FnExactDryAt (w : World) (v : Value) (l : List Tk) (hr : Rd w v l.length (l.flatMap Tk.cells)) (a b : Int) :
    Calls Try.prog 10 #[v, .int .i64 a, .int .i64 b] w fun en w' => en = .returned (.bool true) ∧ Below w.heap.size w w' := by
  have HR := Lib.hid hr
  clear hr
  by_cases hbig : (1048576 : Int) < l.length
  · go_enter Try.func10, Try.ntmps10
    go_wp2_with (go_at_call 29; refine (szTankerS_big _ l.length _ _ _ (by omega) (by omega) HR.out (by omega)).mono ?_; rintro e w' ⟨rfl, rfl⟩)
    go_ret
    exact ⟨rfl, Below.refl _ _⟩
  · go_enter Try.func10, Try.ntmps10
    go_wp2_with (go_at_call 29; refine (szTankerS_fits _ l.length _ _ _ (by omega) HR.out (by omega)).mono ?_; rintro e w' ⟨rfl, rfl⟩)
    refine (toTankerS_c _ l _ (by omega) HR.out).mono ?_; rintro e w1 ⟨v1, rfl, ho1, hb1⟩
    go_wp2_with fail
    refine (dryAtS_c _ l _ _ _ (own_rd ho1)).mono ?_; rintro e w2 ⟨rfl, hb2⟩
    have b2 := bel_then hb1 hb2
    go_wp2_with fail
    refine (toTankerS_c _ l _ (by omega) (rd_below HR.out b2)).mono ?_; rintro e w3 ⟨v3, rfl, ho3, hb3⟩
    go_wp2_with fail
    refine (dryAtI_c _ l _ _ _ (own_rd ho3)).mono ?_; rintro e w4 ⟨rfl, hb4⟩
    have b4 := bel_then (bel_then b2 hb3) hb4
    go_wp2_with fail
    refine (toTankerS_c _ l _ (by omega) (rd_below HR.out b4)).mono ?_; rintro e w5 ⟨v5, rfl, ho5, hb5⟩
    go_wp2_with fail
    refine (eqTankerS_c _ _ l l _ (rd_below (own_rd ho3) (bel_then hb4 hb5)) (own_rd ho5)).mono ?_; rintro e w6 ⟨rfl, hb6⟩
    go_wp2
    go_ret
    exact ⟨rfl, bel_then (bel_then b4 hb5) hb6⟩

set_option maxHeartbeats 1000000 in
theorem walk_FnExactLeastStore (w : World) (v : Value) (l : List Tk) (hr : Rd w v l.length (l.flatMap Tk.cells)) (a b : Int) :
    Calls Try.prog 11 #[v, .int .i64 a, .int .i64 b] w fun en w' => en = .returned (.bool true) ∧ Below w.heap.size w w' := by
  have HR := Lib.hid hr
  clear hr
  by_cases hbig : (1048576 : Int) < l.length
  · go_enter Try.func11, Try.ntmps11
    go_wp2_with (go_at_call 29; refine (szTankerS_big _ l.length _ _ _ (by omega) (by omega) HR.out (by omega)).mono ?_; rintro e w' ⟨rfl, rfl⟩)
    go_ret
    exact ⟨rfl, Below.refl _ _⟩
  · go_enter Try.func11, Try.ntmps11
    go_wp2_with (go_at_call 29; refine (szTankerS_fits _ l.length _ _ _ (by omega) HR.out (by omega)).mono ?_; rintro e w' ⟨rfl, rfl⟩)
    refine (toTankerS_c _ l _ (by omega) HR.out).mono ?_; rintro e w1 ⟨v1, rfl, ho1, hb1⟩
    go_wp2_with fail
    refine (leastStoreS_c _ l _ _ _ (own_rd ho1)).mono ?_; rintro e w2 ⟨rfl, hb2⟩
    have b2 := bel_then hb1 hb2
    go_wp2_with fail
    refine (toTankerS_c _ l _ (by omega) (rd_below HR.out b2)).mono ?_; rintro e w3 ⟨v3, rfl, ho3, hb3⟩
    go_wp2_with fail
    refine (leastStoreI_c _ l _ _ _ (own_rd ho3)).mono ?_; rintro e w4 ⟨rfl, hb4⟩
    have b4 := bel_then (bel_then b2 hb3) hb4
    go_wp2_with fail
    refine (toTankerS_c _ l _ (by omega) (rd_below HR.out b4)).mono ?_; rintro e w5 ⟨v5, rfl, ho5, hb5⟩
    go_wp2_with fail
    refine (eqTankerS_c _ _ l l _ (rd_below (own_rd ho3) (bel_then hb4 hb5)) (own_rd ho5)).mono ?_; rintro e w6 ⟨rfl, hb6⟩
    go_wp2
    go_ret
    exact ⟨rfl, bel_then (bel_then b4 hb5) hb6⟩
end Go.Proofs.Ytlfjgjbfimnncaa
