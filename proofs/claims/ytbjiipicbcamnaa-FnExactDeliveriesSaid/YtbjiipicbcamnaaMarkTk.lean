/-
  Marks on a list of tankers of the call's own; and the law of FillOrder.
-/
import Derived.Test.YtbjiipicbcamnaaFillS
namespace Go.Proofs.Ytbjiipicbcamnaa
open Go.RowKit

set_option maxRecDepth 100000 in
set_option maxHeartbeats 1000000 in
theorem markTankerS_c (v : Value) (xs : List Value) (q : Int) (base n : Nat) (w : World) (ho : w.ownsRow base 42 4 v n xs) (h0 : 0 ≤ q) (h1 : q ≤ 4611686018427387904) (hn : n ≤ 1048576) :
    Calls Try.prog 11 #[v, .int .i64 q] w fun en w' => en = .returned (.int .i64 (q + 4 * n)) ∧ w.grownBy w' v.ownBlock := by
  have hlen := ho.1
  rcases ho.2 with ⟨rfl, rfl⟩ | ⟨g, cap, cur, rfl, hbg, hgh, hnc, hcm, hcs, htk⟩
  · go_enter Try.func11, Try.ntmps11
    go_wp2
    go_loopw [1, 5] (fun a i wr => a = .int .i64 q ∧ i = .int .i64 0 ∧ wr = w) (fun _ _ _ => 0)
    case atStart => exact ⟨rfl, rfl, rfl⟩
    case round =>
      obtain ⟨rfl, rfl, rfl⟩ := hrel
      go_wp2
      go_ret
      exact ⟨ret_int1 (by simp), World.grownBy.refl _ _⟩
  · rw [maxLen_eq] at hcm
    clear htk hgh
    go_enter Try.func11, Try.ntmps11
    go_wp2
    go_loopw [1, 5] (fun a i wr => ∃ k : Nat, k ≤ n ∧ i = .int .i64 k ∧ a = .int .i64 (q + 4 * k) ∧ (∃ ys : List Value, wr.ownsRow base 42 4 (.slice (some ⟨g, 0, none⟩) n cap) n ys) ∧ w.grownBy wr (some g)) (fun _ i _ => n - (intOf i).toNat)
    case atStart => exact ⟨0, Nat.zero_le _, rfl, by simp, ⟨_, ho⟩, World.grownBy.refl _ _⟩
    case round =>
      obtain ⟨k, hk, rfl, rfl, ⟨ys, hown⟩, hg⟩ := hrel
      by_cases hlt : k < n
      · have hyl := hown.1
        obtain ⟨u0, e0⟩ := some_at (xs := ys) (j := k * 4) (by omega)
        obtain ⟨u1, e1⟩ := some_at (xs := ys) (j := k * 4 + 1) (by omega)
        obtain ⟨u2, e2⟩ := some_at (xs := ys) (j := k * 4 + 2) (by omega)
        obtain ⟨u3, e3⟩ := some_at (xs := ys) (j := k * 4 + 3) (by omega)
        have c0 := (hown.cellAt (k * 4) (by omega)).trans e0
        have c1 := (hown.cellAt (k * 4 + 1) (by omega)).trans e1
        have c2 := (hown.cellAt (k * 4 + 2) (by omega)).trans e2
        have c3 := (hown.cellAt (k * 4 + 3) (by omega)).trans e3
        have f0 := hown.frozenAt (k * 4)
        have f1 := hown.frozenAt (k * 4 + 1)
        have f2 := hown.frozenAt (k * 4 + 2)
        have f3 := hown.frozenAt (k * 4 + 3)
        have HO := Lib.hid hown
        clear hown hyl e0 e1 e2 e3
        go_wp2
        refine ⟨⟨k + 1, by omega, by go_num, ?_, ⟨_, own_put [_, _, _, _] wr _ (k * 4) HO.out⟩, only_put [_, _, _, _] wr (k * 4) hg⟩, by simp [intOf]; omega⟩
        exact congrArg (Value.int .i64) (by omega)
      · obtain rfl : k = n := by omega
        go_wp2
        go_ret
        exact ⟨rfl, hg⟩

end Go.Proofs.Ytbjiipicbcamnaa
