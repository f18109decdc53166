/-
  spec.l1All: all numbers of a slice lie between two.
-/
import Derived.Test.YtbjiipicbcamnaaNumF
import Derived.Test.YtbjiipicbcamnaaMem
import Derived.Test.YtbjiipicbcamnaaPure
namespace Go.Proofs.Ytbjiipicbcamnaa
open Go.RowKit

set_option maxHeartbeats 400000 in
theorem l1All_c (v : Value) (l : List Int) (lo hi : Int) (w : World) (hr : Rd w v l.length (l.map (Value.int .i64))) :
    Calls Try.prog 64 #[v, .int .i64 lo, .int .i64 hi] w fun en w' => en = .returned (.bool (l.all fun n => inB n lo hi)) ∧ w = w' := by
  obtain ⟨A, c, rfl, hc, hm, hr⟩ := hr
  rw [maxLen_eq] at hm
  go_enter Try.func64, Try.ntmps64
  go_wp2
  go_loop [8, 11] (fun _ i => ∃ k : Nat, k ≤ l.length ∧ i = .int .i64 k ∧ (l.take k).all (fun n => inB n lo hi) = true) (fun _ i => l.length - (intOf i).toNat)
  case atStart => exact ⟨0, Nat.zero_le _, rfl, rfl⟩
  case round =>
    obtain ⟨k, hk, rfl, hall⟩ := hrel
    by_cases hlt : k < l.length
    · obtain ⟨b, off, rfl, hbl, hcell⟩ := hr (by omega)
      have hx : l[k]? = some l[k] := by simp [hlt]
      generalize l[k] = t at hx
      have c0 := hcell k (.int .i64 t) (by simp [hx])
      have HX := Lib.hid hx
      have HA := Lib.hid hall
      clear hx hall
      go_wp2_with (go_at_call 58; refine (l1In_c _ _ _ _).mono ?_; rintro e w' ⟨rfl, rfl⟩)
      · go_ret
        refine ⟨?_, rfl⟩
        have h : inB t lo hi = false := by simp_all
        rw [all_false_at HX.out (by simpa using h)]; rfl
      · refine ⟨⟨k + 1, by omega, by go_num, ?_⟩, by simp [intOf]; omega⟩
        rw [all_take_succ HX.out, HA.out]; simp_all
    · go_wp2
      go_ret
      rw [List.take_of_length_le (by omega)] at hall
      exact ⟨by rw [hall]; rfl, rfl⟩

end Go.Proofs.Ytbjiipicbcamnaa
