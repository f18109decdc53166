/-
  slices.Compare at slices of ints.
-/
import Derived.Test.YtbjiipicbcamnaaDelP
namespace Go.Proofs.Ytbjiipicbcamnaa
open Go.RowKit

set_option maxHeartbeats 400000 in
theorem isNaNZ_c (a : Int) (w : World) : Calls Try.prog 75 #[.int .i64 a] w fun e w' => e = .returned (.bool false) ∧ w = w' := by
  have h : (a != a) = false := by simp
  go_enter Try.func75, Try.ntmps75
  go_wp2
  go_ret
  exact ⟨rfl, rfl⟩
set_option maxHeartbeats 400000 in
theorem cmpZ_c (a b : Int) (w : World) : Calls Try.prog 61 #[.int .i64 a, .int .i64 b] w fun e w' => e = .returned (.int .i64 (cmpZ a b)) ∧ w = w' := by
  go_enter Try.func61, Try.ntmps61
  go_wp2_with (go_at_call 75; refine (isNaNZ_c _ _).mono ?_; rintro e w' ⟨rfl, rfl⟩)
  · go_ret
    exact ⟨by unfold cmpZ; rw [if_pos (by assumption)]; rfl, rfl⟩
  · go_ret
    exact ⟨by unfold cmpZ; rw [if_neg (by omega), if_pos (by assumption)]; rfl, rfl⟩
  · go_ret
    exact ⟨by unfold cmpZ; rw [if_neg (by omega), if_neg (by omega)]; rfl, rfl⟩
theorem cmpL_drop {l m : List Int} {k : Nat} {x y : Int} (hx : l[k]? = some x) (hy : m[k]? = some y) : cmpL (l.drop k) (m.drop k) = if cmpZ x y = 0 then cmpL (l.drop (k + 1)) (m.drop (k + 1)) else cmpZ x y := by
  have h1 := (List.getElem?_eq_some_iff.1 hx).1
  have h2 := (List.getElem?_eq_some_iff.1 hy).1
  rw [List.drop_eq_getElem_cons h1, List.drop_eq_getElem_cons h2, (List.getElem?_eq_some_iff.1 hx).2, (List.getElem?_eq_some_iff.1 hy).2]
  rfl
theorem cmpL_more {l m : List Int} {k : Nat} (h1 : k < l.length) (h2 : m.length ≤ k) : cmpL (l.drop k) (m.drop k) = 1 := by
  rw [List.drop_eq_getElem_cons h1, List.drop_eq_nil_of_le h2]; rfl
theorem cmpL_end {l m : List Int} : cmpL (l.drop l.length) (m.drop l.length) = if l.length < m.length then -1 else 0 := by
  rw [List.drop_length]
  by_cases h : l.length < m.length
  · rw [if_pos h, List.drop_eq_getElem_cons h]; rfl
  · rw [if_neg h, List.drop_eq_nil_of_le (by omega)]; rfl
set_option maxRecDepth 100000 in
set_option maxHeartbeats 1000000 in
theorem compare_c (u v : Value) (l m : List Int) (w : World) (hu : RdI w u l) (hv : RdI w v m) :
    Calls Try.prog 38 #[u, v] w fun e w' => e = .returned (.int .i64 (cmpL l m)) ∧ w = w' := by
  obtain ⟨A, c, rfl, hc, hm, hr⟩ := hu
  rw [maxLen_eq] at hm
  obtain ⟨A2, c2, rfl, hc2, hm2, hr2⟩ := hv
  rw [maxLen_eq] at hm2
  have HR := Lib.hid hr
  have HR2 := Lib.hid hr2
  clear hr hr2
  go_enter Try.func38, Try.ntmps38
  go_wp2
  go_loop [11] (fun i => ∃ k : Nat, k ≤ l.length ∧ i = .int .i64 k ∧ Hid (cmpL l m = cmpL (l.drop k) (m.drop k))) (fun i => l.length - (intOf i).toNat)
  case atStart => exact ⟨0, Nat.zero_le _, rfl, Lib.hid rfl⟩
  case round =>
    obtain ⟨k, hk, rfl, HE⟩ := hrel
    by_cases hlt : k < l.length
    · obtain ⟨b, off, rfl, hbl, hcell⟩ := HR.out (by omega)
      obtain ⟨x, hx⟩ : ∃ x, l[k]? = some x := ⟨_, List.getElem?_eq_getElem hlt⟩
      have c0 := hcell k (.int .i64 x) (ints_get hx)
      clear hcell
      by_cases hlt2 : k < m.length
      · obtain ⟨b2, off2, rfl, hbl2, hcell2⟩ := HR2.out (by omega)
        obtain ⟨y, hy⟩ : ∃ y, m[k]? = some y := ⟨_, List.getElem?_eq_getElem hlt2⟩
        have d0 := hcell2 k (.int .i64 y) (ints_get hy)
        have HD := Lib.hid (cmpL_drop hx hy)
        clear hcell2 hx hy
        have k2 : (k : Int) < (m.length : Int) := by omega
        by_cases hz : cmpZ x y = 0
        · have hz' : (cmpZ x y != 0) = false := by simp [hz]
          have HZ := Lib.hid hz
          clear hz
          go_wp2_with (go_at_call 61; refine (cmpZ_c _ _ _).mono ?_; rintro e w' ⟨rfl, rfl⟩)
          exact ⟨⟨k + 1, by omega, by go_num, Lib.hid (by rw [HE.out, HD.out, if_pos HZ.out])⟩, by simp [intOf]; omega⟩
        · have hz' : (cmpZ x y != 0) = true := by simp [hz]
          have HZ := Lib.hid hz
          clear hz
          go_wp2_with (go_at_call 61; refine (cmpZ_c _ _ _).mono ?_; rintro e w' ⟨rfl, rfl⟩)
          go_ret
          exact ⟨by rw [HE.out, HD.out, if_neg HZ.out]; rfl, rfl⟩
      · have k2 : (m.length : Int) ≤ (k : Int) := by omega
        have HD := Lib.hid (cmpL_more (l := l) (m := m) hlt (by omega))
        go_wp2
        go_ret
        exact ⟨by rw [HE.out, HD.out]; rfl, rfl⟩
    · obtain rfl : k = l.length := by omega
      have HD := Lib.hid (cmpL_end (l := l) (m := m))
      by_cases hs : l.length < m.length
      · have hs' : (l.length : Int) < (m.length : Int) := by omega
        go_wp2
        go_ret
        exact ⟨by rw [HE.out, HD.out, if_pos hs]; rfl, rfl⟩
      · have hs' : (m.length : Int) ≤ (l.length : Int) := by omega
        go_wp2
        go_ret
        exact ⟨by rw [HE.out, HD.out, if_neg hs]; rfl, rfl⟩
end Go.Proofs.Ytbjiipicbcamnaa
