/-
  slices.Compare and cmp.Or at ints.
-/
import Derived.Test.YtgdigcnpjkkmfaaMvB
import Derived.Test.YtgdigcnpjkkmfaaPut
namespace Go.Proofs.Ytgdigcnpjkkmfaa
open Go.RowKit

theorem cmpI_less {a b : Int} (h : a < b) : cmpI a b = -1 := by unfold cmpI; rw [if_pos h]
theorem cmpI_more {a b : Int} (h : b < a) : cmpI a b = 1 := by unfold cmpI; rw [if_neg (by omega), if_pos h]
theorem cmpI_same (a : Int) : cmpI a a = 0 := by unfold cmpI; rw [if_neg (by omega), if_neg (by omega)]
theorem cmpL_at {s t : List Int} {k : Nat} {x y : Int} (hx : s[k]? = some x) (hy : t[k]? = some y) : cmpL (s.drop k) (t.drop k) = if x < y then -1 else if y < x then 1 else cmpL (s.drop (k + 1)) (t.drop (k + 1)) := by
  have h1 := (List.getElem?_eq_some_iff.1 hx).1
  have h2 := (List.getElem?_eq_some_iff.1 hy).1
  rw [List.drop_eq_getElem_cons h1, List.drop_eq_getElem_cons h2]
  rw [List.getElem?_eq_getElem h1] at hx
  rw [List.getElem?_eq_getElem h2] at hy
  rw [Option.some.inj hx, Option.some.inj hy]; rfl
set_option maxRecDepth 100000 in
set_option maxHeartbeats 4000000 in
theorem compare_c (v u : Value) (s t : List Int) (w : World) (hs : RdI w v s) (ht : RdI w u t) :
    Calls Try.prog 83 #[v, u] w fun e w' => e = .returned (.int .i64 (cmpL s t)) ∧ w = w' := by
  obtain ⟨A, c, rfl, hc, hm, hr⟩ := hs
  obtain ⟨A', c', rfl, hc', hm', hr'⟩ := ht
  rw [maxLen_eq] at hm hm'
  have HS := Lib.hid hr
  have HT := Lib.hid hr'
  clear hr hr'
  go_enter Try.func83, Try.ntmps83
  go_wp2_with fail
  go_loopw [11] (fun v11 wr => ∃ k : Nat, k ≤ s.length ∧ v11 = .int .i64 k ∧ k ≤ t.length ∧ Hid (cmpL (s.drop k) (t.drop k) = cmpL s t) ∧ w = wr) (fun v11 _ => s.length - (intOf v11).toNat)
  case atStart => exact ⟨0, Nat.zero_le _, rfl, Nat.zero_le _, Lib.hid rfl, rfl⟩
  case round =>
    obtain ⟨k, hk, rfl, hkt, HE, rfl⟩ := hrel
    have i0 : (0 : Int) ≤ (k : Int) := by omega
    by_cases hlt : k < s.length
    · obtain ⟨b, off, rfl, hbl, hcell⟩ := HS.out (by omega)
      obtain ⟨x, hx⟩ : ∃ x, s[k]? = some x := ⟨_, List.getElem?_eq_getElem hlt⟩
      have c0 := hcell _ _ (ints_get hx)
      have HX := Lib.hid hx
      clear hcell hx
      by_cases hlt2 : k < t.length
      · obtain ⟨b', off', rfl, hbl', hcell'⟩ := HT.out (by omega)
        obtain ⟨y, hy⟩ : ∃ y, t[k]? = some y := ⟨_, List.getElem?_eq_getElem hlt2⟩
        have d0 := hcell' _ _ (ints_get hy)
        have i1 : (k : Int) < (t.length : Int) := by omega
        have HC := Lib.hid (cmpL_at HX.out hy)
        clear hcell' hy
        go_wp2_with fail
        refine (cmpInt_c x y _).mono ?_; rintro e w2 ⟨rfl, rfl⟩
        rcases Int.lt_trichotomy x y with h | h | h
        · rw [cmpI_less h]
          have HF : Hid (cmpL s t = -1) := Lib.hid (by rw [← HE.out, HC.out, if_pos h])
          clear h
          go_wp2
          go_ret
          rw [HF.out]
          exact ⟨rfl, (by first | rfl | trivial)⟩
        · subst h
          rw [cmpI_same]
          have HE2 : Hid (cmpL (s.drop (k + 1)) (t.drop (k + 1)) = cmpL s t) := Lib.hid (by rw [← HE.out, HC.out, if_neg (by omega), if_neg (by omega)])
          go_wp2
          exact ⟨⟨k + 1, by omega, by go_num, by omega, HE2, (by first | rfl | trivial)⟩, by simp [intOf]; omega⟩
        · rw [cmpI_more h]
          have HF : Hid (cmpL s t = 1) := Lib.hid (by rw [← HE.out, HC.out, if_neg (by omega), if_pos h])
          clear h
          go_wp2
          go_ret
          rw [HF.out]
          exact ⟨rfl, (by first | rfl | trivial)⟩
      · obtain rfl : k = t.length := by omega
        have HF : Hid (cmpL s t = 1) := Lib.hid (by
          have hx := HX.out
          rw [List.getElem?_eq_getElem hlt] at hx
          rw [← HE.out, List.drop_length, List.drop_eq_getElem_cons hlt]; rfl)
        go_wp2
        go_ret
        rw [HF.out]
        exact ⟨rfl, (by first | rfl | trivial)⟩
    · obtain rfl : k = s.length := by omega
      have HF : Hid (cmpL s t = if s.length < t.length then -1 else 0) := Lib.hid (by
        rw [← HE.out, List.drop_length]
        by_cases h : s.length < t.length
        · rw [List.drop_eq_getElem_cons h, if_pos h]; rfl
        · rw [List.drop_of_length_le (by omega), if_neg h]; rfl)
      by_cases h : s.length < t.length
      · go_wp2
        go_ret
        rw [HF.out, if_pos h]
        exact ⟨rfl, (by first | rfl | trivial)⟩
      · go_wp2
        go_ret
        rw [HF.out, if_neg h]
        exact ⟨rfl, (by first | rfl | trivial)⟩

theorem cmpT_01 (s t : List Int) : -1 ≤ cmpT s t ∧ cmpT s t ≤ 1 := by
  unfold cmpT
  split
  · omega
  · split
    · omega
    · exact cmpL_01 s t
theorem orI_two (s t : List Int) : orI (cmpI (s.length : Int) (t.length : Int)) (cmpL s t) = cmpT s t := by
  unfold cmpT orI
  rcases Nat.lt_trichotomy s.length t.length with h | h | h
  · rw [cmpI_less (by omega), if_neg (by omega), if_pos h]
  · rw [show cmpI (s.length : Int) (t.length : Int) = 0 by rw [h]; exact cmpI_same _, if_pos rfl, if_neg (by omega), if_neg (by omega)]
  · rw [cmpI_more (by omega), if_neg (by omega), if_neg (by omega), if_pos h]
end Go.Proofs.Ytgdigcnpjkkmfaa
