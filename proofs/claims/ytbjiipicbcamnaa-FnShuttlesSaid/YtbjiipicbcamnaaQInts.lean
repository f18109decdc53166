/-
  laws.qInts: lists of ints compared.
-/
import Derived.Test.YtbjiipicbcamnaaInts
import Derived.Test.YtbjiipicbcamnaaMem
import Derived.Test.YtbjiipicbcamnaaGro
import Derived.BigQuiet
namespace Go.Proofs.Ytbjiipicbcamnaa
open Go.RowKit

set_option maxRecDepth 100000 in
set_option maxHeartbeats 4000000 in
theorem qInts_c (v u : Value) (s t : List Int) (w : World) (hs : RdI w v s) (ht : RdI w u t) :
    Calls Try.prog 57 #[v, u] w fun e w' => e = .returned (.bool (decide (s = t))) ∧ Below w.heap.size w w' := by
  obtain ⟨A, c, rfl, hc, hm, hr⟩ := hs
  obtain ⟨A', c', rfl, hc', hm', hr'⟩ := ht
  rw [maxLen_eq] at hm hm'
  have HS := Lib.hid hr
  have HT := Lib.hid hr'
  clear hr hr'
  by_cases hlen : s.length = t.length
  · have hlb : ((s.length : Int) != t.length) = false := by rw [hlen]; simp
    have HL := Lib.hid hlen
    clear hlen
    go_enter Try.func57, Try.ntmps57
    go_wp2_with fail
    go_loopw [13] (fun v6 wr => ∃ k : Nat, k ≤ s.length ∧ v6 = .int .i64 k ∧ Hid (s.take k = t.take k) ∧ Hid (Below w.heap.size w wr)) (fun v6 _ => s.length - (intOf v6).toNat)
    case atStart => exact ⟨0, Nat.zero_le _, rfl, Lib.hid rfl, Lib.hid (Below.refl _ _)⟩
    case round =>
      obtain ⟨k, hk, rfl, HE, HB⟩ := hrel
      have i0 : (0 : Int) ≤ (k : Int) := by omega
      by_cases hlt : k < s.length
      · have hlt2 : k < t.length := by have := HL.out; omega
        obtain ⟨b, off, rfl, hbl, hcell⟩ := HS.out (by omega)
        obtain ⟨b', off', rfl, hbl', hcell'⟩ := HT.out (by omega)
        obtain ⟨x, hx⟩ : ∃ x, s[k]? = some x := ⟨_, List.getElem?_eq_getElem hlt⟩
        obtain ⟨y, hy⟩ : ∃ y, t[k]? = some y := ⟨_, List.getElem?_eq_getElem hlt2⟩
        have c0 := cell_at hcell HB.out hbl (ints_get hx)
        have d0 := cell_at hcell' HB.out hbl' (ints_get hy)
        have i1 : (k : Int) < (s.length : Int) := by omega
        have i2 : (k : Int) < (t.length : Int) := by omega
        have HX := Lib.hid hx
        have HY := Lib.hid hy
        clear hcell hcell' hx hy
        by_cases hxy : x = y
        · have hb : (x != y) = false := by rw [hxy]; simp
          have HN : Hid (s.take (k + 1) = t.take (k + 1)) := Lib.hid (by rw [take_succ_of HX.out, take_succ_of HY.out, HE.out, hxy])
          clear hxy
          go_wp2_with fail
          go_quiet (fail)
          go_wp2
          exact ⟨⟨k + 1, by omega, by go_num, HN, Lib.hid (below_drewN HB.out _)⟩, by simp [intOf]; omega⟩
        · have hb : (x != y) = true := by simp [hxy]
          have HN : Hid (s ≠ t) := Lib.hid (fun e => by
            have h1 := HX.out
            rw [e, HY.out] at h1
            exact hxy (Option.some.inj h1).symm)
          clear hxy
          go_wp2_with fail
          go_quiet (fail)
          go_wp2
          go_ret
          rw [decide_eq_false HN.out]
          exact ⟨rfl, below_drewN HB.out _⟩
      · obtain rfl : k = s.length := by omega
        go_wp2
        go_ret
        have e := HE.out
        rw [List.take_of_length_le (by omega), List.take_of_length_le (by have := HL.out; omega)] at e
        rw [decide_eq_true e]
        exact ⟨rfl, HB.out⟩
  · have hlb : ((s.length : Int) != t.length) = true := by simp; omega
    have HNE : Hid (s ≠ t) := Lib.hid (fun e => hlen (by rw [e]))
    clear hlen
    go_enter Try.func57, Try.ntmps57
    go_wp2
    go_ret
    rw [decide_eq_false HNE.out]
    exact ⟨rfl, Below.refl _ _⟩
end Go.Proofs.Ytbjiipicbcamnaa
