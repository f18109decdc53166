/-
  laws.qHas: a number in a list.
-/
import Derived.Test.YtibkadkodblefaaDoorQInts
namespace Go.Proofs.YtibkadkodblefaaDoor
open Go.RowKit

set_option maxRecDepth 100000 in
set_option maxHeartbeats 2000000 in
theorem qHas_c (v : Value) (s : List Int) (n : Int) (w : World) (hs : RdI w v s) :
    Calls Tryd.prog 50 #[v, .int .i64 n] w fun e w' => e = .returned (.bool (decide (n ∈ s))) ∧ Below w.heap.size w w' := by
  obtain ⟨A, c, rfl, hc, hm, hr⟩ := hs
  rw [maxLen_eq] at hm
  have HS := Lib.hid hr
  clear hr
  go_enter Tryd.func50, Tryd.ntmps50
  go_wp2_with fail
  go_loopw [9] (fun v6 wr => ∃ k : Nat, k ≤ s.length ∧ v6 = .int .i64 k ∧ Hid (n ∉ s.take k) ∧ Hid (Below w.heap.size w wr)) (fun v6 _ => s.length - (intOf v6).toNat)
  case atStart => exact ⟨0, Nat.zero_le _, rfl, Lib.hid (by simp), Lib.hid (Below.refl _ _)⟩
  case round =>
    obtain ⟨k, hk, rfl, HE, HB⟩ := hrel
    have i0 : (0 : Int) ≤ (k : Int) := by omega
    by_cases hlt : k < s.length
    · obtain ⟨b, off, rfl, hbl, hcell⟩ := HS.out (by omega)
      obtain ⟨x, hx⟩ : ∃ x, s[k]? = some x := ⟨_, List.getElem?_eq_getElem hlt⟩
      have c0 := cell_at hcell HB.out hbl (ints_get hx)
      have i1 : (k : Int) < (s.length : Int) := by omega
      have HX := Lib.hid hx
      clear hcell hx
      by_cases hxy : x = n
      · have hb : (x == n) = true := by rw [hxy]; simp
        have HN : Hid (n ∈ s) := Lib.hid (hxy ▸ List.mem_of_getElem? HX.out)
        clear hxy
        go_wp2
        go_ret
        rw [decide_eq_true HN.out]
        exact ⟨rfl, HB.out⟩
      · have hb : (x == n) = false := by simp [hxy]
        have HN : Hid (n ∉ s.take (k + 1)) := Lib.hid (by rw [take_succ_of HX.out]; simp only [List.mem_append, List.mem_singleton]; exact fun h => h.elim HE.out (fun e => hxy e.symm))
        clear hxy
        go_wp2
        exact ⟨⟨k + 1, by omega, by go_num, HN, HB⟩, by simp [intOf]; omega⟩
    · obtain rfl : k = s.length := by omega
      go_wp2
      go_ret
      have e := HE.out
      rw [List.take_of_length_le (by omega)] at e
      rw [decide_eq_false e]
      exact ⟨rfl, HB.out⟩
end Go.Proofs.YtibkadkodblefaaDoor
