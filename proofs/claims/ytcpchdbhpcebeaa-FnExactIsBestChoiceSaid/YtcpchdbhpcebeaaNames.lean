/-
  Strictly rising names: spec.dsNames.
-/
import Derived.Test.YtcpchdbhpcebeaaFleet
import Derived.Test.YtcpchdbhpcebeaaStrs
namespace Go.Proofs.Ytcpchdbhpcebeaa
open Go.RowKit

def okNm (q : List ByteArray) (i : Nat) : Bool := match q[i]? with
  | none => true
  | some a => decide (i = 0) || match q[i - 1]? with | none => true | some p => !geS p a
def namesB (q : List ByteArray) : Bool := (List.range q.length).all (okNm q)
theorem okNm_first {q : List ByteArray} {a : ByteArray} (h : q[0]? = some a) : okNm q 0 = true := by unfold okNm; rw [h]; simp
theorem okNm_next {q : List ByteArray} {k : Nat} {a p : ByteArray} (h : q[k + 1]? = some a) (hp : q[k]? = some p) : okNm q (k + 1) = !geS p a := by
  unfold okNm; rw [h]; simp [hp]
theorem names_no {q : List ByteArray} {k : Nat} (hk : k < q.length) (h : okNm q k = false) : namesB q = false := List.all_eq_false.2 ⟨k, List.mem_range.2 hk, by rw [h]; simp⟩
set_option maxRecDepth 100000 in
set_option maxHeartbeats 1000000 in
theorem dsNames_c (v : Value) (q : List ByteArray) (w : World) (hr : RdS w v q) :
    Calls Try.prog 50 #[v] w fun e w' => e = .returned (.bool (namesB q)) ∧ w = w' := by
  obtain ⟨A, c, rfl, hc, hm, hr⟩ := hr
  rw [maxLen_eq] at hm
  go_enter Try.func50, Try.ntmps50
  go_wp2_with fail
  go_loopw [7] (fun i wr => ∃ k : Nat, k ≤ q.length ∧ i = .int .i64 k ∧ Hid ((List.range k).all (okNm q) = true) ∧ wr = w) (fun i _ => q.length - (intOf i).toNat)
  case atStart => exact ⟨0, Nat.zero_le _, rfl, Lib.hid rfl, rfl⟩
  case round =>
    obtain ⟨k, hk, rfl, HA, rfl⟩ := hrel
    by_cases hlt : k < q.length
    · obtain ⟨b, off, rfl, hbl, hcell⟩ := hr (by omega)
      obtain ⟨t, hx⟩ : ∃ t, q[k]? = some t := ⟨_, List.getElem?_eq_getElem hlt⟩
      have c0 := hcell k _ (strs_get hx)
      have HX := Lib.hid hx
      clear hx
      rcases k with _ | kp
      · have HOK := Lib.hid (okNm_first HX.out)
        have hd0 : decide ((0 : Int) < 0) = false := by decide
        rw [Nat.add_zero] at c0
        clear hcell hr
        go_wp2
        exact ⟨⟨1, by omega, by go_num, Lib.hid (all_rng_succ HA.out HOK.out), (by first | rfl | trivial)⟩, by simp [intOf]; omega⟩
      · have hlt' : kp < q.length := by omega
        obtain ⟨p, hp⟩ : ∃ p, q[kp]? = some p := ⟨_, List.getElem?_eq_getElem hlt'⟩
        have d0 := hcell kp _ (strs_get hp)
        have HOK := Lib.hid (okNm_next HX.out hp)
        have y0 : (0 : Int) ≤ (kp : Int) := Int.natCast_nonneg _
        have y1 : (kp : Int) < (q.length : Int) := by omega
        have y2 : (0 : Int) < (kp : Int) + 1 := by omega
        clear hp hcell hr
        go_wp2
        · go_ret
          have h : geS p t = true := by unfold geS; simp_all
          refine ⟨?_, (by first | rfl | trivial)⟩
          rw [names_no hlt (by rw [HOK.out, h]; rfl)]; rfl
        · have h : geS p t = false := by unfold geS; simp_all
          exact ⟨⟨kp + 1 + 1, by omega, by go_num, Lib.hid (all_rng_succ HA.out (by rw [HOK.out, h]; rfl)), (by first | rfl | trivial)⟩, by simp [intOf]; omega⟩
    · obtain rfl : k = q.length := by omega
      have HE : Hid (namesB q = true) := HA
      go_wp2
      go_ret
      rw [HE.out]
      exact ⟨rfl, (by first | rfl | trivial)⟩
end Go.Proofs.Ytcpchdbhpcebeaa
