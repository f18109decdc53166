/-
  Lists of movers: both sides' look whether each station has one, or none, and none twice.
-/
import Derived.Test.YtjogndeodgibfaaDoorMvA
namespace Go.Proofs.YtjogndeodgibfaaDoor
open Go.RowKit

def onceAt (f : Nat) (r : List Int) (k : Nat) : Bool := match r[k]? with | none => true | some x => inB x (-1) ((f : Int) - 1) && (decide (x < 0) || !(decide (x ∈ r.take k)))
def goodOn (f m : Nat) (r : List Int) : Bool := decide (r.length = m) && (List.range r.length).all (onceAt f r)
theorem goodOn_true {f m : Nat} {r : List Int} (h : goodOn f m r = true) : r.length = m ∧ ∀ x ∈ r, -1 ≤ x ∧ x ≤ (f : Int) - 1 := by
  unfold goodOn at h
  simp only [Bool.and_eq_true, decide_eq_true_eq, List.all_eq_true] at h
  refine ⟨h.1, fun x hx => ?_⟩
  obtain ⟨k, hk, rfl⟩ := List.getElem_of_mem hx
  have := h.2 k (List.mem_range.2 hk)
  unfold onceAt at this
  rw [List.getElem?_eq_getElem hk] at this
  simp only [Bool.and_eq_true] at this
  exact inB_true this.1
theorem once_false {f m : Nat} {r : List Int} {k : Nat} (hk : k < r.length) (h : onceAt f r k = false) : goodOn f m r = false := by
  unfold goodOn
  rw [show (List.range r.length).all (onceAt f r) = false from List.all_eq_false.2 ⟨k, List.mem_range.2 hk, by rw [h]; simp⟩]
  simp
theorem once_succ {f : Nat} {r : List Int} {k : Nat} (h : (List.range k).all (onceAt f r) = true) (h' : onceAt f r k = true) : (List.range (k + 1)).all (onceAt f r) = true := by
  rw [List.range_succ, List.all_append, h]; simp [h']
theorem rdi_pre {w : World} {A : Option Addr} {c j : Nat} {l : List Int} (h : RdI w (.slice A l.length c) l) (hj : j ≤ l.length) : RdI w (.slice A j c) (l.take j) := by
  obtain ⟨A', c', hv, h1, h2, h3⟩ := h
  injection hv with hA _ hcc
  subst hA; subst hcc
  refine ⟨_, _, by rw [List.length_take, Nat.min_eq_left hj], by rw [List.length_take]; omega, h2, fun hn => ?_⟩
  rw [List.length_take] at hn
  obtain ⟨b, off, e, hb, hcell⟩ := h3 (by omega)
  refine ⟨b, off, e, hb, fun q u hu => hcell q u ?_⟩
  rw [ints, List.map_take, List.getElem?_take] at hu
  split at hu
  · exact hu
  · cases hu

set_option maxRecDepth 100000 in
set_option maxHeartbeats 1000000 in
theorem isAssignment_c (f m : Nat) (v : Value) (r : List Int) (w : World) (hf : f ≤ 7) (hm6 : m ≤ 6) (hr : RdI w v r) :
    Calls Tryd.prog 13 #[.int .i64 f, .int .i64 m, v] w fun e w' => e = .returned (.bool (goodOn f m r)) ∧ w = w' := by
  have HR := Lib.hid hr
  obtain ⟨A, c, rfl, hc, hm, hr⟩ := hr
  rw [maxLen_eq] at hm
  have s1 : IntKind.i64.wrap ((f : Int) - 1) = (f : Int) - 1 := IntWalk.i64_in _ (by omega)
  go_enter Tryd.func13, Tryd.ntmps13
  go_wp2
  go_loopw [11] (fun i wr => ∃ k : Nat, k ≤ r.length ∧ i = .int .i64 k ∧ Hid ((List.range k).all (onceAt f r) = true) ∧ wr = w) (fun i _ => r.length - (intOf i).toNat)
  case atStart => exact ⟨0, Nat.zero_le _, rfl, Lib.hid rfl, rfl⟩
  case round =>
    obtain ⟨k, hk, rfl, HA, rfl⟩ := hrel
    by_cases hlt : k < r.length
    · obtain ⟨b, off, rfl, hbl, hcell⟩ := hr (by omega)
      obtain ⟨x, hx⟩ : ∃ x, r[k]? = some x := ⟨_, List.getElem?_eq_getElem hlt⟩
      have c0 := hcell _ _ (ints_get hx)
      have HX := Lib.hid hx
      have HT := Lib.hid (rdi_pre HR.out (j := k) (by omega))
      have k0 : (0 : Int) ≤ (k : Int) := by omega
      have k1 : (k : Int) ≤ (c : Int) := by omega
      clear hcell hx hr
      by_cases hin : inB x (-1) ((f : Int) - 1) = true
      · by_cases hneg : x < 0
        · have hge : decide (0 ≤ x) = false := decide_eq_false (by omega)
          go_wp2_with (go_at_call 21; refine (inside_c _ _ _ _).mono ?_; rw [hin]; rintro e w2 ⟨rfl, rfl⟩)
          refine ⟨⟨k + 1, by omega, by go_num, Lib.hid (once_succ HA.out ?_), (by first | rfl | trivial)⟩, by simp [intOf]; omega⟩
          unfold onceAt; rw [HX.out]; simp [hin, hneg]
        · have hge : decide (0 ≤ x) = true := decide_eq_true (by omega)
          have hge0 : 0 ≤ x := by omega
          by_cases hmem : x ∈ r.take k
          · have hd : decide (x ∈ r.take k) = true := decide_eq_true hmem
            have HD := Lib.hid hmem
            go_wp2_with (first | (go_at_call 21; refine (inside_c _ _ _ _).mono ?_; rw [hin]; rintro e w2 ⟨rfl, rfl⟩) | (go_at_call 22; refine (contains_c _ x (r.take k) _ HT.out).mono ?_; rw [hd]; rintro e w2 ⟨rfl, rfl⟩))
            go_ret
            refine ⟨?_, rfl⟩
            rw [once_false hlt (by unfold onceAt; rw [HX.out]; simp [hin, HD.out]; omega)]; rfl
          · have hd : decide (x ∈ r.take k) = false := decide_eq_false hmem
            have HD := Lib.hid hmem
            go_wp2_with (first | (go_at_call 21; refine (inside_c _ _ _ _).mono ?_; rw [hin]; rintro e w2 ⟨rfl, rfl⟩) | (go_at_call 22; refine (contains_c _ x (r.take k) _ HT.out).mono ?_; rw [hd]; rintro e w2 ⟨rfl, rfl⟩))
            refine ⟨⟨k + 1, by omega, by go_num, Lib.hid (once_succ HA.out ?_), (by first | rfl | trivial)⟩, by simp [intOf]; omega⟩
            unfold onceAt; rw [HX.out]; simp [hin, HD.out]
      · have hin : inB x (-1) ((f : Int) - 1) = false := by simpa using hin
        go_wp2_with (go_at_call 21; refine (inside_c _ _ _ _).mono ?_; rw [hin]; rintro e w2 ⟨rfl, rfl⟩)
        go_ret
        refine ⟨?_, rfl⟩
        rw [once_false hlt (by unfold onceAt; rw [HX.out]; simp [hin])]; rfl
    · obtain rfl : k = r.length := by omega
      go_wp2
      go_ret
      refine ⟨?_, rfl⟩
      unfold goodOn
      rw [HA.out]
      have : decide (r.length = m) = ((r.length : Int) == (m : Int)) := by
        by_cases h : r.length = m
        · rw [decide_eq_true h, h]; simp
        · rw [decide_eq_false h]; symm; rw [beq_eq_false_iff_ne]; omega
      rw [this]; simp

set_option maxRecDepth 100000 in
set_option maxHeartbeats 1000000 in
theorem mvOnce_c (v u t : Value) (p q r : List Int) (w : World) (hf : p.length ≤ 7) (hp : RdI w v p) (hq : RdI w u q) (hr : RdI w t r) :
    Calls Tryd.prog 10 #[v, u, t] w fun e w' => e = .returned (.bool (goodOn p.length q.length r)) ∧ w = w' := by
  have HR := Lib.hid hr
  obtain ⟨A, c, rfl, hc, hm, hr⟩ := hr
  obtain ⟨Ap, cp, rfl, hcp, hmp, _⟩ := hp
  obtain ⟨Aq, cq, rfl, hcq, hmq, _⟩ := hq
  rw [maxLen_eq] at hm hmp hmq
  have s1 : IntKind.i64.wrap ((p.length : Int) - 1) = (p.length : Int) - 1 := IntWalk.i64_in _ (by omega)
  by_cases hlen : r.length = q.length
  · have hlb : ((r.length : Int) != (q.length : Int)) = false := by rw [hlen]; simp
    have HL := Lib.hid hlen
    clear hlen
    by_cases hall : (r.all fun n => inB n (-1) ((p.length : Int) - 1)) = true
    · have HALL := Lib.hid hall
      go_enter Tryd.func10, Tryd.ntmps10
      go_wp2_with (go_at_call 8; refine (allI_c _ r _ _ _ HR.out).mono ?_; rw [HALL.out]; rintro e w2 ⟨rfl, rfl⟩)
      clear hall
      go_loopw [24] (fun i wr => ∃ k : Nat, k ≤ r.length ∧ i = .int .i64 k ∧ Hid ((List.range k).all (onceAt p.length r) = true) ∧ wr = w) (fun i _ => r.length - (intOf i).toNat)
      case atStart => exact ⟨0, Nat.zero_le _, rfl, Lib.hid rfl, rfl⟩
      case round =>
        obtain ⟨k, hk, rfl, HA, rfl⟩ := hrel
        by_cases hlt : k < r.length
        · obtain ⟨b, off, rfl, hbl, hcell⟩ := hr (by omega)
          obtain ⟨x, hx⟩ : ∃ x, r[k]? = some x := ⟨_, List.getElem?_eq_getElem hlt⟩
          have c0 := hcell _ _ (ints_get hx)
          have hin := List.all_eq_true.1 HALL.out x (List.mem_of_getElem? hx)
          have HIN : Hid (inB x (-1) ((p.length : Int) - 1) = true) := Lib.hid hin
          have HX := Lib.hid hx
          have HT := Lib.hid (rdi_pre HR.out (j := k) (by omega))
          have k0 : (0 : Int) ≤ (k : Int) := by omega
          have k1 : (k : Int) ≤ (c : Int) := by omega
          clear hcell hx hr hin
          by_cases hneg : x < 0
          · have hge : decide (0 ≤ x) = false := decide_eq_false (by omega)
            go_wp2
            refine ⟨⟨k + 1, by omega, by go_num, Lib.hid (once_succ HA.out ?_), (by first | rfl | trivial)⟩, by simp [intOf]; omega⟩
            unfold onceAt; rw [HX.out]; simp [HIN.out, hneg]
          · have hge : decide (0 ≤ x) = true := decide_eq_true (by omega)
            have hge0 : 0 ≤ x := by omega
            by_cases hmem : x ∈ r.take k
            · have hd : decide (x ∈ r.take k) = true := decide_eq_true hmem
              have HD := Lib.hid hmem
              go_wp2_with (go_at_call 16; refine (l1Has_c _ x (r.take k) _ HT.out).mono ?_; rw [hd]; rintro e w2 ⟨rfl, rfl⟩)
              go_ret
              refine ⟨?_, rfl⟩
              rw [once_false hlt (by unfold onceAt; rw [HX.out]; simp [HIN.out, HD.out]; omega)]; rfl
            · have hd : decide (x ∈ r.take k) = false := decide_eq_false hmem
              have HD := Lib.hid hmem
              go_wp2_with (go_at_call 16; refine (l1Has_c _ x (r.take k) _ HT.out).mono ?_; rw [hd]; rintro e w2 ⟨rfl, rfl⟩)
              refine ⟨⟨k + 1, by omega, by go_num, Lib.hid (once_succ HA.out ?_), (by first | rfl | trivial)⟩, by simp [intOf]; omega⟩
              unfold onceAt; rw [HX.out]; simp [HIN.out, HD.out]
        · obtain rfl : k = r.length := by omega
          go_wp2
          go_ret
          refine ⟨?_, rfl⟩
          unfold goodOn
          rw [HA.out]; simp [HL.out]
    · have hall' : (r.all fun n => inB n (-1) ((p.length : Int) - 1)) = false := by simpa using hall
      have HALL := Lib.hid hall'
      have hgo : goodOn p.length q.length r = false := by
        cases hg : goodOn p.length q.length r with
        | false => rfl
        | true => exact absurd (List.all_eq_true.2 (fun x hx => by have := (goodOn_true hg).2 x hx; unfold inB; simp; omega)) hall
      have HGO := Lib.hid hgo
      clear hall hall' hgo
      go_enter Tryd.func10, Tryd.ntmps10
      go_wp2_with (go_at_call 8; refine (allI_c _ r _ _ _ HR.out).mono ?_; rw [HALL.out]; rintro e w2 ⟨rfl, rfl⟩)
      go_ret
      exact ⟨ret_b HGO.out.symm, rfl⟩
  · have hlb : ((r.length : Int) != (q.length : Int)) = true := by simp; omega
    have HGO : Hid (goodOn p.length q.length r = false) := Lib.hid (by unfold goodOn; rw [decide_eq_false hlen]; rfl)
    go_enter Tryd.func10, Tryd.ntmps10
    go_wp2
    go_ret
    exact ⟨ret_b HGO.out.symm, rfl⟩
end Go.Proofs.YtjogndeodgibfaaDoor
