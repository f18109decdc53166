/-
  Slices of strings: read, sized, copied, compared.
-/
import Derived.Test.YtcpchdbhpcebeaaApS
import Derived.Test.YtcpchdbhpcebeaaInts
import Derived.Test.YtcpchdbhpcebeaaOwn
namespace Go.Proofs.Ytcpchdbhpcebeaa
open Go.RowKit

def strs (l : List ByteArray) : List Value := l.map Value.string
theorem strs_len (l : List ByteArray) : (strs l).length = l.length := by simp [strs]
theorem strs_get {l : List ByteArray} {k : Nat} {x : ByteArray} (h : l[k]? = some x) : (strs l)[k]? = some (.string x) := by simp [strs, h]
def RdS (w : World) (v : Value) (l : List ByteArray) : Prop := Rd w v l.length (strs l)
def OwnSt (l : List ByteArray) (w : World) (e : Ending) (w' : World) : Prop := ∃ v, e = .returned v ∧ w'.ownsRow w.heap.size 9 1 v l.length (strs l) ∧ Below w.heap.size w w'
theorem Try.infoStr : (Try.prog.info? 9).map (fun i => (i.zero, i.size, i.bytes)) = some (some (.string ⟨#[]⟩), 1, 16) := by kernel_rfl
set_option maxRecDepth 100000 in
set_option maxHeartbeats 1000000 in
theorem szStringS_c (v : Value) (l : List ByteArray) (left : Int) (w : World) (h0 : 0 ≤ left) (h1 : left ≤ 1048576) (hz : ∀ x ∈ l, x.size ≤ 9223372036854775807) (hr : RdS w v l) :
    Calls Try.prog 13 #[v, .int .i64 left] w (SzAp l.length left w) := by
  obtain ⟨A, c, rfl, hc, hm, hr⟩ := hr
  rw [maxLen_eq] at hm
  have HZ := Lib.hid hz
  have HR := Lib.hid hr
  clear hz hr
  by_cases hlt : left < l.length
  · go_enter Try.func13, Try.ntmps13
    go_wp2
    go_ret
    exact ⟨-1, rfl, Below.refl _ _, .inl rfl⟩
  · have hle : (l.length : Int) ≤ left := by omega
    clear hlt
    go_enter Try.func13, Try.ntmps13
    go_wp2_with fail
    go_loopw [1, 5] (fun v1 v5 wr => ∃ (k : Nat) (t : Int), k ≤ l.length ∧ 0 ≤ t ∧ t ≤ left - l.length ∧ v5 = .int .i64 k ∧ v1 = .int .i64 t ∧ Hid (Below w.heap.size w wr)) (fun _ v5 _ => l.length - (intOf v5).toNat)
    case atStart => exact ⟨0, left - l.length, Nat.zero_le _, by omega, by omega, rfl, rfl, Lib.hid (Below.refl _ _)⟩
    case round =>
      obtain ⟨k, t, hk, ht0, ht1, rfl, rfl, HB⟩ := hrel
      by_cases hlk : k < l.length
      · obtain ⟨b, off, rfl, hbl, hcell⟩ := HR.out (by omega)
        obtain ⟨nm, hx⟩ : ∃ nm, l[k]? = some nm := ⟨_, List.getElem?_eq_getElem hlk⟩
        have c0 := cell_at hcell HB.out hbl (strs_get hx)
        have hzk := HZ.out _ (List.mem_of_getElem? hx)
        clear hx hcell
        by_cases hfit : (nm.size : Int) ≤ t
        · have t0 : 0 ≤ t - (nm.size : Int) := by omega
          go_wp2
          exact ⟨⟨k + 1, t - nm.size, by omega, by omega, by omega, by go_num, (by first | rfl | (simp; go_num)), HB⟩, by simp [intOf]; omega⟩
        · have t0 : t - (nm.size : Int) < 0 := by omega
          go_wp2
          go_ret
          exact ⟨-1, rfl, HB.out, .inl rfl⟩
      · obtain rfl : k = l.length := by omega
        go_wp2
        go_ret
        exact ⟨t, rfl, HB.out, .inr ⟨ht0, by omega, hle⟩⟩
def sone (x : ByteArray) : List Value := [.string x]
theorem sone_len (x : ByteArray) : (sone x).length = 1 := rfl
theorem flat_sone (l : List ByteArray) : l.flatMap sone = strs l := by
  induction l with
  | nil => rfl
  | cons x l ih => rw [List.flatMap_cons, ih]; rfl
def szone : List Value := [.string ⟨#[]⟩]
set_option maxRecDepth 100000 in
set_option maxHeartbeats 400000 in
theorem toStringS_c (v : Value) (l : List ByteArray) (w : World) (hl : l.length ≤ 1048576) (hr : RdS w v l) :
    Calls Try.prog 17 #[v] w (OwnSt l w) := by
  obtain ⟨A, c, rfl, hc, hm, hr⟩ := hr
  rw [maxLen_eq] at hm
  obtain ⟨i0, hi, hz0, hz1, hz2⟩ := info_parts Try.infoStr
  go_enter Try.func17, Try.ntmps17
  go_wp2_with (at_make; refine wpList_make_full _ rfl _ _ 26 rfl w.heap.size 9 i0 _ 1 Try.underlying26 hi hz0 hz1 _ _ _ _ l.length rfl rfl rfl rfl (by rw [hz2]; omega) (by rw [maxLen_eq]; omega) (Nat.le_refl _) ?_; intro w1 hown1 hg1)
  have hb1 : Below w.heap.size w w1 := (Below.refl _ _).grown hg1 (Nat.le_refl _) (fun k h => by cases h)
  clear hg1
  go_loopw [4] (fun i wr => ∃ k : Nat, k ≤ l.length ∧ i = .int .i64 k ∧ wr.ownsRow w.heap.size 9 1 (.slice (some ⟨w.heap.size, 0, none⟩) l.length l.length) l.length (part sone szone l k) ∧ Below w.heap.size w wr) (fun i _ => l.length - (intOf i).toNat)
  case atStart => exact ⟨0, Nat.zero_le _, rfl, by rw [part_zero, show szone = (#[.string ⟨#[]⟩] : Array Value).toList from rfl, ← made_eq (sz := 1) rfl (by omega)]; exact hown1, hb1⟩
  case round =>
    obtain ⟨k, hk, rfl, hown, hb⟩ := hrel
    by_cases hlt : k < l.length
    · obtain ⟨b, off, rfl, hbl, hcell⟩ := hr (by omega)
      have hx : l[k]? = some l[k] := by simp [hlt]
      generalize l[k] = t at hx
      have c0 := cell_at hcell hb hbl (strs_get hx)
      have HX := Lib.hid hx
      clear hx hown1 hb1
      have hg : (part sone szone l k)[k]? = szone[0]? := by have := part_get (sz := 1) sone_len rfl hlt (j := 0) (zs := szone) (by omega); simpa using this
      have d0 : wr.cell? ⟨w.heap.size, k, none⟩ = some (.string ⟨#[]⟩) := (hown.cellAt k (by omega)).trans hg
      have f0 := hown.frozenAt k
      have HO := Lib.hid hown
      clear hown
      go_wp2
      refine ⟨⟨k + 1, by omega, by go_num, ?_, bel_put (Nat.le_refl _) (sone t) wr k hb⟩, by simp [intOf]; omega⟩
      have hp := own_put (sone t) wr _ k HO.out
      have e := part_put (sz := 1) (zs := szone) sone_len rfl HX.out
      rw [Nat.mul_one] at e
      rw [e] at hp
      exact hp
    · go_wp2
      go_ret
      obtain rfl : k = l.length := by omega
      refine ⟨_, rfl, ?_, hb⟩
      rw [part_full, flat_sone] at hown; exact hown
set_option maxRecDepth 100000 in
set_option maxHeartbeats 1000000 in
theorem eqStringS_c (v v' : Value) (l l' : List ByteArray) (w : World) (hr : RdS w v l) (hr' : RdS w v' l') :
    Calls Try.prog 21 #[v, v'] w fun en w' => en = .returned (.bool (decide (l = l'))) ∧ Below w.heap.size w w' := by
  obtain ⟨A, c, rfl, hc, hm, hr⟩ := hr
  obtain ⟨A', c', rfl, hc', hm', hr'⟩ := hr'
  rw [maxLen_eq] at hm hm'
  by_cases hlen : l.length = l'.length
  · have hlb : ((l.length : Int) != l'.length) = false := by rw [hlen]; simp
    have HL := Lib.hid hlen
    clear hlen
    go_enter Try.func21, Try.ntmps21
    go_wp2
    go_loopw [5] (fun i wr => ∃ k : Nat, k ≤ l.length ∧ i = .int .i64 k ∧ Hid (l.take k = l'.take k) ∧ Hid (Below w.heap.size w wr)) (fun i _ => l.length - (intOf i).toNat)
    case atStart => exact ⟨0, Nat.zero_le _, rfl, Lib.hid rfl, Lib.hid (Below.refl _ _)⟩
    case round =>
      obtain ⟨k, hk, rfl, HP, HB⟩ := hrel
      by_cases hlt : k < l.length
      · have hlt' : k < l'.length := by have := HL.out; omega
        obtain ⟨b, off, rfl, hbl, hcell⟩ := hr (by omega)
        obtain ⟨b', off', rfl, hbl', hcell'⟩ := hr' (by omega)
        obtain ⟨t, hx⟩ : ∃ t, l[k]? = some t := ⟨_, List.getElem?_eq_getElem hlt⟩
        obtain ⟨t', hx'⟩ : ∃ t', l'[k]? = some t' := ⟨_, List.getElem?_eq_getElem hlt'⟩
        have c0 := cell_at hcell HB.out hbl (strs_get hx)
        have d0 := cell_at hcell' HB.out hbl' (strs_get hx')
        have i0 : (0 : Int) ≤ (k : Int) := Int.natCast_nonneg _
        have i1 : (k : Int) < (l.length : Int) := by omega
        have i2 : (k : Int) < (l'.length : Int) := by omega
        have HX := Lib.hid hx
        have HX' := Lib.hid hx'
        clear hx hx'
        by_cases ht : t = t'
        · have HTT := Lib.hid ht
          subst ht
          go_wp2_with fail
          go_quiet (fail)
          go_wp2
          refine ⟨⟨k + 1, by omega, by go_num, Lib.hid ?_, Lib.hid (below_drewN HB.out _)⟩, by simp [intOf]; omega⟩
          rw [take_succ_of HX.out, take_succ_of HX'.out, HP.out]
        · have hbl2 : (t.toList == t'.toList) = false := beq_false_of_ne (fun h => ht ((bl_iff _ _).1 h))
          have HNE : Hid (l ≠ l') := Lib.hid (fun e => by
            have h1 := HX.out
            have h2 := HX'.out
            rw [e, h2] at h1
            exact ht (Option.some.inj h1).symm)
          go_wp2_with fail
          go_quiet (fail)
          go_wp2
          go_ret
          rw [decide_eq_false HNE.out]
          exact ⟨rfl, below_drewN HB.out _⟩
      · go_wp2
        go_ret
        refine ⟨?_, HB.out⟩
        have e := HP.out
        rw [List.take_of_length_le (by omega), List.take_of_length_le (by have := HL.out; omega)] at e
        rw [decide_eq_true e]; rfl
  · have hlb : ((l.length : Int) != l'.length) = true := by simp; omega
    have HNE : Hid (l ≠ l') := Lib.hid (fun e => hlen (by rw [e]))
    clear hlen
    go_enter Try.func21, Try.ntmps21
    go_wp2
    go_ret
    rw [decide_eq_false HNE.out]
    exact ⟨rfl, Below.refl _ _⟩
end Go.Proofs.Ytcpchdbhpcebeaa
