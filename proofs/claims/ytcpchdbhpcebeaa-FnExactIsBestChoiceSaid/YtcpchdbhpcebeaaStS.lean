/-
  Lists of Street: sizes, copy, comparison.
-/
import Derived.Test.YtcpchdbhpcebeaaSt
import Derived.Deep.RegionHeld3
import Derived.Deep.RegionWith
import Derived.BigQuiet
namespace Go.Proofs.Ytcpchdbhpcebeaa
open Go.RowKit

set_option maxHeartbeats 400000 in
theorem szStreetS_big (v : Value) (n : Nat) (xs : List Value) (left : Int) (w : World) (h0 : 0 ≤ left) (h1 : left ≤ 1048576) (hr : Rd w v n xs) (hn : left < n) :
    Calls Try.prog 47 #[v, .int .i64 left] w fun en w' => en = .returned (.int .i64 (-1)) ∧ w = w' := by
  obtain ⟨A, c, rfl, hc, hm, hr⟩ := hr
  rw [maxLen_eq] at hm
  go_enter Try.func47, Try.ntmps47
  go_wp2
  go_ret
  exact ⟨rfl, rfl⟩
set_option maxHeartbeats 400000 in
theorem szStreetS_fits (v : Value) (n : Nat) (xs : List Value) (left : Int) (w : World) (h1 : left ≤ 1048576) (hr : Rd w v n xs) (hn : n ≤ left) :
    Calls Try.prog 47 #[v, .int .i64 left] w fun en w' => en = .returned (.int .i64 (left - n)) ∧ w = w' := by
  obtain ⟨A, c, rfl, hc, hm, hr⟩ := hr
  rw [maxLen_eq] at hm
  go_enter Try.func47, Try.ntmps47
  go_wp2
  go_ret
  exact ⟨rfl, rfl⟩

def St.zs : List Value := [.int .i64 0, .int .i64 0, .int .i64 0]
theorem Try.infoSt : (Try.prog.info? 110).map (fun i => (i.zero, i.size, i.bytes)) = some (some (.agg #[.int .i64 0, .int .i64 0, .int .i64 0]), 3, 24) := by kernel_rfl

set_option maxRecDepth 100000 in
set_option maxHeartbeats 400000 in
theorem toStreetS_c (v : Value) (l : List St) (w : World) (hl : l.length ≤ 1048576) (hr : Rd w v l.length (l.flatMap St.cells)) :
    Calls Try.prog 54 #[v] w fun en w' => ∃ v', en = .returned v' ∧ w'.ownsRow w.heap.size 110 3 v' l.length (l.flatMap St.cells) ∧ Below w.heap.size w w' := by
  obtain ⟨A, c, rfl, hc, hm, hr⟩ := hr
  rw [maxLen_eq] at hm
  obtain ⟨i0, hi, hz0, hz1, hz2⟩ := info_parts Try.infoSt
  go_enter Try.func54, Try.ntmps54
  go_wp2_with (at_make; refine wpList_make_full _ rfl _ _ 32 rfl w.heap.size 110 i0 _ 3 Try.underlying32 hi hz0 hz1 _ _ _ _ l.length rfl rfl rfl rfl (by rw [hz2]; omega) (by rw [maxLen_eq]; omega) (Nat.le_refl _) ?_; intro w1 hown1 hg1)
  have hb1 : Below w.heap.size w w1 := (Below.refl _ _).grown hg1 (Nat.le_refl _) (fun k h => by cases h)
  clear hg1
  go_loopw [4] (fun i wr => ∃ k : Nat, k ≤ l.length ∧ i = .int .i64 k ∧ wr.ownsRow w.heap.size 110 3 (.slice (some ⟨w.heap.size, 0, none⟩) l.length l.length) l.length (part St.cells St.zs l k) ∧ Below w.heap.size w wr) (fun i _ => l.length - (intOf i).toNat)
  case atStart => exact ⟨0, Nat.zero_le _, rfl, by rw [part_zero, show St.zs = (#[.int .i64 0, .int .i64 0, .int .i64 0] : Array Value).toList from rfl, ← made_eq (sz := 3) rfl (by omega)]; exact hown1, hb1⟩
  case round =>
    obtain ⟨k, hk, rfl, hown, hb⟩ := hrel
    by_cases hlt : k < l.length
    · obtain ⟨b, off, rfl, hbl, hcell⟩ := hr (by omega)
      obtain ⟨f, t, s, hx, c0, c1, c2⟩ := st_at' hcell hb hbl hlt
      have HX := Lib.hid hx
      clear hx hown1 hb1
      have hg : ∀ j, j < 3 → (part St.cells St.zs l k)[k * 3 + j]? = St.zs[j]? := fun j hj => part_get St.cells_len rfl hlt hj
      go_wp2_with (go_at_call 84; refine (toStreet_c _ _ _ _).mono ?_; rintro e w' ⟨rfl, hb1⟩; have hown' := own_below hown hb1; have d0 : w'.cell? ⟨w.heap.size, k * 3, none⟩ = some (.int .i64 0) := (hown'.cellAt (k * 3) (by omega)).trans (hg 0 (by omega)); have d1 : w'.cell? ⟨w.heap.size, k * 3 + 1, none⟩ = some (.int .i64 0) := (hown'.cellAt (k * 3 + 1) (by omega)).trans (hg 1 (by omega)); have d2 : w'.cell? ⟨w.heap.size, k * 3 + 2, none⟩ = some (.int .i64 0) := (hown'.cellAt (k * 3 + 2) (by omega)).trans (hg 2 (by omega)); have f0 := hown'.frozenAt (k * 3); have f1 := hown'.frozenAt (k * 3 + 1); have f2 := hown'.frozenAt (k * 3 + 2))
      refine ⟨⟨k + 1, by omega, by go_num, ?_, bel_put (Nat.le_refl _) (St.cells ⟨f, t, s⟩) w' (k * 3) (bel_then hb hb1)⟩, by simp [intOf]; omega⟩
      have hp := own_put (St.cells ⟨f, t, s⟩) w' _ (k * 3) hown'
      rw [part_put St.cells_len rfl HX.out] at hp
      exact hp
    · go_wp2
      go_ret
      obtain rfl : k = l.length := by omega
      exact ⟨_, rfl, by rw [part_full] at hown; exact hown, hb⟩

set_option maxRecDepth 100000 in
set_option maxHeartbeats 400000 in
theorem eqStreetS_c (v v' : Value) (l l' : List St) (w : World) (hr : Rd w v l.length (l.flatMap St.cells)) (hr' : Rd w v' l'.length (l'.flatMap St.cells)) :
    Calls Try.prog 60 #[v, v'] w fun en w' => en = .returned (.bool (decide (l = l'))) ∧ Below w.heap.size w w' := by
  obtain ⟨A, c, rfl, hc, hm, hr⟩ := hr
  obtain ⟨A', c', rfl, hc', hm', hr'⟩ := hr'
  rw [maxLen_eq] at hm hm'
  by_cases hlen : l.length = l'.length
  · have hlb : ((l.length : Int) != l'.length) = false := by rw [hlen]; simp
    have HL := Lib.hid hlen
    clear hlen
    go_enter Try.func60, Try.ntmps60
    go_wp2
    go_loopw [5] (fun i wr => ∃ k : Nat, k ≤ l.length ∧ i = .int .i64 k ∧ l.take k = l'.take k ∧ Below w.heap.size w wr) (fun i _ => l.length - (intOf i).toNat)
    case atStart => exact ⟨0, Nat.zero_le _, rfl, rfl, Below.refl _ _⟩
    case round =>
      obtain ⟨k, hk, rfl, hpre, hb⟩ := hrel
      have HP := Lib.hid hpre
      clear hpre
      by_cases hlt : k < l.length
      · have hlt' : k < l'.length := by have := HL.out; omega
        obtain ⟨b, off, rfl, hbl, hcell⟩ := hr (by omega)
        obtain ⟨b', off', rfl, hbl', hcell'⟩ := hr' (by omega)
        obtain ⟨f, t, s, hx, c0, c1, c2⟩ := st_at' hcell hb hbl hlt
        obtain ⟨f', t', s', hx', d0, d1, d2⟩ := st_at' hcell' hb hbl' hlt'
        have HX := Lib.hid hx
        have HX' := Lib.hid hx'
        clear hx hx'
        have hs := hb.size
        go_wp2_with fail
        go_region_held3 (fun w' => w'.cell? ⟨b, off + k * 3, none⟩ = some (.int .i64 f) ∧ w'.cell? ⟨b, off + k * 3 + 1, none⟩ = some (.int .i64 t) ∧ w'.cell? ⟨b, off + k * 3 + 2, none⟩ = some (.int .i64 s) ∧ w'.cell? ⟨b', off' + k * 3, none⟩ = some (.int .i64 f') ∧ w'.cell? ⟨b', off' + k * 3 + 1, none⟩ = some (.int .i64 t') ∧ w'.cell? ⟨b', off' + k * 3 + 2, none⟩ = some (.int .i64 s')) (first | go_keep | (go_split_ands; refine ⟨?_, ?_, ?_, ?_, ?_, ?_⟩ <;> (rw [hb1.cell (by simp; omega)]; assumption))) (first | (go_at_call 92; refine (eqStreet_c _ _ _ _ _ _ _).mono ?_; rintro e w' ⟨rfl, hb1⟩))
        go_wp2
        · go_ret
          have h : stEq (St.mk f t s) (St.mk f' t' s') = false := by simp_all
          refine ⟨?_, bel_then (bel_dr hb) hb1⟩
          have hne : l ≠ l' := fun e => by
            have h1 := HX.out; have h2 := HX'.out; rw [e, h2] at h1
            have h3 : (St.mk f' t' s') = (St.mk f t s) := Option.some.inj h1
            rw [h3] at h; simp [stEq] at h
          rw [decide_eq_false hne]; rfl
        · have h : stEq (St.mk f t s) (St.mk f' t' s') = true := by simp_all
          refine ⟨⟨k + 1, by omega, by go_num, ?_, bel_then (bel_dr hb) hb1⟩, by simp [intOf]; omega⟩
          have h3 : (St.mk f t s) = (St.mk f' t' s') := by unfold stEq at h; exact of_decide_eq_true h
          rw [take_succ_of HX.out, take_succ_of HX'.out, HP.out, h3]
      · go_wp2
        go_ret
        refine ⟨?_, hb⟩
        have e := HP.out
        rw [List.take_of_length_le (by omega), List.take_of_length_le (by have := HL.out; omega)] at e
        rw [e]; simp
  · have hlb : ((l.length : Int) != l'.length) = true := by simp; omega
    have hne : l ≠ l' := fun e => hlen (by rw [e])
    go_enter Try.func60, Try.ntmps60
    go_wp2
    go_ret
    exact ⟨by rw [decide_eq_false hne]; rfl, Below.refl _ _⟩
end Go.Proofs.Ytcpchdbhpcebeaa
