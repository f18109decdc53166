/-
  Lists of Window: sizes, copy, comparison.
-/
import Derived.Test.YtibkadkodblefaaDoorWn
import Derived.Deep.RegionHeld3
import Derived.Deep.RegionWith
import Derived.BigQuiet
namespace Go.Proofs.YtibkadkodblefaaDoor
open Go.RowKit

set_option maxHeartbeats 400000 in
theorem szWindowS_big (v : Value) (n : Nat) (xs : List Value) (left : Int) (w : World) (h0 : 0 ≤ left) (h1 : left ≤ 1048576) (hr : Rd w v n xs) (hn : left < n) :
    Calls Tryd.prog 30 #[v, .int .i64 left] w fun en w' => en = .returned (.int .i64 (-1)) ∧ w = w' := by
  obtain ⟨A, c, rfl, hc, hm, hr⟩ := hr
  rw [maxLen_eq] at hm
  go_enter Tryd.func30, Tryd.ntmps30
  go_wp2
  go_ret
  exact ⟨rfl, rfl⟩
set_option maxHeartbeats 400000 in
theorem szWindowS_fits (v : Value) (n : Nat) (xs : List Value) (left : Int) (w : World) (h1 : left ≤ 1048576) (hr : Rd w v n xs) (hn : n ≤ left) :
    Calls Tryd.prog 30 #[v, .int .i64 left] w fun en w' => en = .returned (.int .i64 (left - n)) ∧ w = w' := by
  obtain ⟨A, c, rfl, hc, hm, hr⟩ := hr
  rw [maxLen_eq] at hm
  go_enter Tryd.func30, Tryd.ntmps30
  go_wp2
  go_ret
  exact ⟨rfl, rfl⟩

def Wn.zs : List Value := [.int .i64 0, .int .i64 0]
theorem Tryd.infoWn : (Tryd.prog.info? 81).map (fun i => (i.zero, i.size, i.bytes)) = some (some (.agg #[.int .i64 0, .int .i64 0]), 2, 16) := by kernel_rfl

set_option maxRecDepth 100000 in
set_option maxHeartbeats 400000 in
theorem toWindowS_c (v : Value) (l : List Wn) (w : World) (hl : l.length ≤ 1048576) (hr : Rd w v l.length (l.flatMap Wn.cells)) :
    Calls Tryd.prog 32 #[v] w fun en w' => ∃ v', en = .returned v' ∧ w'.ownsRow w.heap.size 81 2 v' l.length (l.flatMap Wn.cells) ∧ Below w.heap.size w w' := by
  obtain ⟨A, c, rfl, hc, hm, hr⟩ := hr
  rw [maxLen_eq] at hm
  obtain ⟨i0, hi, hz0, hz1, hz2⟩ := info_parts Tryd.infoWn
  go_enter Tryd.func32, Tryd.ntmps32
  go_wp2_with (at_make; refine wpList_make_full _ rfl _ _ 44 rfl w.heap.size 81 i0 _ 2 Tryd.underlying44 hi hz0 hz1 _ _ _ _ l.length rfl rfl rfl rfl (by rw [hz2]; omega) (by rw [maxLen_eq]; omega) (Nat.le_refl _) ?_; intro w1 hown1 hg1)
  have hb1 : Below w.heap.size w w1 := (Below.refl _ _).grown hg1 (Nat.le_refl _) (fun k h => by cases h)
  clear hg1
  go_loopw [4] (fun i wr => ∃ k : Nat, k ≤ l.length ∧ i = .int .i64 k ∧ wr.ownsRow w.heap.size 81 2 (.slice (some ⟨w.heap.size, 0, none⟩) l.length l.length) l.length (part Wn.cells Wn.zs l k) ∧ Below w.heap.size w wr) (fun i _ => l.length - (intOf i).toNat)
  case atStart => exact ⟨0, Nat.zero_le _, rfl, by rw [part_zero, show Wn.zs = (#[.int .i64 0, .int .i64 0] : Array Value).toList from rfl, ← made_eq (sz := 2) rfl (by omega)]; exact hown1, hb1⟩
  case round =>
    obtain ⟨k, hk, rfl, hown, hb⟩ := hrel
    by_cases hlt : k < l.length
    · obtain ⟨b, off, rfl, hbl, hcell⟩ := hr (by omega)
      obtain ⟨al, up, hx, c0, c1⟩ := wn_at' hcell hb hbl hlt
      have HX := Lib.hid hx
      clear hx hown1 hb1
      have hg : ∀ j, j < 2 → (part Wn.cells Wn.zs l k)[k * 2 + j]? = Wn.zs[j]? := fun j hj => part_get Wn.cells_len rfl hlt hj
      go_wp2_with (go_at_call 67; refine (toWindow_c _ _ _).mono ?_; rintro e w' ⟨rfl, hb1⟩; have hown' := own_below hown hb1; have d0 : w'.cell? ⟨w.heap.size, k * 2, none⟩ = some (.int .i64 0) := (hown'.cellAt (k * 2) (by omega)).trans (hg 0 (by omega)); have d1 : w'.cell? ⟨w.heap.size, k * 2 + 1, none⟩ = some (.int .i64 0) := (hown'.cellAt (k * 2 + 1) (by omega)).trans (hg 1 (by omega)); have f0 := hown'.frozenAt (k * 2); have f1 := hown'.frozenAt (k * 2 + 1))
      refine ⟨⟨k + 1, by omega, by go_num, ?_, bel_put (Nat.le_refl _) (Wn.cells ⟨al, up⟩) w' (k * 2) (bel_then hb hb1)⟩, by simp [intOf]; omega⟩
      have hp := own_put (Wn.cells ⟨al, up⟩) w' _ (k * 2) hown'
      rw [part_put Wn.cells_len rfl HX.out] at hp
      exact hp
    · go_wp2
      go_ret
      obtain rfl : k = l.length := by omega
      exact ⟨_, rfl, by rw [part_full] at hown; exact hown, hb⟩

set_option maxRecDepth 100000 in
set_option maxHeartbeats 400000 in
theorem eqWindowS_c (v v' : Value) (l l' : List Wn) (w : World) (hr : Rd w v l.length (l.flatMap Wn.cells)) (hr' : Rd w v' l'.length (l'.flatMap Wn.cells)) :
    Calls Tryd.prog 34 #[v, v'] w fun en w' => en = .returned (.bool (decide (l = l'))) ∧ Below w.heap.size w w' := by
  obtain ⟨A, c, rfl, hc, hm, hr⟩ := hr
  obtain ⟨A', c', rfl, hc', hm', hr'⟩ := hr'
  rw [maxLen_eq] at hm hm'
  by_cases hlen : l.length = l'.length
  · have hlb : ((l.length : Int) != l'.length) = false := by rw [hlen]; simp
    have HL := Lib.hid hlen
    clear hlen
    go_enter Tryd.func34, Tryd.ntmps34
    go_wp2
    go_loopw [5] (fun i wr => ∃ k : Nat, k ≤ l.length ∧ i = .int .i64 k ∧ l.take k = l'.take k ∧ Below w.heap.size w wr) (fun i _ => l.length - (intOf i).toNat)
    case atStart => exact ⟨0, Nat.zero_le _, rfl, rfl, Below.refl _ _⟩
    case round =>
      obtain ⟨k, hk, rfl, hpre, hb⟩ := hrel
      have HP := Lib.hid hpre
      clear hpre
      by_cases hlt : k < l.length
      · have hlt' : k < l'.length := by have := HL.out; omega
        obtain ⟨b, off, rfl, hbl, hcell⟩ := hr (by omega)
        obtain ⟨b', off', rfl, hbl', hcell'⟩ := hr' (by omega)
        obtain ⟨al, up, hx, c0, c1⟩ := wn_at' hcell hb hbl hlt
        obtain ⟨al', up', hx', d0, d1⟩ := wn_at' hcell' hb hbl' hlt'
        have HX := Lib.hid hx
        have HX' := Lib.hid hx'
        clear hx hx'
        have hs := hb.size
        go_wp2_with fail
        go_region_held3 (fun w' => w'.cell? ⟨b, off + k * 2, none⟩ = some (.int .i64 al) ∧ w'.cell? ⟨b, off + k * 2 + 1, none⟩ = some (.int .i64 up) ∧ w'.cell? ⟨b', off' + k * 2, none⟩ = some (.int .i64 al') ∧ w'.cell? ⟨b', off' + k * 2 + 1, none⟩ = some (.int .i64 up')) (first | go_keep | (go_split_ands; refine ⟨?_, ?_, ?_, ?_⟩ <;> (rw [hb1.cell (by simp; omega)]; assumption))) (first | (go_at_call 70; refine (eqWindow_c _ _ _ _ _).mono ?_; rintro e w' ⟨rfl, hb1⟩))
        go_wp2
        · go_ret
          have h : wnEq (Wn.mk al up) (Wn.mk al' up') = false := by simp_all
          refine ⟨?_, bel_then (bel_dr hb) hb1⟩
          have hne : l ≠ l' := fun e => by
            have h1 := HX.out; have h2 := HX'.out; rw [e, h2] at h1
            have h3 : (Wn.mk al' up') = (Wn.mk al up) := Option.some.inj h1
            rw [h3] at h; simp [wnEq] at h
          rw [decide_eq_false hne]; rfl
        · have h : wnEq (Wn.mk al up) (Wn.mk al' up') = true := by simp_all
          refine ⟨⟨k + 1, by omega, by go_num, ?_, bel_then (bel_dr hb) hb1⟩, by simp [intOf]; omega⟩
          have h3 : (Wn.mk al up) = (Wn.mk al' up') := by unfold wnEq at h; exact of_decide_eq_true h
          rw [take_succ_of HX.out, take_succ_of HX'.out, HP.out, h3]
      · go_wp2
        go_ret
        refine ⟨?_, hb⟩
        have e := HP.out
        rw [List.take_of_length_le (by omega), List.take_of_length_le (by have := HL.out; omega)] at e
        rw [e]; simp
  · have hlb : ((l.length : Int) != l'.length) = true := by simp; omega
    have hne : l ≠ l' := fun e => hlen (by rw [e])
    go_enter Tryd.func34, Tryd.ntmps34
    go_wp2
    go_ret
    exact ⟨by rw [decide_eq_false hne]; rfl, Below.refl _ _⟩
end Go.Proofs.YtibkadkodblefaaDoor
