/-
  Lists of Choice: sizes, copy, comparison.
-/
import Derived.Test.YtddccjdppbcnbaaDoorCh
import Derived.Deep.RegionHeld3
import Derived.Deep.RegionWith
import Derived.BigQuiet
namespace Go.Proofs.YtddccjdppbcnbaaDoor
open Go.RowKit

set_option maxHeartbeats 400000 in
theorem szChoice_no (cn : ByteArray) (cs : Int) (left : Int) (w : World) (h0 : 0 ≤ left) (h1 : left ≤ 1048576) (hz : cn.size ≤ 9223372036854775807) (hn : left < cn.size) :
    Calls Tryd.prog 9 #[.agg #[.string cn, .int .i64 cs], .int .i64 left] w fun en w' => en = .returned (.int .i64 (-1)) ∧ Below w.heap.size w w' := by
  go_enter Tryd.func9, Tryd.ntmps9
  go_wp2
  go_ret
  exact ⟨rfl, (by repeat (first | exact Below.refl _ _ | assumption | refine bel_al ?_ _ | refine bel_dr ?_ | refine below_drewN ?_ _ | refine bel_then ?_ (by assumption)))⟩
set_option maxHeartbeats 400000 in
theorem szChoice_yes (cn : ByteArray) (cs : Int) (left : Int) (w : World) (h0 : 0 ≤ left) (h1 : left ≤ 1048576) (hn : (cn.size : Int) ≤ left) :
    Calls Tryd.prog 9 #[.agg #[.string cn, .int .i64 cs], .int .i64 left] w fun en w' => en = .returned (.int .i64 (left - cn.size)) ∧ Below w.heap.size w w' := by
  go_enter Tryd.func9, Tryd.ntmps9
  go_wp2
  go_ret
  exact ⟨rfl, (by repeat (first | exact Below.refl _ _ | assumption | refine bel_al ?_ _ | refine bel_dr ?_ | refine below_drewN ?_ _ | refine bel_then ?_ (by assumption)))⟩
/-- Too much, or what is left. -/
def SzCh (n : Nat) (left : Int) (w : World) (e : Ending) (w' : World) : Prop := ∃ r : Int, e = .returned (.int .i64 r) ∧ Below w.heap.size w w' ∧ (r = -1 ∨ (0 ≤ r ∧ r ≤ left ∧ (n : Int) ≤ left))
set_option maxRecDepth 100000 in
set_option maxHeartbeats 1000000 in
theorem szChoiceS_c (v : Value) (l : List Ch) (left : Int) (w : World) (h0 : 0 ≤ left) (h1 : left ≤ 1048576) (hz : ∀ x ∈ l, x.cn.size ≤ 9223372036854775807) (hr : Rd w v l.length (l.flatMap Ch.cells)) :
    Calls Tryd.prog 4 #[v, .int .i64 left] w (SzCh l.length left w) := by
  obtain ⟨A, c, rfl, hc, hm, hr⟩ := hr
  rw [maxLen_eq] at hm
  have HZ := Lib.hid hz
  have HR := Lib.hid hr
  clear hz hr
  by_cases hlt : left < l.length
  · go_enter Tryd.func4, Tryd.ntmps4
    go_wp2
    go_ret
    exact ⟨-1, rfl, Below.refl _ _, .inl rfl⟩
  · have hle : (l.length : Int) ≤ left := by omega
    clear hlt
    go_enter Tryd.func4, Tryd.ntmps4
    go_wp2_with fail
    go_loopw [1, 5] (fun v1 v5 wr => ∃ (k : Nat) (t : Int), k ≤ l.length ∧ 0 ≤ t ∧ t ≤ left - l.length ∧ v5 = .int .i64 k ∧ v1 = .int .i64 t ∧ Hid (Below w.heap.size w wr)) (fun _ v5 _ => l.length - (intOf v5).toNat)
    case atStart => exact ⟨0, left - l.length, Nat.zero_le _, by omega, by omega, rfl, rfl, Lib.hid (Below.refl _ _)⟩
    case round =>
      obtain ⟨k, t, hk, ht0, ht1, rfl, rfl, HB⟩ := hrel
      by_cases hlk : k < l.length
      · obtain ⟨b, off, rfl, hbl, hcell⟩ := HR.out (by omega)
        obtain ⟨cn, cs, hx, c0, c1⟩ := ch_at' hcell HB.out hbl hlk
        have hzk := HZ.out _ (List.mem_of_getElem? hx)
        dsimp only at hzk
        clear hx hcell
        by_cases hfit : (cn.size : Int) ≤ t
        · go_wp2_with fail
          refine (szChoice_yes _ _ t _ ht0 (by omega) hfit).mono ?_; rintro e w2 ⟨rfl, hb2⟩
          have HB2 := Lib.hid (bel_then HB.out hb2)
          have t0 : 0 ≤ t - (cn.size : Int) := by omega
          clear hb2
          go_wp2
          exact ⟨⟨k + 1, t - cn.size, by omega, by omega, by omega, by go_num, rfl, HB2⟩, by simp [intOf]; omega⟩
        · go_wp2_with fail
          refine (szChoice_no _ _ t _ ht0 (by omega) hzk (by omega)).mono ?_; rintro e w2 ⟨rfl, hb2⟩
          have HB2 := Lib.hid (bel_then HB.out hb2)
          clear hb2
          go_wp2
          go_ret
          exact ⟨-1, rfl, HB2.out, .inl rfl⟩
      · obtain rfl : k = l.length := by omega
        go_wp2
        go_ret
        exact ⟨t, rfl, HB.out, .inr ⟨ht0, by omega, hle⟩⟩

def Ch.zs : List Value := [.string ⟨#[]⟩, .int .i64 0]
theorem Tryd.infoCh : (Tryd.prog.info? 33).map (fun i => (i.zero, i.size, i.bytes)) = some (some (.agg #[.string ⟨#[]⟩, .int .i64 0]), 2, 24) := by kernel_rfl

set_option maxRecDepth 100000 in
set_option maxHeartbeats 400000 in
theorem toChoiceS_c (v : Value) (l : List Ch) (w : World) (hl : l.length ≤ 1048576) (hr : Rd w v l.length (l.flatMap Ch.cells)) :
    Calls Tryd.prog 6 #[v] w fun en w' => ∃ v', en = .returned v' ∧ w'.ownsRow w.heap.size 33 2 v' l.length (l.flatMap Ch.cells) ∧ Below w.heap.size w w' := by
  obtain ⟨A, c, rfl, hc, hm, hr⟩ := hr
  rw [maxLen_eq] at hm
  obtain ⟨i0, hi, hz0, hz1, hz2⟩ := info_parts Tryd.infoCh
  go_enter Tryd.func6, Tryd.ntmps6
  go_wp2_with (at_make; refine wpList_make_full _ rfl _ _ 26 rfl w.heap.size 33 i0 _ 2 Tryd.underlying26 hi hz0 hz1 _ _ _ _ l.length rfl rfl rfl rfl (by rw [hz2]; omega) (by rw [maxLen_eq]; omega) (Nat.le_refl _) ?_; intro w1 hown1 hg1)
  have hb1 : Below w.heap.size w w1 := (Below.refl _ _).grown hg1 (Nat.le_refl _) (fun k h => by cases h)
  clear hg1
  go_loopw [4] (fun i wr => ∃ k : Nat, k ≤ l.length ∧ i = .int .i64 k ∧ wr.ownsRow w.heap.size 33 2 (.slice (some ⟨w.heap.size, 0, none⟩) l.length l.length) l.length (part Ch.cells Ch.zs l k) ∧ Below w.heap.size w wr) (fun i _ => l.length - (intOf i).toNat)
  case atStart => exact ⟨0, Nat.zero_le _, rfl, by rw [part_zero, show Ch.zs = (#[.string ⟨#[]⟩, .int .i64 0] : Array Value).toList from rfl, ← made_eq (sz := 2) rfl (by omega)]; exact hown1, hb1⟩
  case round =>
    obtain ⟨k, hk, rfl, hown, hb⟩ := hrel
    by_cases hlt : k < l.length
    · obtain ⟨b, off, rfl, hbl, hcell⟩ := hr (by omega)
      obtain ⟨cn, cs, hx, c0, c1⟩ := ch_at' hcell hb hbl hlt
      have HX := Lib.hid hx
      clear hx hown1 hb1
      have hg : ∀ j, j < 2 → (part Ch.cells Ch.zs l k)[k * 2 + j]? = Ch.zs[j]? := fun j hj => part_get Ch.cells_len rfl hlt hj
      go_wp2_with (go_at_call 13; refine (toChoice_c _ _ _).mono ?_; rintro e w' ⟨rfl, hb1⟩; have hown' := own_below hown hb1; have d0 : w'.cell? ⟨w.heap.size, k * 2, none⟩ = some (.string ⟨#[]⟩) := (hown'.cellAt (k * 2) (by omega)).trans (hg 0 (by omega)); have d1 : w'.cell? ⟨w.heap.size, k * 2 + 1, none⟩ = some (.int .i64 0) := (hown'.cellAt (k * 2 + 1) (by omega)).trans (hg 1 (by omega)); have f0 := hown'.frozenAt (k * 2); have f1 := hown'.frozenAt (k * 2 + 1))
      refine ⟨⟨k + 1, by omega, by go_num, ?_, bel_put (Nat.le_refl _) (Ch.cells ⟨cn, cs⟩) w' (k * 2) (bel_then hb hb1)⟩, by simp [intOf]; omega⟩
      have hp := own_put (Ch.cells ⟨cn, cs⟩) w' _ (k * 2) hown'
      rw [part_put Ch.cells_len rfl HX.out] at hp
      exact hp
    · go_wp2
      go_ret
      obtain rfl : k = l.length := by omega
      exact ⟨_, rfl, by rw [part_full] at hown; exact hown, hb⟩

set_option maxRecDepth 100000 in
set_option maxHeartbeats 400000 in
theorem eqChoiceS_c (v v' : Value) (l l' : List Ch) (w : World) (hr : Rd w v l.length (l.flatMap Ch.cells)) (hr' : Rd w v' l'.length (l'.flatMap Ch.cells)) :
    Calls Tryd.prog 8 #[v, v'] w fun en w' => en = .returned (.bool (decide (l = l'))) ∧ Below w.heap.size w w' := by
  obtain ⟨A, c, rfl, hc, hm, hr⟩ := hr
  obtain ⟨A', c', rfl, hc', hm', hr'⟩ := hr'
  rw [maxLen_eq] at hm hm'
  by_cases hlen : l.length = l'.length
  · have hlb : ((l.length : Int) != l'.length) = false := by rw [hlen]; simp
    have HL := Lib.hid hlen
    clear hlen
    go_enter Tryd.func8, Tryd.ntmps8
    go_wp2
    go_loopw [5] (fun i wr => ∃ k : Nat, k ≤ l.length ∧ i = .int .i64 k ∧ l.take k = l'.take k ∧ Below w.heap.size w wr) (fun i _ => l.length - (intOf i).toNat)
    case atStart => exact ⟨0, Nat.zero_le _, rfl, rfl, Below.refl _ _⟩
    case round =>
      obtain ⟨k, hk, rfl, hpre, hb⟩ := hrel
      have HP := Lib.hid hpre
      clear hpre
      by_cases hlt : k < l.length
      · have hlt' : k < l'.length := by have := HL.out; omega
        obtain ⟨b, off, rfl, hbl, hcell⟩ := hr (by omega)
        obtain ⟨b', off', rfl, hbl', hcell'⟩ := hr' (by omega)
        obtain ⟨cn, cs, hx, c0, c1⟩ := ch_at' hcell hb hbl hlt
        obtain ⟨cn', cs', hx', d0, d1⟩ := ch_at' hcell' hb hbl' hlt'
        have HX := Lib.hid hx
        have HX' := Lib.hid hx'
        clear hx hx'
        have hs := hb.size
        go_wp2_with fail
        go_region_held3 (fun w' => w'.cell? ⟨b, off + k * 2, none⟩ = some (.string cn) ∧ w'.cell? ⟨b, off + k * 2 + 1, none⟩ = some (.int .i64 cs) ∧ w'.cell? ⟨b', off' + k * 2, none⟩ = some (.string cn') ∧ w'.cell? ⟨b', off' + k * 2 + 1, none⟩ = some (.int .i64 cs')) (first | go_keep | (go_split_ands; refine ⟨?_, ?_, ?_, ?_⟩ <;> (rw [hb1.cell (by simp; omega)]; assumption))) (first | (go_at_call 17; refine (eqChoice_c _ _ _ _ _).mono ?_; rintro e w' ⟨rfl, hb1⟩))
        go_wp2
        · go_ret
          have h : chEq (Ch.mk cn cs) (Ch.mk cn' cs') = false := by simp_all
          refine ⟨?_, bel_then (bel_dr hb) hb1⟩
          have hne : l ≠ l' := fun e => by
            have h1 := HX.out; have h2 := HX'.out; rw [e, h2] at h1
            have h3 : (Ch.mk cn' cs') = (Ch.mk cn cs) := Option.some.inj h1
            rw [h3] at h; simp [chEq] at h
          rw [decide_eq_false hne]; rfl
        · have h : chEq (Ch.mk cn cs) (Ch.mk cn' cs') = true := by simp_all
          refine ⟨⟨k + 1, by omega, by go_num, ?_, bel_then (bel_dr hb) hb1⟩, by simp [intOf]; omega⟩
          have h3 : (Ch.mk cn cs) = (Ch.mk cn' cs') := by unfold chEq at h; exact of_decide_eq_true h
          rw [take_succ_of HX.out, take_succ_of HX'.out, HP.out, h3]
      · go_wp2
        go_ret
        refine ⟨?_, hb⟩
        have e := HP.out
        rw [List.take_of_length_le (by omega), List.take_of_length_le (by have := HL.out; omega)] at e
        rw [e]; simp
  · have hlb : ((l.length : Int) != l'.length) = true := by simp; omega
    have hne : l ≠ l' := fun e => hlen (by rw [e])
    go_enter Tryd.func8, Tryd.ntmps8
    go_wp2
    go_ret
    exact ⟨by rw [decide_eq_false hne]; rfl, Below.refl _ _⟩
end Go.Proofs.YtddccjdppbcnbaaDoor
