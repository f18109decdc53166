/-
  Lists of Appliance: sizes, copy, comparison. Lists of Choice: sizes, copy, comparison. (joined by pack.py: ApS ChS)
-/
import Derived.Test.YtddccjdppbcnbaaGreatK5
import Derived.Deep.RegionHeld3
import Derived.Deep.RegionWith
import Derived.BigQuiet
namespace Go.Proofs.YtddccjdppbcnbaaGreat
set_option linter.unusedVariables false
set_option linter.unusedSimpArgs false
open Go.RowKit

set_option maxHeartbeats 400000 in
theorem szAppliance_no (nm : ByteArray) (kd : Int) (nd : Int) (cr : Int) (sv : Int) (left : Int) (w : World) (h0 : 0 ≤ left) (h1 : left ≤ 1048576) (hz : nm.size ≤ 9223372036854775807) (hn : left < nm.size) :
    Calls Tryz.prog 22 #[.agg #[.string nm, .int .i64 kd, .int .i64 nd, .int .i64 cr, .int .i64 sv], .int .i64 left] w fun en w' => en = .returned (.int .i64 (-1)) ∧ Below w.heap.size w w' := by
  go_enter Tryz.func22, Tryz.ntmps22
  go_wp2
  go_ret
  exact ⟨rfl, (by repeat (first | exact Below.refl _ _ | assumption | refine bel_al ?_ _ | refine bel_dr ?_ | refine below_drewN ?_ _ | refine bel_then ?_ (by assumption)))⟩
set_option maxHeartbeats 400000 in
theorem szAppliance_yes (nm : ByteArray) (kd : Int) (nd : Int) (cr : Int) (sv : Int) (left : Int) (w : World) (h0 : 0 ≤ left) (h1 : left ≤ 1048576) (hn : (nm.size : Int) ≤ left) :
    Calls Tryz.prog 22 #[.agg #[.string nm, .int .i64 kd, .int .i64 nd, .int .i64 cr, .int .i64 sv], .int .i64 left] w fun en w' => en = .returned (.int .i64 (left - nm.size)) ∧ Below w.heap.size w w' := by
  go_enter Tryz.func22, Tryz.ntmps22
  go_wp2
  go_ret
  exact ⟨rfl, (by repeat (first | exact Below.refl _ _ | assumption | refine bel_al ?_ _ | refine bel_dr ?_ | refine below_drewN ?_ _ | refine bel_then ?_ (by assumption)))⟩
/-- Too much, or what is left. -/
def SzAp (n : Nat) (left : Int) (w : World) (e : Ending) (w' : World) : Prop := ∃ r : Int, e = .returned (.int .i64 r) ∧ Below w.heap.size w w' ∧ (r = -1 ∨ (0 ≤ r ∧ r ≤ left ∧ (n : Int) ≤ left))
set_option maxRecDepth 100000 in
set_option maxHeartbeats 1000000 in
theorem szApplianceS_c (v : Value) (l : List Ap) (left : Int) (w : World) (h0 : 0 ≤ left) (h1 : left ≤ 1048576) (hz : ∀ x ∈ l, x.nm.size ≤ 9223372036854775807) (hr : Rd w v l.length (l.flatMap Ap.cells)) :
    Calls Tryz.prog 5 #[v, .int .i64 left] w (SzAp l.length left w) := by
  obtain ⟨A, c, rfl, hc, hm, hr⟩ := hr
  rw [maxLen_eq] at hm
  have HZ := Lib.hid hz
  have HR := Lib.hid hr
  clear hz hr
  by_cases hlt : left < l.length
  · go_enter Tryz.func5, Tryz.ntmps5
    go_wp2
    go_ret
    exact ⟨-1, rfl, Below.refl _ _, .inl rfl⟩
  · have hle : (l.length : Int) ≤ left := by omega
    clear hlt
    go_enter Tryz.func5, Tryz.ntmps5
    go_wp2_with fail
    go_loopw [1, 5] (fun v1 v5 wr => ∃ (k : Nat) (t : Int), k ≤ l.length ∧ 0 ≤ t ∧ t ≤ left - l.length ∧ v5 = .int .i64 k ∧ v1 = .int .i64 t ∧ Hid (Below w.heap.size w wr)) (fun _ v5 _ => l.length - (intOf v5).toNat)
    case atStart => exact ⟨0, left - l.length, Nat.zero_le _, by omega, by omega, rfl, rfl, Lib.hid (Below.refl _ _)⟩
    case round =>
      obtain ⟨k, t, hk, ht0, ht1, rfl, rfl, HB⟩ := hrel
      by_cases hlk : k < l.length
      · obtain ⟨b, off, rfl, hbl, hcell⟩ := HR.out (by omega)
        obtain ⟨nm, kd, nd, cr, sv, hx, c0, c1, c2, c3, c4⟩ := ap_at' hcell HB.out hbl hlk
        have hzk := HZ.out _ (List.mem_of_getElem? hx)
        dsimp only at hzk
        clear hx hcell
        by_cases hfit : (nm.size : Int) ≤ t
        · go_wp2_with fail
          refine (szAppliance_yes _ _ _ _ _ t _ ht0 (by omega) hfit).mono ?_; rintro e w2 ⟨rfl, hb2⟩
          have HB2 := Lib.hid (bel_then HB.out hb2)
          have t0 : 0 ≤ t - (nm.size : Int) := by omega
          clear hb2
          go_wp2
          exact ⟨⟨k + 1, t - nm.size, by omega, by omega, by omega, by go_num, rfl, HB2⟩, by simp [intOf]; omega⟩
        · go_wp2_with fail
          refine (szAppliance_no _ _ _ _ _ t _ ht0 (by omega) hzk (by omega)).mono ?_; rintro e w2 ⟨rfl, hb2⟩
          have HB2 := Lib.hid (bel_then HB.out hb2)
          clear hb2
          go_wp2
          go_ret
          exact ⟨-1, rfl, HB2.out, .inl rfl⟩
      · obtain rfl : k = l.length := by omega
        go_wp2
        go_ret
        exact ⟨t, rfl, HB.out, .inr ⟨ht0, by omega, hle⟩⟩

def Ap.zs : List Value := [.string ⟨#[]⟩, .int .i64 0, .int .i64 0, .int .i64 0, .int .i64 0]
theorem Tryz.infoAp : (Tryz.prog.info? 60).map (fun i => (i.zero, i.size, i.bytes)) = some (some (.agg #[.string ⟨#[]⟩, .int .i64 0, .int .i64 0, .int .i64 0, .int .i64 0]), 5, 48) := by kernel_rfl

set_option maxRecDepth 100000 in
set_option maxHeartbeats 400000 in
theorem toApplianceS_c (v : Value) (l : List Ap) (w : World) (hl : l.length ≤ 1048576) (hr : Rd w v l.length (l.flatMap Ap.cells)) :
    Calls Tryz.prog 8 #[v] w fun en w' => ∃ v', en = .returned v' ∧ w'.ownsRow w.heap.size 60 5 v' l.length (l.flatMap Ap.cells) ∧ Below w.heap.size w w' := by
  obtain ⟨A, c, rfl, hc, hm, hr⟩ := hr
  rw [maxLen_eq] at hm
  obtain ⟨i0, hi, hz0, hz1, hz2⟩ := info_parts Tryz.infoAp
  go_enter Tryz.func8, Tryz.ntmps8
  go_wp2_with (at_make; refine wpList_make_full _ rfl _ _ 29 rfl w.heap.size 60 i0 _ 5 Tryz.underlying29 hi hz0 hz1 _ _ _ _ l.length rfl rfl rfl rfl (by rw [hz2]; omega) (by rw [maxLen_eq]; omega) (Nat.le_refl _) ?_; intro w1 hown1 hg1)
  have hb1 : Below w.heap.size w w1 := (Below.refl _ _).grown hg1 (Nat.le_refl _) (fun k h => by cases h)
  clear hg1
  go_loopw [4] (fun i wr => ∃ k : Nat, k ≤ l.length ∧ i = .int .i64 k ∧ wr.ownsRow w.heap.size 60 5 (.slice (some ⟨w.heap.size, 0, none⟩) l.length l.length) l.length (part Ap.cells Ap.zs l k) ∧ Below w.heap.size w wr) (fun i _ => l.length - (intOf i).toNat)
  case atStart => exact ⟨0, Nat.zero_le _, rfl, by rw [part_zero, show Ap.zs = (#[.string ⟨#[]⟩, .int .i64 0, .int .i64 0, .int .i64 0, .int .i64 0] : Array Value).toList from rfl, ← made_eq (sz := 5) rfl (by omega)]; exact hown1, hb1⟩
  case round =>
    obtain ⟨k, hk, rfl, hown, hb⟩ := hrel
    by_cases hlt : k < l.length
    · obtain ⟨b, off, rfl, hbl, hcell⟩ := hr (by omega)
      obtain ⟨nm, kd, nd, cr, sv, hx, c0, c1, c2, c3, c4⟩ := ap_at' hcell hb hbl hlt
      have HX := Lib.hid hx
      clear hx hown1 hb1
      have hg : ∀ j, j < 5 → (part Ap.cells Ap.zs l k)[k * 5 + j]? = Ap.zs[j]? := fun j hj => part_get Ap.cells_len rfl hlt hj
      go_wp2_with (go_at_call 29; refine (toAppliance_c _ _ _ _ _ _).mono ?_; rintro e w' ⟨rfl, hb1⟩; have hown' := own_below hown hb1; have d0 : w'.cell? ⟨w.heap.size, k * 5, none⟩ = some (.string ⟨#[]⟩) := (hown'.cellAt (k * 5) (by omega)).trans (hg 0 (by omega)); have d1 : w'.cell? ⟨w.heap.size, k * 5 + 1, none⟩ = some (.int .i64 0) := (hown'.cellAt (k * 5 + 1) (by omega)).trans (hg 1 (by omega)); have d2 : w'.cell? ⟨w.heap.size, k * 5 + 2, none⟩ = some (.int .i64 0) := (hown'.cellAt (k * 5 + 2) (by omega)).trans (hg 2 (by omega)); have d3 : w'.cell? ⟨w.heap.size, k * 5 + 3, none⟩ = some (.int .i64 0) := (hown'.cellAt (k * 5 + 3) (by omega)).trans (hg 3 (by omega)); have d4 : w'.cell? ⟨w.heap.size, k * 5 + 4, none⟩ = some (.int .i64 0) := (hown'.cellAt (k * 5 + 4) (by omega)).trans (hg 4 (by omega)); have f0 := hown'.frozenAt (k * 5); have f1 := hown'.frozenAt (k * 5 + 1); have f2 := hown'.frozenAt (k * 5 + 2); have f3 := hown'.frozenAt (k * 5 + 3); have f4 := hown'.frozenAt (k * 5 + 4))
      refine ⟨⟨k + 1, by omega, by go_num, ?_, bel_put (Nat.le_refl _) (Ap.cells ⟨nm, kd, nd, cr, sv⟩) w' (k * 5) (bel_then hb hb1)⟩, by simp [intOf]; omega⟩
      have hp := own_put (Ap.cells ⟨nm, kd, nd, cr, sv⟩) w' _ (k * 5) hown'
      rw [part_put Ap.cells_len rfl HX.out] at hp
      exact hp
    · go_wp2
      go_ret
      obtain rfl : k = l.length := by omega
      exact ⟨_, rfl, by rw [part_full] at hown; exact hown, hb⟩

set_option maxRecDepth 100000 in
set_option maxHeartbeats 400000 in
theorem eqApplianceS_c (v v' : Value) (l l' : List Ap) (w : World) (hr : Rd w v l.length (l.flatMap Ap.cells)) (hr' : Rd w v' l'.length (l'.flatMap Ap.cells)) :
    Calls Tryz.prog 11 #[v, v'] w fun en w' => en = .returned (.bool (decide (l = l'))) ∧ Below w.heap.size w w' := by
  obtain ⟨A, c, rfl, hc, hm, hr⟩ := hr
  obtain ⟨A', c', rfl, hc', hm', hr'⟩ := hr'
  rw [maxLen_eq] at hm hm'
  by_cases hlen : l.length = l'.length
  · have hlb : ((l.length : Int) != l'.length) = false := by rw [hlen]; simp
    have HL := Lib.hid hlen
    clear hlen
    go_enter Tryz.func11, Tryz.ntmps11
    go_wp2
    go_loopw [5] (fun i wr => ∃ k : Nat, k ≤ l.length ∧ i = .int .i64 k ∧ l.take k = l'.take k ∧ Below w.heap.size w wr) (fun i _ => l.length - (intOf i).toNat)
    case atStart => exact ⟨0, Nat.zero_le _, rfl, rfl, Below.refl _ _⟩
    case round =>
      obtain ⟨k, hk, rfl, hpre, hb⟩ := hrel
      have HP := Lib.hid hpre
      clear hpre
      by_cases hlt : k < l.length
      · have hlt' : k < l'.length := by have := HL.out; omega
        obtain ⟨b, off, rfl, hbl, hcell⟩ := hr (by omega)
        obtain ⟨b', off', rfl, hbl', hcell'⟩ := hr' (by omega)
        obtain ⟨nm, kd, nd, cr, sv, hx, c0, c1, c2, c3, c4⟩ := ap_at' hcell hb hbl hlt
        obtain ⟨nm', kd', nd', cr', sv', hx', d0, d1, d2, d3, d4⟩ := ap_at' hcell' hb hbl' hlt'
        have HX := Lib.hid hx
        have HX' := Lib.hid hx'
        clear hx hx'
        have hs := hb.size
        go_wp2_with fail
        go_region_held3 (fun w' => w'.cell? ⟨b, off + k * 5, none⟩ = some (.string nm) ∧ w'.cell? ⟨b, off + k * 5 + 1, none⟩ = some (.int .i64 kd) ∧ w'.cell? ⟨b, off + k * 5 + 2, none⟩ = some (.int .i64 nd) ∧ w'.cell? ⟨b, off + k * 5 + 3, none⟩ = some (.int .i64 cr) ∧ w'.cell? ⟨b, off + k * 5 + 4, none⟩ = some (.int .i64 sv) ∧ w'.cell? ⟨b', off' + k * 5, none⟩ = some (.string nm') ∧ w'.cell? ⟨b', off' + k * 5 + 1, none⟩ = some (.int .i64 kd') ∧ w'.cell? ⟨b', off' + k * 5 + 2, none⟩ = some (.int .i64 nd') ∧ w'.cell? ⟨b', off' + k * 5 + 3, none⟩ = some (.int .i64 cr') ∧ w'.cell? ⟨b', off' + k * 5 + 4, none⟩ = some (.int .i64 sv')) (first | go_keep | (go_split_ands; refine ⟨?_, ?_, ?_, ?_, ?_, ?_, ?_, ?_, ?_, ?_⟩ <;> (rw [hb1.cell (by simp; omega)]; assumption))) (first | (go_at_call 34; refine (eqAppliance_c _ _ _ _ _ _ _ _ _ _ _).mono ?_; rintro e w' ⟨rfl, hb1⟩))
        go_wp2
        · go_ret
          have h : apEq (Ap.mk nm kd nd cr sv) (Ap.mk nm' kd' nd' cr' sv') = false := by simp_all
          refine ⟨?_, bel_then (bel_dr hb) hb1⟩
          have hne : l ≠ l' := fun e => by
            have h1 := HX.out; have h2 := HX'.out; rw [e, h2] at h1
            have h3 : (Ap.mk nm' kd' nd' cr' sv') = (Ap.mk nm kd nd cr sv) := Option.some.inj h1
            rw [h3] at h; simp [apEq] at h
          rw [decide_eq_false hne]; rfl
        · have h : apEq (Ap.mk nm kd nd cr sv) (Ap.mk nm' kd' nd' cr' sv') = true := by simp_all
          refine ⟨⟨k + 1, by omega, by go_num, ?_, bel_then (bel_dr hb) hb1⟩, by simp [intOf]; omega⟩
          have h3 : (Ap.mk nm kd nd cr sv) = (Ap.mk nm' kd' nd' cr' sv') := by unfold apEq at h; exact of_decide_eq_true h
          rw [take_succ_of HX.out, take_succ_of HX'.out, HP.out, h3]
      · go_wp2
        go_ret
        refine ⟨?_, hb⟩
        have e := HP.out
        rw [List.take_of_length_le (by omega), List.take_of_length_le (by have := HL.out; omega)] at e
        rw [e]; simp
  · have hlb : ((l.length : Int) != l'.length) = true := by simp; omega
    have hne : l ≠ l' := fun e => hlen (by rw [e])
    go_enter Tryz.func11, Tryz.ntmps11
    go_wp2
    go_ret
    exact ⟨by rw [decide_eq_false hne]; rfl, Below.refl _ _⟩
end Go.Proofs.YtddccjdppbcnbaaGreat

namespace Go.Proofs.YtddccjdppbcnbaaGreat
set_option linter.unusedVariables false
set_option linter.unusedSimpArgs false
open Go.RowKit


def Ch.zs : List Value := [.string ⟨#[]⟩, .int .i64 0]
end Go.Proofs.YtddccjdppbcnbaaGreat
