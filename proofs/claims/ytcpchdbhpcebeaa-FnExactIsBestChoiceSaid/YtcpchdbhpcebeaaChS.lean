/-
  Lists of Choice: sizes, copy, comparison.
-/
import Derived.Test.YtcpchdbhpcebeaaCh
import Derived.Deep.RegionHeld3
import Derived.Deep.RegionWith
import Derived.BigQuiet
namespace Go.Proofs.Ytcpchdbhpcebeaa
open Go.RowKit


def Ch.zs : List Value := [.string ⟨#[]⟩, .int .i64 0]
theorem Try.infoCh : (Try.prog.info? 96).map (fun i => (i.zero, i.size, i.bytes)) = some (some (.agg #[.string ⟨#[]⟩, .int .i64 0]), 2, 24) := by kernel_rfl

set_option maxRecDepth 100000 in
set_option maxHeartbeats 400000 in
theorem eqChoiceS_c (v v' : Value) (l l' : List Ch) (w : World) (hr : Rd w v l.length (l.flatMap Ch.cells)) (hr' : Rd w v' l'.length (l'.flatMap Ch.cells)) :
    Calls Try.prog 32 #[v, v'] w fun en w' => en = .returned (.bool (decide (l = l'))) ∧ Below w.heap.size w w' := by
  obtain ⟨A, c, rfl, hc, hm, hr⟩ := hr
  obtain ⟨A', c', rfl, hc', hm', hr'⟩ := hr'
  rw [maxLen_eq] at hm hm'
  by_cases hlen : l.length = l'.length
  · have hlb : ((l.length : Int) != l'.length) = false := by rw [hlen]; simp
    have HL := Lib.hid hlen
    clear hlen
    go_enter Try.func32, Try.ntmps32
    go_wp2
    go_loopw [5] (fun i wr => ∃ k : Nat, k ≤ l.length ∧ i = .int .i64 k ∧ l.take k = l'.take k ∧ Below w.heap.size w wr) (fun i _ => l.length - (intOf i).toNat)
    case atStart => exact ⟨0, Nat.zero_le _, rfl, rfl, Below.refl _ _⟩
    case round =>
      obtain ⟨k, hk, rfl, hpre, hb⟩ := hrel
      have HP := Lib.hid hpre
      clear hpre
      by_cases hlt : k < l.length
      · have hlt' : k < l'.length := by have := HL.out; omega
        obtain ⟨b, off, rfl, hbl, hcell⟩ := hr (by omega)
        obtain ⟨b', off', rfl, hbl', hcell'⟩ := hr' (by omega)
        obtain ⟨cn, cs, hx, c0, c1⟩ := ch_at' hcell hb hbl hlt
        obtain ⟨cn', cs', hx', d0, d1⟩ := ch_at' hcell' hb hbl' hlt'
        have HX := Lib.hid hx
        have HX' := Lib.hid hx'
        clear hx hx'
        have hs := hb.size
        go_wp2_with fail
        go_region_held3 (fun w' => w'.cell? ⟨b, off + k * 2, none⟩ = some (.string cn) ∧ w'.cell? ⟨b, off + k * 2 + 1, none⟩ = some (.int .i64 cs) ∧ w'.cell? ⟨b', off' + k * 2, none⟩ = some (.string cn') ∧ w'.cell? ⟨b', off' + k * 2 + 1, none⟩ = some (.int .i64 cs')) (first | go_keep | (go_split_ands; refine ⟨?_, ?_, ?_, ?_⟩ <;> (rw [hb1.cell (by simp; omega)]; assumption))) (first | (go_at_call 70; refine (eqChoice_c _ _ _ _ _).mono ?_; rintro e w' ⟨rfl, hb1⟩))
        go_wp2
        · go_ret
          have h : chEq (Ch.mk cn cs) (Ch.mk cn' cs') = false := by simp_all
          refine ⟨?_, bel_then (bel_dr hb) hb1⟩
          have hne : l ≠ l' := fun e => by
            have h1 := HX.out; have h2 := HX'.out; rw [e, h2] at h1
            have h3 : (Ch.mk cn' cs') = (Ch.mk cn cs) := Option.some.inj h1
            rw [h3] at h; simp [chEq] at h
          rw [decide_eq_false hne]; rfl
        · have h : chEq (Ch.mk cn cs) (Ch.mk cn' cs') = true := by simp_all
          refine ⟨⟨k + 1, by omega, by go_num, ?_, bel_then (bel_dr hb) hb1⟩, by simp [intOf]; omega⟩
          have h3 : (Ch.mk cn cs) = (Ch.mk cn' cs') := by unfold chEq at h; exact of_decide_eq_true h
          rw [take_succ_of HX.out, take_succ_of HX'.out, HP.out, h3]
      · go_wp2
        go_ret
        refine ⟨?_, hb⟩
        have e := HP.out
        rw [List.take_of_length_le (by omega), List.take_of_length_le (by have := HL.out; omega)] at e
        rw [e]; simp
  · have hlb : ((l.length : Int) != l'.length) = true := by simp; omega
    have hne : l ≠ l' := fun e => hlen (by rw [e])
    go_enter Try.func32, Try.ntmps32
    go_wp2
    go_ret
    exact ⟨by rw [decide_eq_false hne]; rfl, Below.refl _ _⟩
end Go.Proofs.Ytcpchdbhpcebeaa
