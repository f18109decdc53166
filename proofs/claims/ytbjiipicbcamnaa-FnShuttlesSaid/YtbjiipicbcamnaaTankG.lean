/-
  FlowOf, TankersFor, CycleSeconds, IsTanker: both sides give the same.
-/
import Derived.Test.YtbjiipicbcamnaaTankF
namespace Go.Proofs.Ytbjiipicbcamnaa
open Go.RowKit

set_option maxHeartbeats 400000 in
theorem flowOfI_c (v : Value) (l : List Tk) (w : World) (hr : Rd w v l.length (l.flatMap Tk.cells)) :
    Calls Try.prog 28 #[v] w fun en w' => en = .returned (.tuple #[.int .i64 (flowOf l).1, .bool (flowOf l).2]) ∧ Below w.heap.size w w' := by
  have HR := Lib.hid hr
  obtain ⟨A, c, rfl, hc, hm, hr⟩ := hr
  rw [maxLen_eq] at hm
  by_cases hok : okL l = true
  · obtain ⟨h12, hall⟩ := okL_true hok
    have hsb := sumTo_bd (f := Tk.rate) (B := 30000) fun t ht => Tk.rate_bd (hall t ht)
    have HS := Lib.hid hsb
    have HALL := Lib.hid hall
    have HF : Hid (flowOf l = ((l.map Tk.rate).sum, true)) := Lib.hid (by unfold flowOf; rw [if_pos hok])
    clear hsb hall
    go_enter Try.func28, Try.ntmps28
    go_wp2_with (go_at_call 34; refine (areTankers_c _ l _ HR.out).mono ?_; rintro e w' ⟨rfl, hb1⟩; obtain ⟨hc1, hf1⟩ := bel_facts hb1)
    go_loopw [4, 12] (fun s i wr => ∃ k : Nat, k ≤ l.length ∧ i = .int .i64 k ∧ s = .int .i64 (sumTo Tk.rate l k) ∧ Below w.heap.size w wr) (fun _ i _ => l.length - (intOf i).toNat)
    case atStart => exact ⟨0, Nat.zero_le _, rfl, rfl, by assumption⟩
    case round =>
      obtain ⟨k, hk, rfl, rfl, hb⟩ := hrel
      by_cases hlt : k < l.length
      · obtain ⟨b, off, rfl, hbl, hcell⟩ := hr (by omega)
        obtain ⟨tl, tf, td, te, hx, c0, c1, c2, c3⟩ := tk_at' hcell hb hbl hlt
        have hot := HALL.out _ (List.mem_of_getElem? hx)
        obtain ⟨s0, s1⟩ := HS.out k hk
        obtain ⟨t0, t1⟩ := Tk.rate_bd hot
        obtain ⟨cy0, cy1⟩ := Tk.cyc_bd hot
        have hbd := Tk.bd hot
        dsimp only at hbd
        obtain ⟨_, _, _, _, _, _, _, _⟩ := hbd
        have HT := Lib.hid hot
        have HX := Lib.hid hx
        clear hx hot
        have ew : IntKind.i64.wrap (60 * tl) = 60 * tl := IntWalk.i64_in _ (by omega)
        have hz : ¬ (Tk.mk tl tf td te).cyc = 0 := by omega
        have eq : IntKind.i64.wrap ((60 * tl).tdiv (Tk.mk tl tf td te).cyc) = (Tk.mk tl tf td te).rate := quo_eq (by omega) (by omega) (by omega)
        have es : IntKind.i64.wrap (sumTo Tk.rate l k + (Tk.mk tl tf td te).rate) = sumTo Tk.rate l k + (Tk.mk tl tf td te).rate := IntWalk.i64_in _ (by omega)
        go_wp2_with fail
        (generalize hw1 : World.alloc wr _ = w1; have k0 : w1.cell? ⟨wr.heap.size, 0, none⟩ = some (.int .i64 tl) := (by subst hw1; simp [go_sem]); have k1 : w1.cell? ⟨wr.heap.size, 1, none⟩ = some (.int .i64 tf) := (by subst hw1; simp [go_sem]); have k2 : w1.cell? ⟨wr.heap.size, 2, none⟩ = some (.int .i64 td) := (by subst hw1; simp [go_sem]); have k3 : w1.cell? ⟨wr.heap.size, 3, none⟩ = some (.int .i64 te) := (by subst hw1; simp [go_sem]); have hb0 : Below wr.heap.size wr w1 := (by subst hw1; exact bel_al (Below.refl _ _) _); have hsz : wr.heap.size < w1.heap.size := (by subst hw1; simp); clear hw1)
        go_region_held3 (fun w' => w'.cell? ⟨wr.heap.size, 0, none⟩ = some (.int .i64 tl) ∧ w'.cell? ⟨wr.heap.size, 1, none⟩ = some (.int .i64 tf) ∧ w'.cell? ⟨wr.heap.size, 2, none⟩ = some (.int .i64 td) ∧ w'.cell? ⟨wr.heap.size, 3, none⟩ = some (.int .i64 te)) (first | go_keep | (go_split_ands; refine ⟨?_, ?_, ?_, ?_⟩ <;> (rw [hb1.cell (by simp; omega)]; assumption))) (first | (go_at_call 36; refine (cycle_c _ _ _ _ _ HT.out).mono ?_; rintro e w' ⟨rfl, hb1⟩))
        clear ew eq es
        go_wp2
        refine ⟨⟨k + 1, by omega, by go_num, ?_, bel_then (bel_then hb (bel_dr hb0)) hb1⟩, by simp [intOf]; omega⟩
        rw [sumTo_succ HX.out]
      · go_wp2
        go_ret2
        obtain rfl : k = l.length := by omega
        exact ⟨by rw [HF.out, ← sumTo_full]; rfl, hb⟩
  · have hok' : okL l = false := by simpa using hok
    go_enter Try.func28, Try.ntmps28
    go_wp2_with (go_at_call 34; refine (areTankers_c _ l _ HR.out).mono ?_; rintro e w' ⟨rfl, hb1⟩; obtain ⟨hc1, hf1⟩ := bel_facts hb1)
    go_ret2
    exact ⟨by unfold flowOf; rw [if_neg hok]; rfl, by assumption⟩

theorem isTankerI_c (l f d e : Int) (w : World) :
    Calls Try.prog 27 #[.agg #[.int .i64 l, .int .i64 f, .int .i64 d, .int .i64 e]] w fun en w' => en = .returned (.bool (Tk.mk l f d e).ok) ∧ Below w.heap.size w w' := by
  go_enter Try.func27, Try.ntmps27
  go_wp2_with (go_at_call 52; refine (isTanker_c _ _ _ _ _).mono ?_; rintro e w' ⟨rfl, hb1⟩; obtain ⟨hc1, hf1⟩ := bel_facts hb1)
  go_ret
  exact ⟨rfl, (by repeat (first | exact Below.refl _ _ | assumption | refine bel_al ?_ _ | refine bel_dr ?_ | refine below_drewN ?_ _ | refine bel_then ?_ (by assumption)))⟩

def cycSec (t : Tk) : Int × Bool := if t.ok then (t.cyc, true) else (0, false)
theorem cycSecS_c (l f d e : Int) (w : World) :
    Calls Try.prog 22 #[.agg #[.int .i64 l, .int .i64 f, .int .i64 d, .int .i64 e]] w fun en w' => en = .returned (.tuple #[.int .i64 (cycSec (Tk.mk l f d e)).1, .bool (cycSec (Tk.mk l f d e)).2]) ∧ Below w.heap.size w w' := by
  by_cases hok : (Tk.mk l f d e).ok = true
  · have H := Lib.hid hok
    go_enter Try.func22, Try.ntmps22
    go_wp2_with (first | (go_at_call 54; refine (shOne_c _ _ _ _ _).mono ?_; rintro e w' ⟨rfl, hb1⟩; obtain ⟨hc1, hf1⟩ := bel_facts hb1) | (go_at_call 32; refine (shCycle_c _ _ _ _ _ H.out).mono ?_; rintro e w' ⟨rfl, hb1⟩; obtain ⟨hc1, hf1⟩ := bel_facts hb1))
    go_ret2
    exact ⟨by unfold cycSec; rw [if_pos H.out]; rfl, (by repeat (first | exact Below.refl _ _ | assumption | refine bel_al ?_ _ | refine bel_dr ?_ | refine below_drewN ?_ _ | refine bel_then ?_ (by assumption)))⟩
  · have H := Lib.hid hok
    go_enter Try.func22, Try.ntmps22
    go_wp2_with (go_at_call 54; refine (shOne_c _ _ _ _ _).mono ?_; rintro e w' ⟨rfl, hb1⟩; obtain ⟨hc1, hf1⟩ := bel_facts hb1)
    go_ret2
    exact ⟨by unfold cycSec; rw [if_neg (by simpa using H.out)]; rfl, (by repeat (first | exact Below.refl _ _ | assumption | refine bel_al ?_ _ | refine bel_dr ?_ | refine below_drewN ?_ _ | refine bel_then ?_ (by assumption)))⟩
theorem cycSecI_c (l f d e : Int) (w : World) :
    Calls Try.prog 21 #[.agg #[.int .i64 l, .int .i64 f, .int .i64 d, .int .i64 e]] w fun en w' => en = .returned (.tuple #[.int .i64 (cycSec (Tk.mk l f d e)).1, .bool (cycSec (Tk.mk l f d e)).2]) ∧ Below w.heap.size w w' := by
  by_cases hok : (Tk.mk l f d e).ok = true
  · have H := Lib.hid hok
    go_enter Try.func21, Try.ntmps21
    go_wp2_with (first | (go_at_call 52; refine (isTanker_c _ _ _ _ _).mono ?_; rintro e w' ⟨rfl, hb1⟩; obtain ⟨hc1, hf1⟩ := bel_facts hb1) | (go_at_call 36; refine (cycle_c _ _ _ _ _ H.out).mono ?_; rintro e w' ⟨rfl, hb1⟩; obtain ⟨hc1, hf1⟩ := bel_facts hb1))
    go_ret2
    exact ⟨by unfold cycSec; rw [if_pos H.out]; rfl, (by repeat (first | exact Below.refl _ _ | assumption | refine bel_al ?_ _ | refine bel_dr ?_ | refine below_drewN ?_ _ | refine bel_then ?_ (by assumption)))⟩
  · have H := Lib.hid hok
    go_enter Try.func21, Try.ntmps21
    go_wp2_with (go_at_call 52; refine (isTanker_c _ _ _ _ _).mono ?_; rintro e w' ⟨rfl, hb1⟩; obtain ⟨hc1, hf1⟩ := bel_facts hb1)
    go_ret2
    exact ⟨by unfold cycSec; rw [if_neg (by simpa using H.out)]; rfl, (by repeat (first | exact Below.refl _ _ | assumption | refine bel_al ?_ _ | refine bel_dr ?_ | refine below_drewN ?_ _ | refine bel_then ?_ (by assumption)))⟩
end Go.Proofs.Ytbjiipicbcamnaa
