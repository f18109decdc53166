/-
  What is reckoned over tankers: cycles, rates, flows, what has been brought. Contracts of both sides.
-/
import Derived.Test.YtbjiipicbcamnaaTank
import Derived.Deep.RegionHeld3
import Derived.Deep.RegionWith
import Derived.BigQuiet
import Derived.IntWalk
namespace Go.Proofs.Ytbjiipicbcamnaa
open Go.RowKit

def Tk.cyc (t : Tk) : Int := t.f + 2 * t.d + t.e
def Tk.rate (t : Tk) : Int := 60 * t.l / t.cyc
theorem Tk.bd {t : Tk} (h : t.ok = true) : 500 ≤ t.l ∧ t.l ≤ 20000 ∧ 10 ≤ t.f ∧ t.f ≤ 3600 ∧ 10 ≤ t.d ∧ t.d ≤ 3600 ∧ 10 ≤ t.e ∧ t.e ≤ 3600 := by
  simp [Tk.ok, inB] at h; omega
theorem Tk.cyc_bd {t : Tk} (h : t.ok = true) : 40 ≤ t.cyc ∧ t.cyc ≤ 14400 := by
  have := Tk.bd h; unfold Tk.cyc; omega
theorem div_bd {a b n : Int} (ha : 0 ≤ a) (hb : 1 ≤ b) (hn : a ≤ n) : 0 ≤ a / b ∧ a / b ≤ n := by
  refine ⟨Int.ediv_nonneg ha (by omega), ?_⟩
  have h1 : a / b * b ≤ a := Int.ediv_mul_le _ (by omega)
  have h2 : a / b * 1 ≤ a / b * b := Int.mul_le_mul_of_nonneg_left hb (Int.ediv_nonneg ha (by omega))
  omega
/-- Go's quotient of numbers that are not negative. -/
theorem quo_eq {a b : Int} (ha : 0 ≤ a) (hb : 1 ≤ b) (hn : a ≤ 1000000000000) : IntKind.i64.wrap (a.tdiv b) = a / b := by
  rw [Int.tdiv_eq_ediv_of_nonneg ha]
  have := div_bd ha hb hn
  exact IntWalk.i64_in _ (by omega)
theorem Tk.rate_bd {t : Tk} (h : t.ok = true) : 0 ≤ t.rate ∧ t.rate ≤ 30000 := by
  have h1 := Tk.bd h; have h2 := Tk.cyc_bd h
  unfold Tk.rate
  constructor
  · exact Int.ediv_nonneg (by omega) (by omega)
  · calc 60 * t.l / t.cyc ≤ 60 * t.l / 40 := ?_
      _ ≤ 30000 := by omega
    apply Int.le_ediv_of_mul_le (by omega)
    have h3 : 60 * t.l / t.cyc * t.cyc ≤ 60 * t.l := Int.ediv_mul_le _ (by omega)
    have h4 : 60 * t.l / t.cyc * 40 ≤ 60 * t.l / t.cyc * t.cyc := Int.mul_le_mul_of_nonneg_left h2.1 (Int.ediv_nonneg (by omega) (by omega))
    omega


set_option maxHeartbeats 400000 in
theorem shCycle_c (l f d e : Int) (w : World) (h : (Tk.mk l f d e).ok = true) :
    Calls Try.prog 32 #[.agg #[.int .i64 l, .int .i64 f, .int .i64 d, .int .i64 e]] w fun en w' => en = .returned (.int .i64 (Tk.mk l f d e).cyc) ∧ Below w.heap.size w w' := by
  have hbd := Tk.bd h
  dsimp only at hbd
  clear h
  obtain ⟨_, _, _, _, _, _, _, _⟩ := hbd
  go_enter Try.func32, Try.ntmps32
  go_wp2
  go_ret
  exact ⟨rfl, (by repeat (first | exact Below.refl _ _ | assumption | refine bel_al ?_ _ | refine bel_dr ?_ | refine below_drewN ?_ _ | refine bel_then ?_ (by assumption)))⟩
set_option maxHeartbeats 400000 in
theorem cycle_c (l f d e : Int) (w : World) (h : (Tk.mk l f d e).ok = true) :
    Calls Try.prog 36 #[.agg #[.int .i64 l, .int .i64 f, .int .i64 d, .int .i64 e]] w fun en w' => en = .returned (.int .i64 (Tk.mk l f d e).cyc) ∧ Below w.heap.size w w' := by
  have hbd := Tk.bd h
  dsimp only at hbd
  clear h
  obtain ⟨_, _, _, _, _, _, _, _⟩ := hbd
  go_enter Try.func36, Try.ntmps36
  go_wp2
  go_ret
  exact ⟨rfl, (by repeat (first | exact Below.refl _ _ | assumption | refine bel_al ?_ _ | refine bel_dr ?_ | refine below_drewN ?_ _ | refine bel_then ?_ (by assumption)))⟩

set_option maxHeartbeats 400000 in
theorem shRate_c (l f d e : Int) (w : World) (h : (Tk.mk l f d e).ok = true) :
    Calls Try.prog 55 #[.agg #[.int .i64 l, .int .i64 f, .int .i64 d, .int .i64 e]] w fun en w' => en = .returned (.int .i64 (Tk.mk l f d e).rate) ∧ Below w.heap.size w w' := by
  have hbd := Tk.bd h
  have hcy := Tk.cyc_bd h
  dsimp only at hbd
  have H := Lib.hid h
  clear h
  obtain ⟨_, _, _, _, _, _, _, _⟩ := hbd
  obtain ⟨_, _⟩ := hcy
  go_enter Try.func55, Try.ntmps55
  go_wp2_with fail
  (generalize hw1 : World.alloc w _ = w1; have k0 : w1.cell? ⟨w.heap.size, 0, none⟩ = some (.int .i64 l) := (by subst hw1; simp [go_sem]); have k1 : w1.cell? ⟨w.heap.size, 1, none⟩ = some (.int .i64 f) := (by subst hw1; simp [go_sem]); have k2 : w1.cell? ⟨w.heap.size, 2, none⟩ = some (.int .i64 d) := (by subst hw1; simp [go_sem]); have k3 : w1.cell? ⟨w.heap.size, 3, none⟩ = some (.int .i64 e) := (by subst hw1; simp [go_sem]); have hb0 : Below w.heap.size w w1 := (by subst hw1; exact bel_al (Below.refl _ _) _); have hsz : w.heap.size < w1.heap.size := (by subst hw1; simp); clear hw1)
  have ew : IntKind.i64.wrap (60 * l) = 60 * l := IntWalk.i64_in _ (by omega)
  have hz : ¬ (Tk.mk l f d e).cyc = 0 := by omega
  have eq : IntKind.i64.wrap ((60 * l).tdiv (Tk.mk l f d e).cyc) = (Tk.mk l f d e).rate := quo_eq (by omega) (by omega) (by omega)
  go_region_held3 (fun w' => w'.cell? ⟨w.heap.size, 0, none⟩ = some (.int .i64 l) ∧ w'.cell? ⟨w.heap.size, 1, none⟩ = some (.int .i64 f) ∧ w'.cell? ⟨w.heap.size, 2, none⟩ = some (.int .i64 d) ∧ w'.cell? ⟨w.heap.size, 3, none⟩ = some (.int .i64 e)) (first | go_keep | (go_split_ands; refine ⟨?_, ?_, ?_, ?_⟩ <;> (rw [hb1.cell (by simp; omega)]; assumption))) (first | (go_at_call 32; refine (shCycle_c _ _ _ _ _ H.out).mono ?_; rintro e w' ⟨rfl, hb1⟩))
  go_wp2
  go_ret
  exact ⟨rfl, (by repeat (first | exact Below.refl _ _ | assumption | refine bel_al ?_ _ | refine bel_dr ?_ | refine below_drewN ?_ _ | refine bel_then ?_ (by assumption)))⟩

set_option maxHeartbeats 400000 in
theorem shAll_c (v : Value) (l : List Tk) (w : World) (hr : Rd w v l.length (l.flatMap Tk.cells)) :
    Calls Try.prog 29 #[v] w fun en w' => en = .returned (.bool (okL l)) ∧ Below w.heap.size w w' := by
  obtain ⟨A, c, rfl, hc, hm, hr⟩ := hr
  rw [maxLen_eq] at hm
  go_enter Try.func29, Try.ntmps29
  go_wp2
  go_loopw [7] (fun i wr => ∃ k : Nat, k ≤ l.length ∧ i = .int .i64 k ∧ (l.take k).all Tk.ok = true ∧ Below w.heap.size w wr) (fun i _ => l.length - (intOf i).toNat)
  case atStart => exact ⟨0, Nat.zero_le _, rfl, rfl, Below.refl _ _⟩
  case round =>
    obtain ⟨k, hk, rfl, hall, hb⟩ := hrel
    by_cases hlt : k < l.length
    · obtain ⟨b, off, rfl, hbl, hcell⟩ := hr (by omega)
      have hx : l[k]? = some l[k] := by simp [hlt]
      generalize l[k] = t at hx
      obtain ⟨c0, c1, c2, c3⟩ := tk_at hcell hb hbl hx
      have HX := Lib.hid hx
      have HA := Lib.hid hall
      clear hx hall
      go_wp2_with (go_at_call 54; refine (shOne_c _ _ _ _ _).mono ?_; rintro e w' ⟨rfl, hb1⟩)
      · go_ret
        refine ⟨?_, bel_then (bel_al hb _) hb1⟩
        have h : t.ok = false := by simp_all
        unfold okL
        rw [all_false_at HX.out h]; rfl
      · refine ⟨⟨k + 1, by omega, by go_num, ?_, bel_then (bel_al hb _) hb1⟩, by simp [intOf]; omega⟩
        rw [all_take_succ HX.out, HA.out]; simp_all
    · go_wp2
      go_ret
      rw [List.take_of_length_le (by omega)] at hall
      exact ⟨by unfold okL; rw [hall]; simp; omega, hb⟩

/-- The sum of the first k. -/
def sumTo (f : Tk → Int) (l : List Tk) (k : Nat) : Int := ((l.take k).map f).sum
theorem sumTo_succ {f : Tk → Int} {l : List Tk} {k : Nat} {t : Tk} (h : l[k]? = some t) : sumTo f l (k + 1) = sumTo f l k + f t := by
  unfold sumTo; rw [take_succ_of h]; simp
theorem sumTo_full {f : Tk → Int} {l : List Tk} : sumTo f l l.length = (l.map f).sum := by unfold sumTo; simp
theorem sumTo_bd {f : Tk → Int} {l : List Tk} {B : Int} (hB : ∀ t ∈ l, 0 ≤ f t ∧ f t ≤ B) : ∀ k, k ≤ l.length → 0 ≤ sumTo f l k ∧ sumTo f l k ≤ k * B := by
  intro k
  induction k with
  | zero => intro _; simp [sumTo]
  | succ k ih =>
    intro hk
    have hx : l[k]? = some l[k] := List.getElem?_eq_getElem (by omega)
    have h1 := ih (by omega)
    have h2 := hB _ (List.mem_of_getElem? hx)
    rw [sumTo_succ hx]
    have : ((k + 1 : Nat) : Int) * B = k * B + B := by rw [Int.natCast_add]; simp [Int.add_mul]
    omega
theorem okL_true {l : List Tk} (h : okL l = true) : l.length ≤ 12 ∧ ∀ t ∈ l, t.ok = true := by
  simp [okL] at h; exact ⟨h.2, h.1⟩
def flowOf (l : List Tk) : Int × Bool := if okL l then ((l.map Tk.rate).sum, true) else (0, false)

end Go.Proofs.Ytbjiipicbcamnaa
