/-
  Contracts over one tanker, and over a list of tankers.
-/
import Derived.Test.YtbjiipicbcamnaaNumF
import Derived.Test.YtbjiipicbcamnaaMem
import Derived.Test.YtbjiipicbcamnaaPure
import Derived.Test.YtbjiipicbcamnaaAllI
namespace Go.Proofs.Ytbjiipicbcamnaa
open Go.RowKit

structure Tk where
  l : Int
  f : Int
  d : Int
  e : Int
deriving DecidableEq

def Tk.cells (t : Tk) : List Value := [.int .i64 t.l, .int .i64 t.f, .int .i64 t.d, .int .i64 t.e]
def Tk.v (t : Tk) : Value := .agg #[.int .i64 t.l, .int .i64 t.f, .int .i64 t.d, .int .i64 t.e]
def Tk.ok (t : Tk) : Bool := inB t.l 500 20000 && inB t.f 10 3600 && inB t.d 10 3600 && inB t.e 10 3600
def tkEq (a b : Tk) : Bool := decide (a = b)
def okL (l : List Tk) : Bool := l.all Tk.ok && decide (l.length ≤ 12)
theorem Tk.cells_len (t : Tk) : t.cells.length = 4 := rfl

theorem tk_at {w wr : World} {b off : Nat} {l : List Tk} (hc : ∀ j u, (l.flatMap Tk.cells)[j]? = some u → w.cell? ⟨b, off + j, none⟩ = some u) (hb : Below w.heap.size w wr) (hbl : b < w.heap.size)
    {k : Nat} {t : Tk} (hx : l[k]? = some t) :
    wr.cell? ⟨b, off + k * 4, none⟩ = some (.int .i64 t.l) ∧ wr.cell? ⟨b, off + k * 4 + 1, none⟩ = some (.int .i64 t.f) ∧
    wr.cell? ⟨b, off + k * 4 + 2, none⟩ = some (.int .i64 t.d) ∧ wr.cell? ⟨b, off + k * 4 + 3, none⟩ = some (.int .i64 t.e) := by
  have hf := flat_get Tk.cells_len l k t hx
  exact ⟨cell_at hc hb hbl (hf 0 (by omega)), cell_at hc hb hbl (hf 1 (by omega)), cell_at hc hb hbl (hf 2 (by omega)), cell_at hc hb hbl (hf 3 (by omega))⟩

theorem tk_at' {w wr : World} {b off : Nat} {l : List Tk} (hc : ∀ j u, (l.flatMap Tk.cells)[j]? = some u → w.cell? ⟨b, off + j, none⟩ = some u) (hb : Below w.heap.size w wr) (hbl : b < w.heap.size)
    {k : Nat} (hk : k < l.length) : ∃ tl tf td te, l[k]? = some ⟨tl, tf, td, te⟩ ∧
    wr.cell? ⟨b, off + k * 4, none⟩ = some (.int .i64 tl) ∧ wr.cell? ⟨b, off + k * 4 + 1, none⟩ = some (.int .i64 tf) ∧
    wr.cell? ⟨b, off + k * 4 + 2, none⟩ = some (.int .i64 td) ∧ wr.cell? ⟨b, off + k * 4 + 3, none⟩ = some (.int .i64 te) := by
  have hx : l[k]? = some l[k] := List.getElem?_eq_getElem hk
  exact ⟨_, _, _, _, hx, tk_at hc hb hbl hx⟩

set_option maxHeartbeats 400000 in
theorem isTanker_c (l f d e : Int) (w : World) :
    Calls Try.prog 52 #[.agg #[.int .i64 l, .int .i64 f, .int .i64 d, .int .i64 e]] w fun en w' => en = .returned (.bool (Tk.mk l f d e).ok) ∧ Below w.heap.size w w' := by
  go_enter Try.func52, Try.ntmps52
  go_wp2_with (go_at_call 35; refine (inside_c _ _ _ _).mono ?_; rintro e w' ⟨rfl, rfl⟩)
  all_goals (go_ret; exact ⟨by unfold Tk.ok; simp [*], (by repeat (first | exact Below.refl _ _ | assumption | refine bel_al ?_ _ | refine bel_dr ?_ | refine below_drewN ?_ _ | refine bel_then ?_ (by assumption)))⟩)

set_option maxHeartbeats 400000 in
theorem shOne_c (l f d e : Int) (w : World) :
    Calls Try.prog 54 #[.agg #[.int .i64 l, .int .i64 f, .int .i64 d, .int .i64 e]] w fun en w' => en = .returned (.bool (Tk.mk l f d e).ok) ∧ Below w.heap.size w w' := by
  go_enter Try.func54, Try.ntmps54
  go_wp2_with (first | (go_at_call 58; refine (l1In_c _ _ _ _).mono ?_; rintro e w' ⟨rfl, rfl⟩) | (go_at_call 64; go_loud (refine (l1All_c _ [f, d, e] _ _ _ (by exact rd_new _ (by simp) (Nat.le_refl _) (by rw [maxLen_eq]; omega))).mono ?_); rintro e w' ⟨rfl, rfl⟩))
  all_goals (go_ret; exact ⟨by unfold Tk.ok; simp [*, Bool.and_assoc], (by repeat (first | exact Below.refl _ _ | assumption | refine bel_al ?_ _ | refine bel_dr ?_ | refine below_drewN ?_ _ | refine bel_then ?_ (by assumption)))⟩)

set_option maxHeartbeats 400000 in
theorem toTanker_c (l f d e : Int) (w : World) :
    Calls Try.prog 33 #[.agg #[.int .i64 l, .int .i64 f, .int .i64 d, .int .i64 e]] w fun en w' => en = .returned (.agg #[.int .i64 l, .int .i64 f, .int .i64 d, .int .i64 e]) ∧ Below w.heap.size w w' := by
  go_enter Try.func33, Try.ntmps33
  go_wp2
  refine bodyPost_ret (v := .agg #[.int .i64 l, .int .i64 f, .int .i64 d, .int .i64 e]) (by simp [results, Try.results33, go_sem]) rfl ⟨rfl, ?_⟩
  exact (by repeat (first | exact Below.refl _ _ | assumption | refine bel_al ?_ _ | refine bel_dr ?_ | refine below_drewN ?_ _ | refine bel_then ?_ (by assumption)))

set_option maxHeartbeats 400000 in
theorem eqTanker_c (l f d e l' f' d' e' : Int) (w : World) :
    Calls Try.prog 40 #[.agg #[.int .i64 l, .int .i64 f, .int .i64 d, .int .i64 e], .agg #[.int .i64 l', .int .i64 f', .int .i64 d', .int .i64 e']] w fun en w' => en = .returned (.bool (tkEq (Tk.mk l f d e) (Tk.mk l' f' d' e'))) ∧ Below w.heap.size w w' := by
  go_enter Try.func40, Try.ntmps40
  go_wp2
  all_goals (go_ret; exact ⟨by simp_all [tkEq], (by repeat (first | exact Below.refl _ _ | assumption | refine bel_al ?_ _ | refine bel_dr ?_ | refine below_drewN ?_ _ | refine bel_then ?_ (by assumption)))⟩)

set_option maxHeartbeats 400000 in
theorem areTankers_c (v : Value) (l : List Tk) (w : World) (hr : Rd w v l.length (l.flatMap Tk.cells)) :
    Calls Try.prog 34 #[v] w fun en w' => en = .returned (.bool (okL l)) ∧ Below w.heap.size w w' := by
  obtain ⟨A, c, rfl, hc, hm, hr⟩ := hr
  rw [maxLen_eq] at hm
  go_enter Try.func34, Try.ntmps34
  go_wp2
  go_loopw [7] (fun i wr => ∃ k : Nat, k ≤ l.length ∧ i = .int .i64 k ∧ (l.take k).all Tk.ok = true ∧ Below w.heap.size w wr) (fun i _ => l.length - (intOf i).toNat)
  case atStart => exact ⟨0, Nat.zero_le _, rfl, rfl, Below.refl _ _⟩
  case round =>
    obtain ⟨k, hk, rfl, hall, hb⟩ := hrel
    by_cases hlt : k < l.length
    · obtain ⟨b, off, rfl, hbl, hcell⟩ := hr (by omega)
      have hx : l[k]? = some l[k] := by simp [hlt]
      generalize l[k] = t at hx
      obtain ⟨c0, c1, c2, c3⟩ := tk_at hcell hb hbl hx
      have HX := Lib.hid hx
      have HA := Lib.hid hall
      clear hx hall
      go_wp2_with (go_at_call 52; refine (isTanker_c _ _ _ _ _).mono ?_; rintro e w' ⟨rfl, hb1⟩)
      · go_ret
        refine ⟨?_, bel_then (bel_al hb _) hb1⟩
        have h : t.ok = false := by simp_all
        unfold okL
        rw [all_false_at HX.out h]; rfl
      · refine ⟨⟨k + 1, by omega, by go_num, ?_, bel_then (bel_al hb _) hb1⟩, by simp [intOf]; omega⟩
        rw [all_take_succ HX.out, HA.out]; simp_all
    · go_wp2
      go_ret
      rw [List.take_of_length_le (by omega)] at hall
      exact ⟨by unfold okL; rw [hall]; simp; omega, hb⟩

end Go.Proofs.Ytbjiipicbcamnaa
