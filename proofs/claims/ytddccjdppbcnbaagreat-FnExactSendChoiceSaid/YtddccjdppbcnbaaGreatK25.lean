/-
  A town as a value, and lists of ints: sizes, copies, comparison, marks. (joined by pack.py: TownV)
-/
import Derived.Test.YtddccjdppbcnbaaGreatK11
import Derived.Test.YtddccjdppbcnbaaGreatK3
namespace Go.Proofs.YtddccjdppbcnbaaGreat
set_option linter.unusedVariables false
set_option linter.unusedSimpArgs false
open Go.RowKit

set_option maxHeartbeats 400000 in
theorem szTown_big (n : Int) (s : Value) (l : List St) (left : Int) (w : World) (h0 : 0 ≤ left) (h1 : left ≤ 1048576) (hr : Rd w s l.length (l.flatMap St.cells)) (hn : left < l.length) :
    Calls Tryz.prog 4 #[.agg #[.int .i64 n, s], .int .i64 left] w fun en w' => en = .returned (.int .i64 (-1)) ∧ Below w.heap.size w w' := by
  have HR := Lib.hid hr
  go_enter Tryz.func4, Tryz.ntmps4
  go_wp2_with (go_at_call 21; refine (szStreetS_big _ l.length (l.flatMap St.cells) _ _ h0 h1 (rd_below HR.out (bel_al (Below.refl _ _) _)) hn).mono ?_; rintro e w' ⟨rfl, rfl⟩)
  go_ret
  exact ⟨rfl, (by repeat (first | exact Below.refl _ _ | assumption | refine bel_al ?_ _ | refine bel_dr ?_ | refine below_drewN ?_ _ | refine bel_then ?_ (by assumption)))⟩
set_option maxHeartbeats 400000 in
theorem szTown_fits (n : Int) (s : Value) (l : List St) (left : Int) (w : World) (h1 : left ≤ 1048576) (hr : Rd w s l.length (l.flatMap St.cells)) (hn : l.length ≤ left) :
    Calls Tryz.prog 4 #[.agg #[.int .i64 n, s], .int .i64 left] w fun en w' => en = .returned (.int .i64 (left - l.length)) ∧ Below w.heap.size w w' := by
  have HR := Lib.hid hr
  go_enter Tryz.func4, Tryz.ntmps4
  go_wp2_with (go_at_call 21; refine (szStreetS_fits _ l.length (l.flatMap St.cells) _ _ h1 (rd_below HR.out (bel_al (Below.refl _ _) _)) hn).mono ?_; rintro e w' ⟨rfl, rfl⟩)
  go_ret
  exact ⟨rfl, (by repeat (first | exact Below.refl _ _ | assumption | refine bel_al ?_ _ | refine bel_dr ?_ | refine below_drewN ?_ _ | refine bel_then ?_ (by assumption)))⟩

/-- A town's copy: its streets are new memory. -/
def OwnT (n : Int) (l : List St) (w : World) (e : Ending) (w' : World) : Prop :=
  ∃ s, e = .returned (.agg #[.int .i64 n, s]) ∧ w'.ownsRow w.heap.size 77 3 s l.length (l.flatMap St.cells) ∧ Below w.heap.size w w'

set_option maxRecDepth 100000 in
set_option maxHeartbeats 1000000 in
theorem toTown_c (n : Int) (s : Value) (l : List St) (w : World) (hl : l.length ≤ 1048576) (hr : Rd w s l.length (l.flatMap St.cells)) :
    Calls Tryz.prog 7 #[.agg #[.int .i64 n, s]] w (OwnT n l w) := by
  have HR := Lib.hid hr
  clear hr
  go_enter Tryz.func7, Tryz.ntmps7
  go_wp2_with fail
  refine (toStreetS_c _ l _ hl (rd_below HR.out (bel_al (bel_al (bel_al (Below.refl _ _) _) _) _))).mono ?_
  rintro e w2 ⟨s2, rfl, ho, hb⟩
  have hz : w.heap.size + 2 < w2.heap.size := by have := hb.size; simp at this; omega
  have m0 : w2.cell? ⟨w.heap.size + 1, 0, none⟩ = some (.int .i64 0) := (hb.cell (p := ⟨w.heap.size + 1, 0, none⟩) (by simp)).trans (by simp [go_sem])
  have m1 : w2.cell? ⟨w.heap.size + 1, 1, none⟩ = some (.slice none 0 0) := (hb.cell (p := ⟨w.heap.size + 1, 1, none⟩) (by simp)).trans (by simp [go_sem])
  obtain ⟨hc1, hf1⟩ := bel_facts hb
  obtain ⟨A2, c2, rfl, hr2⟩ := own_rd ho
  have HO := Lib.hid ho
  clear ho hr2
  go_wp2
  have hbw : Below w.heap.size w w2 := bel_then (bel_al (bel_al (bel_al (Below.refl _ _) _) _) _) hb
  clear hc1 hf1 hb
  refine bodyPost_ret (v := .agg #[.int .i64 n, .slice A2 l.length c2]) (by simp [results, Tryz.results7, go_sem, m0, m1]) rfl ?_
  have hs : w.heap.size + 1 + 1 < (((w.alloc (Obj.cells #[Value.int IntKind.i64 n, s] 0)).alloc (Obj.cells #[Value.int IntKind.i64 0, Value.slice none 0 0] 0)).alloc (Obj.cells #[Value.int IntKind.i64 n, Value.slice none 0 0] 0)).heap.size := by simp
  have ho := own_other (own_other (own_other HO.out (g := w.heap.size + 1 + 1) (by simp) 1 (.slice A2 l.length c2)) (g := w.heap.size + 1) (by simp) 0 (.int .i64 n)) (g := w.heap.size + 1) (by simp) 1 (.slice A2 l.length c2)
  exact ⟨_, rfl, own_base ho (by simp <;> omega), ((hbw.setCell (by simp <;> omega) _).setCell (by simp) _).setCell (by simp) _⟩

theorem toTownRd {n : Int} {l : List St} {w w' : World} {e : Ending} (h : OwnT n l w e w') : ∃ s, e = .returned (.agg #[.int .i64 n, s]) ∧ w'.ownsRow w.heap.size 77 3 s l.length (l.flatMap St.cells) ∧ Below w.heap.size w w' := h

set_option maxHeartbeats 400000 in
theorem eqTown_c (n : Int) (s s' : Value) (l : List St) (w : World) (hr : Rd w s l.length (l.flatMap St.cells)) (hr' : Rd w s' l.length (l.flatMap St.cells)) :
    Calls Tryz.prog 13 #[.agg #[.int .i64 n, s], .agg #[.int .i64 n, s']] w fun en w' => en = .returned (.bool true) ∧ Below w.heap.size w w' := by
  have HR := Lib.hid hr
  have HR' := Lib.hid hr'
  clear hr hr'
  have hne : ((n : Int) != n) = false := by simp
  go_enter Tryz.func13, Tryz.ntmps13
  go_wp2_with (go_at_call 35; refine (eqStreetS_c _ _ l l _ (rd_below HR.out (bel_al (bel_al (Below.refl _ _) _) _)) (rd_below HR'.out (bel_al (bel_al (Below.refl _ _) _) _))).mono ?_; rintro e w' ⟨rfl, hb1⟩)
  all_goals first | (go_ret; exact ⟨rfl, (by repeat (first | exact Below.refl _ _ | assumption | refine bel_al ?_ _ | refine bel_dr ?_ | refine below_drewN ?_ _ | refine bel_then ?_ (by assumption)))⟩) | skip

set_option maxHeartbeats 400000 in
theorem markTown_c (n : Int) (s : Value) (xs : List Value) (m : Nat) (q : Int) (base : Nat) (w : World) (ho : w.ownsRow base 77 3 s m xs) (h0 : 0 ≤ q) (h1 : q ≤ 4611686018427387904) (hn : m ≤ 1048576) :
    Calls Tryz.prog 15 #[.agg #[.int .i64 n, s], .int .i64 q] w fun en w' => en = .returned (.int .i64 (q + 3 * m)) ∧ w.grownBy w' s.ownBlock := by
  have HO := Lib.hid ho
  clear ho
  go_enter Tryz.func15, Tryz.ntmps15
  go_wp2_with (go_at_call 36; refine (markStreetS_c _ _ q _ m _ (HO.out.alloc _) h0 h1 hn).mono ?_; rintro e w' ⟨rfl, hg⟩)
  go_ret
  exact ⟨rfl, (World.grownBy_alloc _ _ _).trans hg⟩
end Go.Proofs.YtddccjdppbcnbaaGreat
