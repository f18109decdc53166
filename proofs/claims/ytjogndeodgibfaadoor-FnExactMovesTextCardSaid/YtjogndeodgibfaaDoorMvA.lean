/-
  Movers: both sides' look at them.
-/
import Derived.Test.YtjogndeodgibfaaDoorCovB
import Derived.Test.YtjogndeodgibfaaDoorDel
import Derived.Laws.EntriesVeiled
namespace Go.Proofs.YtjogndeodgibfaaDoor
open Go.RowKit

/-- The town is valid, q its stations, p nodes of at most 7 movers. -/
def goodMv (n : Int) (l : List St) (p q : List Int) : Bool := goodSta n l q && (decide (p.length ≤ 7) && p.all (fun x => inB x 0 (n - 1)))
theorem goodMv_true {n : Int} {l : List St} {p q : List Int} (h : goodMv n l p q = true) : goodTown n l = true ∧ (∀ x ∈ q, 0 ≤ x ∧ x ≤ n - 1) ∧ q.length ≤ 6 ∧ p.length ≤ 7 ∧ ∀ x ∈ p, 0 ≤ x ∧ x ≤ n - 1 := by
  unfold goodMv at h
  simp only [Bool.and_eq_true, decide_eq_true_eq, List.all_eq_true] at h
  obtain ⟨h1, h2, h3⟩ := h
  obtain ⟨a, b, c⟩ := goodSta_true h1
  exact ⟨a, b, c, h2, fun x hx => inB_true (h3 x hx)⟩

theorem all_false_at' {p : Int → Bool} {l : List Int} {k : Nat} {x : Int} (h : l[k]? = some x) (hp : p x = false) : l.all p = false :=
  List.all_eq_false.2 ⟨x, List.mem_of_getElem? h, by rw [hp]; simp⟩
set_option maxHeartbeats 400000 in
theorem allI_c (v : Value) (l : List Int) (lo hi : Int) (w : World) (hr : RdI w v l) :
    Calls Tryd.prog 8 #[v, .int .i64 lo, .int .i64 hi] w fun en w' => en = .returned (.bool (l.all fun n => inB n lo hi)) ∧ w = w' := by
  obtain ⟨A, c, rfl, hc, hm, hr⟩ := hr
  rw [maxLen_eq] at hm
  go_enter Tryd.func8, Tryd.ntmps8
  go_wp2
  go_loop [8, 11] (fun _ i => ∃ k : Nat, k ≤ l.length ∧ i = .int .i64 k ∧ (l.take k).all (fun n => inB n lo hi) = true) (fun _ i => l.length - (intOf i).toNat)
  case atStart => exact ⟨0, Nat.zero_le _, rfl, rfl⟩
  case round =>
    obtain ⟨k, hk, rfl, hall⟩ := hrel
    by_cases hlt : k < l.length
    · obtain ⟨b, off, rfl, hbl, hcell⟩ := hr (by omega)
      have hx : l[k]? = some l[k] := by simp [hlt]
      generalize l[k] = t at hx
      have c0 := hcell k (.int .i64 t) (ints_get hx)
      have HX := Lib.hid hx
      have HA := Lib.hid hall
      clear hx hall
      go_wp2_with (go_at_call 15; refine (l1In_c _ _ _ _).mono ?_; rintro e w' ⟨rfl, rfl⟩)
      · go_ret
        refine ⟨?_, rfl⟩
        have h : inB t lo hi = false := by simp_all
        rw [all_false_at' HX.out h]; rfl
      · refine ⟨⟨k + 1, by omega, by go_num, ?_⟩, by simp [intOf]; omega⟩
        rw [take_succ_of HX.out, List.all_append, HA.out]; simp_all
    · go_wp2
      go_ret
      rw [List.take_of_length_le (by omega)] at hall
      exact ⟨by rw [hall]; rfl, rfl⟩

set_option maxHeartbeats 1000000 in
theorem moversFitF_c (n x : Int) (B C : Nat) (w : World) (h1 : 1 ≤ n) (h2 : n ≤ 14) (c0 : w.cell? ⟨B, 0, none⟩ = some (.int .i64 n)) (c1 : w.cell? ⟨C, 0, none⟩ = some (.pointer (some ⟨B, 0, none⟩))) :
    Calls Tryd.prog 19 #[.int .i64 x, .pointer (some ⟨C, 0, none⟩)] w fun e w' => e = .returned (.bool (!(inB x 0 (n - 1)))) ∧ w = w' := by
  go_enter Tryd.func19, Tryd.ntmps19
  go_wp2_with (go_at_call 20; refine (has_c n _ _ _ h1 h2 c0).mono ?_; rintro e w' ⟨rfl, rfl⟩)
  go_ret
  exact ⟨rfl, rfl⟩

theorem not_any {p : Int → Bool} {l : List Int} : (!(l.any fun x => !(p x))) = l.all p := by
  induction l with
  | nil => rfl
  | cons y l ih => simp only [List.any_cons, List.all_cons]; rw [← ih]; cases p y <;> simp

set_option maxHeartbeats 1000000 in
theorem moversFit_c (n : Int) (s : Value) (l : List St) (v u : Value) (p q : List Int) (B : Nat) (w : World) (t0 : w.cell? ⟨B, 0, none⟩ = some (.int .i64 n)) (t1 : w.cell? ⟨B, 1, none⟩ = some s) (hr : Rd w s l.length (l.flatMap St.cells)) (hp : RdI w v p) (hq : RdI w u q) :
    Calls Tryd.prog 12 #[.pointer (some ⟨B, 0, none⟩), v, u] w fun e w' => e = .returned (.bool (goodMv n l p q)) ∧ Below w.heap.size w w' := by
  have HR := Lib.hid hr
  have HQ := Lib.hid hq
  have HP := Lib.hid hp
  obtain ⟨A, c, rfl, hc, hm, _⟩ := hp
  rw [maxLen_eq] at hm
  clear hr hq
  have hbx : ∀ o, Below w.heap.size w (w.alloc o) := fun o => bel_al (Below.refl _ _) o
  have hB : B < w.heap.size := World.block_lt_of_cell? w _ t0
  have eg : ∀ args w, (callFunc 19 args).run Tryd.prog w = .ok (.enter 19 args) w := enters_of Tryd.func19 (by kernel_rfl) rfl
  have EG := Lib.hid eg
  clear eg
  go_enter Tryd.func12, Tryd.ntmps12
  go_wp2_with fail
  generalize hW : World.alloc w _ = w0
  have k0 : w0.cell? ⟨w.heap.size, 0, none⟩ = some (.pointer (some ⟨B, 0, none⟩)) := by subst hW; simp [go_sem]
  have hb0 : Below w.heap.size w w0 := by subst hW; exact hbx _
  have z0 : w.heap.size < w0.heap.size := by subst hW; simp
  have y0 := (hb0.cell (p := ⟨B, 0, none⟩) hB).trans t0
  have y1 := (hb0.cell (p := ⟨B, 1, none⟩) hB).trans t1
  clear hW
  have HB := Lib.hid hb0
  refine (areStations_c n s _ l q B _ y0 y1 (rd_below HR.out HB.out) (rdi_below HQ.out HB.out)).mono ?_; rintro e w1 ⟨rfl, hb1⟩
  have k1 := (hb1.cell (p := ⟨w.heap.size, 0, none⟩) z0).trans k0
  have x0 := (hb1.cell (p := ⟨B, 0, none⟩) (Nat.lt_trans hB z0)).trans y0
  have HB1 := Lib.hid (bel_then hb0 hb1)
  clear hb0 hb1 k0 y0 y1
  by_cases hok : goodSta n l q = true
  · obtain ⟨g1, g2, g3⟩ := goodSta_true hok
    obtain ⟨hn1, hn2, _⟩ := goodTown_true g1
    clear g1 g2
    rw [hok]
    by_cases h7 : p.length ≤ 7
    · have e7 : decide ((p.length : Int) ≤ 7) = true := decide_eq_true (by omega)
      have hs : Says 19 #[.pointer (some ⟨w.heap.size, 0, none⟩)] (fun x => !(inB x 0 (n - 1))) p w1 := fun x _ => moversFitF_c n x B _ w1 hn1 hn2 x0 k1
      have HS := Lib.hid hs
      clear hs
      go_wp2_with fail
      refine (containsFunc_c 19 _ EG.out (fun x => !(inB x 0 (n - 1))) _ p _ HS.out (rdi_below HP.out HB1.out)).mono ?_; rintro e w2 ⟨rfl, rfl⟩
      go_wp2
      go_ret
      refine ⟨?_, HB1.out⟩
      rw [not_any]
      unfold goodMv
      rw [hok]; simp [h7]
    · have e7 : decide ((p.length : Int) ≤ 7) = false := decide_eq_false (by omega)
      go_wp2
      go_ret
      refine ⟨?_, HB1.out⟩
      unfold goodMv
      rw [hok]; simp [h7]
  · have hok : goodSta n l q = false := by simpa using hok
    rw [hok]
    go_wp2
    go_ret
    refine ⟨?_, HB1.out⟩
    unfold goodMv
    rw [hok]; simp
end Go.Proofs.YtjogndeodgibfaaDoor
