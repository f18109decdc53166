/-
  MostFilled on both sides (printed by gen_mv.py).
-/
import Derived.Test.YtgdigcnpjkkmfaaMvM
namespace Go.Proofs.Ytgdigcnpjkkmfaa
open Go.RowKit

def noneP : Nat → Bool := fun _ => false
theorem usedM_zero : UsedM 0 noneP := ⟨by omega, fun i _ => by simp [noneP]⟩
theorem usedL_nil : UsedL [] noneP := fun i _ => by simp [noneP]
theorem rdi_nil (w : World) : RdI w (.slice none 0 0) [] := ⟨none, 0, rfl, Nat.le_refl _, Nat.zero_le _, fun h => absurd h (by simp)⟩
theorem reachL_tab {m : Nat} {ar : List Arc} {p q : List Int} {a : Int} (h7 : p.length ≤ 7) (h6 : q.length ≤ 6) : Tab (reachL m ar p q a) := by
  refine ⟨by rw [reachL_len]; exact h6, fun r hr => ?_⟩
  unfold reachL at hr
  obtain ⟨x, _, rfl⟩ := List.mem_map.1 hr
  refine ⟨Nat.le_trans (selI_len _ _) h7, fun y hy => ?_⟩
  obtain ⟨i, h1, h2, _⟩ := selI_mem.1 hy
  exact ⟨i, h1, by omega⟩
set_option maxHeartbeats 1000000 in
theorem mostFilled_c (v : Value) (ls : List (List Int)) (w : World) (ht : Tab ls) (hr : RdSS w v ls) :
    Calls Try.prog 50 #[v] w fun e w' => e = .returned (.int .i64 (mostR ls noneP : Nat)) ∧ w = w' := by
  have h := mostFrom_c v ls ht ls.length 0 0 noneP w (by omega) usedM_zero hr
  have H := Lib.hid h
  clear h ht hr
  go_enter Try.func50, Try.ntmps50
  go_wp2_with (go_at_call 79; refine H.out.mono ?_; rintro e w' ⟨rfl, rfl⟩)
  go_ret
  exact ⟨rfl, rfl⟩

def mostFilledV (n : Int) (l : List St) (p q : List Int) (a : Int) : Int × Bool := if askM n l p q a = true then ((mostR (reachL n.toNat (arcs l) p q a) noneP : Nat), true) else (0, false)

set_option maxRecDepth 100000 in
set_option maxHeartbeats 4000000 in
theorem mostFilledI_c (n : Int) (s : Value) (l : List St) (v : Value) (p : List Int) (u : Value) (q : List Int) (a : Int) (w : World) (hr : Rd w s l.length (l.flatMap St.cells)) (hp : RdI w v p) (hq : RdI w u q) :
    Calls Try.prog 19 #[.agg #[.int .i64 n, s], v, u, .int .i64 a] w fun e w' => e = .returned (.tuple #[.int .i64 (mostFilledV n l p q a).1, .bool (mostFilledV n l p q a).2]) ∧ Below w.heap.size w w' := by
  have HR := Lib.hid hr
  have HQ := Lib.hid hq
  have HP := Lib.hid hp
  clear hr hp hq
  go_enter Try.func19, Try.ntmps19
  go_wp2_with fail
  generalize hW : World.alloc w _ = w0
  have t0 : w0.cell? ⟨w.heap.size, 0, none⟩ = some (.int .i64 n) := by subst hW; simp [go_sem]
  have t1 : w0.cell? ⟨w.heap.size, 1, none⟩ = some s := by subst hW; simp [go_sem]
  have hb0 : Below w.heap.size w w0 := by subst hW; exact bel_al (Below.refl _ _) _
  have z0 : w.heap.size < w0.heap.size := by subst hW; simp
  have HB := Lib.hid hb0
  clear hW hb0
  refine (moversFit_c n s l _ _ p q _ _ t0 t1 (rd_below HR.out HB.out) (rdi_below HP.out HB.out) (rdi_below HQ.out HB.out)).mono ?_; rintro e w1 ⟨rfl, hb1⟩
  have k0 := (hb1.cell (p := ⟨w.heap.size, 0, none⟩) z0).trans t0
  have k1 := (hb1.cell (p := ⟨w.heap.size, 1, none⟩) z0).trans t1
  have HB1 := Lib.hid (bel_then HB.out hb1)
  have hs1 := hb1.size
  clear t0 t1 hb1
  by_cases hok : goodMv n l p q = true
  · by_cases hlm : inB a 0 36000 = true
    · have hask : askM n l p q a = true := by unfold askM; rw [hok, hlm]; rfl
      have HASK := Lib.hid hask
      obtain ⟨g1, g2, g3, g4, g5⟩ := goodMv_true hok
      obtain ⟨m, rfl⟩ := nat_of (goodTown_true g1).1
      rw [hok]
      go_wp2_with fail
      refine (isLimit_c a _).mono ?_; rw [hlm]; rintro e w2 ⟨rfl, rfl⟩
      go_wp2_with fail
      refine (reachTable_c m s _ _ l p q a _ _ g1 g5 g2 g4 g3 k0 k1 (rd_below HR.out HB1.out) (rdi_below HP.out HB1.out) (rdi_below HQ.out HB1.out)).mono ?_; rintro e w3 ⟨v3, rfl, ho3, hb3⟩
      have HT : Hid (Tab (reachL m (arcs l) p q a)) := Lib.hid (reachL_tab g4 g3)
      have HO3 := Lib.hid ho3
      have HB3 := Lib.hid (bel_then HB1.out hb3)
      clear g1 g2 g5 hok hlm hask k0 k1 ho3 hb3
      have hlen := reachL_len m (arcs l) p q a
      obtain ⟨TB, hTB⟩ : ∃ TB, reachL m (arcs l) p q a = TB := ⟨_, rfl⟩
      rw [hTB] at hlen HT HO3
      have HTB := Lib.hid hTB
      have HLEN := Lib.hid hlen
      clear hlen hTB
      go_wp2_with fail
      refine (mostFilled_c _ TB _ HT.out HO3.out.rd).mono ?_; rintro e w4 ⟨rfl, rfl⟩
      go_wp2
      go_ret2
      unfold mostFilledV; rw [if_pos HASK.out, Int.toNat_natCast, HTB.out]
      exact ⟨rfl, HB3.out⟩
    · have hlm : inB a 0 36000 = false := by simpa using hlm
      have hask : ¬ (askM n l p q a = true) := by unfold askM; rw [hlm]; simp
      have HASK := Lib.hid hask
      rw [hok]
      go_wp2_with fail
      refine (isLimit_c a _).mono ?_; rw [hlm]; rintro e w2 ⟨rfl, rfl⟩
      go_wp2
      go_ret2
      unfold mostFilledV; rw [if_neg HASK.out]
      exact ⟨rfl, HB1.out⟩
  · have hok : goodMv n l p q = false := by simpa using hok
    have hask : ¬ (askM n l p q a = true) := by unfold askM; rw [hok]; simp
    have HASK := Lib.hid hask
    rw [hok]
    go_wp2
    go_ret2
    unfold mostFilledV; rw [if_neg HASK.out]
    exact ⟨rfl, HB1.out⟩

set_option maxRecDepth 100000 in
set_option maxHeartbeats 4000000 in
theorem mostFilledS_c (n : Int) (s : Value) (l : List St) (v : Value) (p : List Int) (u : Value) (q : List Int) (a : Int) (w : World) (hr : Rd w s l.length (l.flatMap St.cells)) (hp : RdI w v p) (hq : RdI w u q) :
    Calls Try.prog 18 #[.agg #[.int .i64 n, s], v, u, .int .i64 a] w fun e w' => e = .returned (.tuple #[.int .i64 (mostFilledV n l p q a).1, .bool (mostFilledV n l p q a).2]) ∧ Below w.heap.size w w' := by
  have HR := Lib.hid hr
  have HQ := Lib.hid hq
  have HP := Lib.hid hp
  obtain ⟨Au, cu, rfl, hcu, hmu, _⟩ := hq
  rw [maxLen_eq] at hmu
  clear hr hp
  go_enter Try.func18, Try.ntmps18
  go_wp2_with fail
  generalize hW : World.alloc w _ = w0
  have t0 : w0.cell? ⟨w.heap.size, 0, none⟩ = some (.int .i64 n) := by subst hW; simp [go_sem]
  have t1 : w0.cell? ⟨w.heap.size, 1, none⟩ = some s := by subst hW; simp [go_sem]
  have hb0 : Below w.heap.size w w0 := by subst hW; exact bel_al (Below.refl _ _) _
  have z0 : w.heap.size < w0.heap.size := by subst hW; simp
  have HB := Lib.hid hb0
  clear hW hb0
  go_wp2_with fail
  refine (reachTableS_c n s l _ p _ q a _ (rd_below HR.out HB.out) (rdi_below HP.out HB.out) (rdi_below HQ.out HB.out)).mono ?_; rintro e w3 ⟨v3, rfl, ho3, hb3⟩
  by_cases hask : askM n l p q a = true
  · have HASK := Lib.hid hask
    obtain ⟨hok, hlm⟩ := askM_true hask
    obtain ⟨g1, g2, g3, g4, g5⟩ := goodMv_true hok
    obtain ⟨m, rfl⟩ := nat_of (goodTown_true g1).1
    have hf : reachTableV (m : Int) l p q a = (reachL m (arcs l) p q a, true) := by unfold reachTableV; rw [if_pos hask]; rfl
    rw [hf] at ho3 ⊢
    dsimp only at ho3 ⊢
    have HT : Hid (Tab (reachL m (arcs l) p q a)) := Lib.hid (reachL_tab g4 g3)
    have HO3 := Lib.hid ho3
    have HB3 := Lib.hid (bel_then HB.out hb3)
    clear g1 g2 g5 hok hlm hask hf t0 t1 ho3 hb3
    have hlen := reachL_len m (arcs l) p q a
    obtain ⟨TB, hTB⟩ : ∃ TB, reachL m (arcs l) p q a = TB := ⟨_, rfl⟩
    rw [hTB] at hlen HT HO3
    have HTB := Lib.hid hTB
    have HLEN := Lib.hid hlen
    clear hlen hTB
    go_wp2_with fail
    refine (mvMost_c _ TB HT.out TB.length 0 _ [] noneP _ (by omega) (by simp) usedL_nil HO3.out.rd (rdi_nil _)).mono ?_; rintro e w4 ⟨rfl, hb4⟩
    go_wp2
    go_ret2
    unfold mostFilledV; rw [if_pos HASK.out, Int.toNat_natCast, HTB.out]
    exact ⟨rfl, bel_then HB3.out hb4⟩
  · have HASK := Lib.hid hask
    have hf : reachTableV n l p q a = ([], false) := by unfold reachTableV; rw [if_neg hask]
    have HB1 := Lib.hid (bel_then HB.out hb3)
    rw [hf]
    clear ho3 hb3 hask hf t0 t1
    go_wp2
    go_ret2
    unfold mostFilledV; rw [if_neg HASK.out]
    exact ⟨rfl, HB1.out⟩
end Go.Proofs.Ytgdigcnpjkkmfaa
