/-
  ReachTable on both sides.
-/
import Derived.Test.YtgdigcnpjkkmfaaMvR
namespace Go.Proofs.Ytgdigcnpjkkmfaa
open Go.RowKit

theorem selI_same {p p' : Nat → Bool} {k : Nat} (h : ∀ i, i < k → p i = p' i) : selI p k = selI p' k := by
  unfold selI
  rw [List.filter_congr (fun i hi => h i (List.mem_range.1 hi))]
theorem timesL_len (n : Nat) (ar : List Arc) (p q : List Int) : (timesL n ar p q).length = p.length := by simp [timesL]
theorem timesL_rows {n : Nat} {ar : List Arc} {p q : List Int} : ∀ r ∈ timesL n ar p q, r.length = q.length := fun r hr => by
  unfold timesL at hr
  obtain ⟨x, _, rfl⟩ := List.mem_map.1 hr
  simp
theorem timesL_at {n : Nat} {ar : List Arc} {p q : List Int} {i k : Nat} {x s : Int} (hx : p[i]? = some x) (hs : q[k]? = some s) : ((timesL n ar p q).getD i []).getD k 0 = (distT n ar x.toNat).getD s.toNat 0 := by
  unfold timesL
  have e : (p.map fun x => q.map fun s => (distT n ar x.toNat).getD s.toNat 0).getD i [] = q.map fun s => (distT n ar x.toNat).getD s.toNat 0 := by rw [List.getD_eq_getElem?_getD, List.getElem?_map, hx]; rfl
  rw [e, List.getD_eq_getElem?_getD, List.getElem?_map, hs]
  rfl
theorem reachT_eq {n : Nat} {l : List St} {p q : List Int} {a : Int} (hg : goodTown n l = true) (hp : ∀ x ∈ p, 0 ≤ x ∧ x ≤ (n : Int) - 1) (hq : ∀ x ∈ q, 0 ≤ x ∧ x ≤ (n : Int) - 1) : reachT (timesL n (arcs l) p q) q.length a = reachL n (arcs l) p q a := by
  have hA := arcs_good hg
  rw [Int.toNat_natCast] at hA
  apply List.ext_getElem?
  intro k
  by_cases hk : k < q.length
  · obtain ⟨s, hs⟩ : ∃ s, q[k]? = some s := ⟨_, List.getElem?_eq_getElem hk⟩
    unfold reachT reachL
    rw [rowsF_get hk, List.getElem?_map, hs, Option.map_some, timesL_len]
    congr 1
    refine selI_same (fun i hi => ?_)
    obtain ⟨x, hx⟩ : ∃ x, p[i]? = some x := ⟨_, List.getElem?_eq_getElem hi⟩
    have h1 := hp x (List.mem_of_getElem? hx)
    have h2 := hq s (List.mem_of_getElem? hs)
    unfold colP reachP
    rw [timesL_at hx hs, show p.getD i 0 = x by simp [List.getD_eq_getElem?_getD, hx], dist_sym hA (u := x.toNat) (v := s.toNat) (by omega) (by omega)]
  · rw [List.getElem?_eq_none (by unfold reachT; rw [rowsF_len]; omega), List.getElem?_eq_none (by rw [reachL_len]; omega)]

def askM (n : Int) (l : List St) (p q : List Int) (a : Int) : Bool := goodMv n l p q && inB a 0 36000
theorem askM_true {n : Int} {l : List St} {p q : List Int} {a : Int} (h : askM n l p q a = true) : goodMv n l p q = true ∧ inB a 0 36000 = true := by
  unfold askM at h; rwa [Bool.and_eq_true] at h
def reachTableV (n : Int) (l : List St) (p q : List Int) (a : Int) : List (List Int) × Bool := if askM n l p q a = true then (reachL n.toNat (arcs l) p q a, true) else ([], false)
theorem reachTableV_len (n : Int) (l : List St) (p q : List Int) (a : Int) : totL (reachTableV n l p q a).1 ≤ 1000000 := by
  unfold reachTableV
  split
  · rename_i h
    obtain ⟨_, _, h6, h7, _⟩ := goodMv_true (askM_true h).1
    dsimp only
    have : ∀ L : List (List Int), (∀ r ∈ L, r.length ≤ 7) → totL L ≤ 7 * L.length := by
      intro L
      induction L with
      | nil => intro _; simp [totL]
      | cons r L ih =>
        intro h
        have h1 := h r (by simp)
        have h2 := ih (fun x hx => h x (by simp [hx]))
        unfold totL at h2 ⊢
        simp only [List.map_cons, List.sum_cons, List.length_cons]
        omega
    have h3 := this (reachL n.toNat (arcs l) p q a) (fun r hr => by
      unfold reachL at hr
      obtain ⟨x, _, rfl⟩ := List.mem_map.1 hr
      have := selI_len (reachP n.toNat (arcs l) p a x) p.length
      omega)
    rw [reachL_len] at h3
    omega
  · simp [totL]

set_option maxRecDepth 100000 in
set_option maxHeartbeats 4000000 in
theorem reachTableI_c (n : Int) (s : Value) (l : List St) (v : Value) (p : List Int) (u : Value) (q : List Int) (a : Int) (w : World) (hr : Rd w s l.length (l.flatMap St.cells)) (hp : RdI w v p) (hq : RdI w u q) :
    Calls Try.prog 21 #[.agg #[.int .i64 n, s], v, u, .int .i64 a] w (OwnSB (reachTableV n l p q a) w) := by
  have HR := Lib.hid hr
  have HQ := Lib.hid hq
  have HP := Lib.hid hp
  clear hr hp hq
  go_enter Try.func21, Try.ntmps21
  go_wp2_with fail
  generalize hW : World.alloc w _ = w0
  have t0 : w0.cell? ⟨w.heap.size, 0, none⟩ = some (.int .i64 n) := by subst hW; simp [go_sem]
  have t1 : w0.cell? ⟨w.heap.size, 1, none⟩ = some s := by subst hW; simp [go_sem]
  have hb0 : Below w.heap.size w w0 := by subst hW; exact bel_al (Below.refl _ _) _
  have z0 : w.heap.size < w0.heap.size := by subst hW; simp
  have HB := Lib.hid hb0
  clear hW hb0
  refine (moversFit_c n s l _ _ p q _ _ t0 t1 (rd_below HR.out HB.out) (rdi_below HP.out HB.out) (rdi_below HQ.out HB.out)).mono ?_; rintro e w1 ⟨rfl, hb1⟩
  have k0 := (hb1.cell (p := ⟨w.heap.size, 0, none⟩) z0).trans t0
  have k1 := (hb1.cell (p := ⟨w.heap.size, 1, none⟩) z0).trans t1
  have HB1 := Lib.hid (bel_then HB.out hb1)
  have hs1 := hb1.size
  clear t0 t1 hb1
  by_cases hok : goodMv n l p q = true
  · by_cases hlm : inB a 0 36000 = true
    · have hask : askM n l p q a = true := by unfold askM; rw [hok, hlm]; rfl
      have HASK := Lib.hid hask
      obtain ⟨g1, g2, g3, g4, g5⟩ := goodMv_true hok
      obtain ⟨m, rfl⟩ := nat_of (goodTown_true g1).1
      rw [hok]
      go_wp2_with fail
      refine (isLimit_c a _).mono ?_; rw [hlm]; rintro e w2 ⟨rfl, rfl⟩
      go_wp2_with fail
      refine (reachTable_c m s _ _ l p q a _ _ g1 g5 g2 g4 g3 k0 k1 (rd_below HR.out HB1.out) (rdi_below HP.out HB1.out) (rdi_below HQ.out HB1.out)).mono ?_; rintro e w3 ⟨v3, rfl, ho3, hb3⟩
      go_wp2
      go_ret2
      unfold reachTableV; rw [if_pos HASK.out]
      exact ⟨_, rfl, ho3.base (by have := HB1.out.size; omega), bel_then HB1.out hb3⟩
    · have hlm : inB a 0 36000 = false := by simpa using hlm
      have hask : ¬ (askM n l p q a = true) := by unfold askM; rw [hlm]; simp
      have HASK := Lib.hid hask
      rw [hok]
      go_wp2_with fail
      refine (isLimit_c a _).mono ?_; rw [hlm]; rintro e w2 ⟨rfl, rfl⟩
      go_wp2
      go_ret2
      unfold reachTableV; rw [if_neg HASK.out]
      exact ⟨_, rfl, ⟨[], SSv.nil _ _⟩, HB1.out⟩
  · have hok : goodMv n l p q = false := by simpa using hok
    have hask : ¬ (askM n l p q a = true) := by unfold askM; rw [hok]; simp
    have HASK := Lib.hid hask
    rw [hok]
    go_wp2
    go_ret2
    unfold reachTableV; rw [if_neg HASK.out]
    exact ⟨_, rfl, ⟨[], SSv.nil _ _⟩, HB1.out⟩

set_option maxRecDepth 100000 in
set_option maxHeartbeats 4000000 in
theorem reachTableS_c (n : Int) (s : Value) (l : List St) (v : Value) (p : List Int) (u : Value) (q : List Int) (a : Int) (w : World) (hr : Rd w s l.length (l.flatMap St.cells)) (hp : RdI w v p) (hq : RdI w u q) :
    Calls Try.prog 20 #[.agg #[.int .i64 n, s], v, u, .int .i64 a] w (OwnSB (reachTableV n l p q a) w) := by
  have HR := Lib.hid hr
  have HQ := Lib.hid hq
  have HP := Lib.hid hp
  obtain ⟨Au, cu, rfl, _, _, _⟩ := hq
  clear hr hp
  go_enter Try.func20, Try.ntmps20
  go_wp2_with fail
  generalize hW : World.alloc w _ = w0
  have t0 : w0.cell? ⟨w.heap.size, 0, none⟩ = some (.int .i64 n) := by subst hW; simp [go_sem]
  have t1 : w0.cell? ⟨w.heap.size, 1, none⟩ = some s := by subst hW; simp [go_sem]
  have hb0 : Below w.heap.size w w0 := by subst hW; exact bel_al (Below.refl _ _) _
  have z0 : w.heap.size < w0.heap.size := by subst hW; simp
  have HB := Lib.hid hb0
  clear hW hb0
  go_wp2_with fail
  refine (mvAsked_c n s l _ _ p q _ (rd_below HR.out HB.out) (rdi_below HP.out HB.out) (rdi_below HQ.out HB.out)).mono ?_; rintro e w1 ⟨rfl, hb1⟩
  have k0 := (hb1.cell (p := ⟨w.heap.size, 0, none⟩) z0).trans t0
  have k1 := (hb1.cell (p := ⟨w.heap.size, 1, none⟩) z0).trans t1
  have HB1 := Lib.hid (bel_then HB.out hb1)
  have hs1 := hb1.size
  clear t0 t1 hb1
  by_cases hok : goodMv n l p q = true
  · by_cases hlm : inB a 0 36000 = true
    · have hask : askM n l p q a = true := by unfold askM; rw [hok, hlm]; rfl
      have HASK := Lib.hid hask
      obtain ⟨g1, g2, g3, g4, g5⟩ := goodMv_true hok
      obtain ⟨m, rfl⟩ := nat_of (goodTown_true g1).1
      rw [hok]
      go_wp2_with fail
      refine (dsLimit_c a _).mono ?_; rw [hlm]; rintro e w2 ⟨rfl, rfl⟩
      go_wp2_with fail
      refine (mvTimes_c m s _ _ l p q _ g1 g5 g2 g4 g3 (rd_below HR.out HB1.out) (rdi_below HP.out HB1.out) (rdi_below HQ.out HB1.out)).mono ?_; rintro e w3 ⟨v3, rfl, ho3, hb3⟩
      have HO3 := Lib.hid ho3
      have HB3 := Lib.hid (bel_then HB1.out hb3)
      have hs3 := hb3.size
      clear ho3 hb3 hok
      go_wp2_with fail
      refine (mvReach_c _ _ q.length a _ (by rw [timesL_len]; exact g4) g3 timesL_rows HO3.out.rd).mono ?_; rintro e w4 ⟨v4, rfl, ho4, hb4⟩
      rw [reachT_eq g1 g5 g2] at ho4
      go_wp2
      go_ret2
      unfold reachTableV; rw [if_pos HASK.out]
      exact ⟨_, rfl, ho4.base (by have := HB3.out.size; omega), bel_then HB3.out hb4⟩
    · have hlm : inB a 0 36000 = false := by simpa using hlm
      have hask : ¬ (askM n l p q a = true) := by unfold askM; rw [hlm]; simp
      have HASK := Lib.hid hask
      rw [hok]
      go_wp2_with fail
      refine (dsLimit_c a _).mono ?_; rw [hlm]; rintro e w2 ⟨rfl, rfl⟩
      go_wp2
      go_ret2
      unfold reachTableV; rw [if_neg HASK.out]
      exact ⟨_, rfl, ⟨[], SSv.nil _ _⟩, HB1.out⟩
  · have hok : goodMv n l p q = false := by simpa using hok
    have hask : ¬ (askM n l p q a = true) := by unfold askM; rw [hok]; simp
    have HASK := Lib.hid hask
    rw [hok]
    go_wp2
    go_ret2
    unfold reachTableV; rw [if_neg HASK.out]
    exact ⟨_, rfl, ⟨[], SSv.nil _ _⟩, HB1.out⟩
end Go.Proofs.Ytgdigcnpjkkmfaa
