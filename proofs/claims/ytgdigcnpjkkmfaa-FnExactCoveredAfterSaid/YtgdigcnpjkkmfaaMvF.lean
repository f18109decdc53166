/-
  IsFilling on both sides.
-/
import Derived.Test.YtgdigcnpjkkmfaaMvS
import Derived.Test.YtgdigcnpjkkmfaaMvO
namespace Go.Proofs.Ytgdigcnpjkkmfaa
open Go.RowKit

def fillAt (TB : List (List Int)) (r : List Int) (k : Nat) : Bool := decide (r.getD k 0 < 0) || decide (r.getD k 0 ∈ TB.getD k [])
def fillW (TB : List (List Int)) (r : List Int) : Bool := (List.range r.length).all (fillAt TB r)
theorem fillAt_neg {TB : List (List Int)} {r : List Int} {k : Nat} {x : Int} (hx : r[k]? = some x) (h : x < 0) : fillAt TB r k = true := by
  unfold fillAt; rw [show r.getD k 0 = x by simp [List.getD_eq_getElem?_getD, hx]]; simp [h]
theorem fillAt_mem {TB : List (List Int)} {r : List Int} {k : Nat} {x : Int} {l : List Int} (hx : r[k]? = some x) (hl : TB[k]? = some l) (h : ¬ x < 0) : fillAt TB r k = decide (x ∈ l) := by
  unfold fillAt
  rw [show r.getD k 0 = x by simp [List.getD_eq_getElem?_getD, hx], show TB.getD k [] = l by simp [List.getD_eq_getElem?_getD, hl], decide_eq_false h, Bool.false_or]
theorem fillW_false {TB : List (List Int)} {r : List Int} {k : Nat} (hk : k < r.length) (h : fillAt TB r k = false) : fillW TB r = false := by
  unfold fillW
  exact List.all_eq_false.2 ⟨k, List.mem_range.2 hk, by rw [h]; simp⟩
theorem fill_succ {TB : List (List Int)} {r : List Int} {k : Nat} (h : (List.range k).all (fillAt TB r) = true) (h' : fillAt TB r k = true) : (List.range (k + 1)).all (fillAt TB r) = true := by
  rw [List.range_succ, List.all_append, h]; simp [h']
def fillB (n : Nat) (ar : List Arc) (p q : List Int) (a : Int) (r : List Int) : Bool := goodOn p.length q.length r && fillW (reachL n ar p q a) r

set_option maxRecDepth 100000 in
set_option maxHeartbeats 4000000 in
theorem isFilling_c (n : Nat) (s v u t : Value) (l : List St) (p q : List Int) (a : Int) (r : List Int) (B : Nat) (w : World) (hg : goodTown n l = true) (hp : ∀ x ∈ p, 0 ≤ x ∧ x ≤ (n : Int) - 1) (hq : ∀ x ∈ q, 0 ≤ x ∧ x ≤ (n : Int) - 1) (hp7 : p.length ≤ 7) (hq6 : q.length ≤ 6)
    (t0 : w.cell? ⟨B, 0, none⟩ = some (.int .i64 n)) (t1 : w.cell? ⟨B, 1, none⟩ = some s) (hr : Rd w s l.length (l.flatMap St.cells)) (hvp : RdI w v p) (hvq : RdI w u q) (hvr : RdI w t r) :
    Calls Try.prog 56 #[.pointer (some ⟨B, 0, none⟩), v, u, .int .i64 a, t] w fun e w' => e = .returned (.bool (fillB n (arcs l) p q a r)) ∧ Below w.heap.size w w' := by
  have hcall := reachTable_c n s v u l p q a B w hg hp hq hp7 hq6 t0 t1 hr hvp hvq
  have HC := Lib.hid hcall
  have HVR := Lib.hid hvr
  obtain ⟨Ap, cp, rfl, _, _, _⟩ := hvp
  obtain ⟨Aq, cq, rfl, _, _, _⟩ := hvq
  obtain ⟨A, c, rfl, hc, hm, hcr⟩ := hvr
  rw [maxLen_eq] at hm
  have HCR := Lib.hid hcr
  clear hcall hcr hg hp hq t0 t1 hr
  go_enter Try.func56, Try.ntmps56
  go_wp2_with fail
  refine (isAssignment_c p.length q.length _ r _ hp7 hq6 HVR.out).mono ?_; rintro e w2 ⟨rfl, rfl⟩
  by_cases hon : goodOn p.length q.length r = true
  · have hrq := (goodOn_true hon).1
    have HRQ := Lib.hid hrq
    have HON := Lib.hid hon
    rw [hon]
    clear hrq hon
    go_wp2_with fail
    refine HC.out.mono ?_; rintro e w3 ⟨v3, rfl, ⟨vs, ho3⟩, hb3⟩
    have hlen := reachL_len n (arcs l) p q a
    obtain ⟨TB, hTB⟩ : ∃ TB, reachL n (arcs l) p q a = TB := ⟨_, rfl⟩
    rw [hTB] at hlen ho3
    have hvl := ho3.len
    have HV := Lib.hid ho3.rd
    obtain ⟨A3, c3, hx3, hc3, hm3, hr3⟩ := ho3.rd.outer
    subst hx3
    rw [maxLen_eq] at hm3
    have HR3 := Lib.hid hr3
    have HB3 := Lib.hid hb3
    have HTB := Lib.hid hTB
    have HLEN := Lib.hid hlen
    clear ho3 hb3 hr3 hTB hlen HC
    go_wp2_with fail
    go_loopw [26] (fun v26 wr => ∃ (k : Nat), k ≤ TB.length ∧ v26 = .int .i64 k ∧ Hid ((List.range k).all (fillAt TB r) = true) ∧ wr = w3) (fun v26 _ => TB.length - (intOf v26).toNat)
    case atStart => exact ⟨0, Nat.zero_le _, rfl, Lib.hid rfl, rfl⟩
    case round =>
      obtain ⟨k, hk, rfl, HA, rfl⟩ := hrel
      by_cases hlt : k < TB.length
      · have hkr : k < r.length := by have := HRQ.out; have := HLEN.out; omega
        obtain ⟨b, off, rfl, hbl, hcell⟩ := HCR.out (by omega)
        obtain ⟨x, hx⟩ : ∃ x, r[k]? = some x := ⟨_, List.getElem?_eq_getElem hkr⟩
        have c0 := cell_at hcell HB3.out hbl (ints_get hx)
        obtain ⟨b3, off3, rfl, hbl3, hcell3⟩ := HR3.out (by omega)
        obtain ⟨z, hz⟩ : ∃ z, vs[k]? = some z := ⟨_, List.getElem?_eq_getElem (by omega)⟩
        obtain ⟨row, hrow⟩ : ∃ row, TB[k]? = some row := ⟨_, List.getElem?_eq_getElem hlt⟩
        have d0 := hcell3 _ _ hz
        have HI := Lib.hid (HV.out.inner k z row hz hrow)
        have HX := Lib.hid hx
        have HROW := Lib.hid hrow
        have k0 : (0 : Int) ≤ (k : Int) := by omega
        have k1 : (k : Int) < (r.length : Int) := by omega
        clear hcell hx hcell3 hz hrow
        by_cases hneg : x < 0
        · have hge : decide (0 ≤ x) = false := decide_eq_false (by omega)
          go_wp2
          exact ⟨⟨k + 1, by omega, by go_num, Lib.hid (fill_succ HA.out (fillAt_neg HX.out hneg)), (by first | rfl | trivial)⟩, by simp [intOf]; omega⟩
        · have hge : decide (0 ≤ x) = true := decide_eq_true (by omega)
          have hge0 : 0 ≤ x := by omega
          have hfa := fillAt_mem HX.out HROW.out hneg
          by_cases hmem : x ∈ row
          · have hd : decide (x ∈ row) = true := decide_eq_true hmem
            rw [hd] at hfa
            have HFA := Lib.hid hfa
            have HD := Lib.hid hd
            clear hfa hd hmem
            go_wp2_with (go_at_call 75; refine (contains_c _ x row _ HI.out).mono ?_; rw [HD.out]; rintro e w2 ⟨rfl, rfl⟩)
            exact ⟨⟨k + 1, by omega, by go_num, Lib.hid (fill_succ HA.out HFA.out), (by first | rfl | trivial)⟩, by simp [intOf]; omega⟩
          · have hd : decide (x ∈ row) = false := decide_eq_false hmem
            rw [hd] at hfa
            have HFA := Lib.hid hfa
            have HD := Lib.hid hd
            clear hfa hd hmem
            go_wp2_with (go_at_call 75; refine (contains_c _ x row _ HI.out).mono ?_; rw [HD.out]; rintro e w2 ⟨rfl, rfl⟩)
            go_ret
            refine ⟨?_, HB3.out⟩
            unfold fillB
            rw [HTB.out, fillW_false hkr HFA.out, Bool.and_false]; rfl
      · have hke : k = r.length := by have := HRQ.out; have := HLEN.out; omega
        have HKE := Lib.hid hke
        clear hke
        obtain rfl : k = TB.length := by omega
        go_wp2
        go_ret
        refine ⟨?_, HB3.out⟩
        unfold fillB fillW
        rw [HTB.out, HON.out, ← HKE.out, HA.out]; rfl
  · have hon : goodOn p.length q.length r = false := by simpa using hon
    have HON := Lib.hid hon
    rw [hon]
    go_wp2
    go_ret
    refine ⟨?_, Below.refl _ _⟩
    unfold fillB
    rw [HON.out]; rfl

def isFillingV (n : Int) (l : List St) (p q : List Int) (a : Int) (r : List Int) : Bool × Bool := if askM n l p q a = true then (fillB n.toNat (arcs l) p q a r, true) else (false, false)

set_option maxRecDepth 100000 in
set_option maxHeartbeats 4000000 in
theorem isFillingI_c (n : Int) (s : Value) (l : List St) (v : Value) (p : List Int) (u : Value) (q : List Int) (a : Int) (t : Value) (r : List Int) (w : World) (hr : Rd w s l.length (l.flatMap St.cells)) (hp : RdI w v p) (hq : RdI w u q) (hvr : RdI w t r) :
    Calls Try.prog 28 #[.agg #[.int .i64 n, s], v, u, .int .i64 a, t] w fun e w' => e = .returned (.tuple #[.bool (isFillingV n l p q a r).1, .bool (isFillingV n l p q a r).2]) ∧ Below w.heap.size w w' := by
  have HR := Lib.hid hr
  have HQ := Lib.hid hq
  have HP := Lib.hid hp
  have HVR := Lib.hid hvr
  clear hr hp hq hvr
  go_enter Try.func28, Try.ntmps28
  go_wp2_with fail
  generalize hW : World.alloc w _ = w0
  have t0 : w0.cell? ⟨w.heap.size, 0, none⟩ = some (.int .i64 n) := by subst hW; simp [go_sem]
  have t1 : w0.cell? ⟨w.heap.size, 1, none⟩ = some s := by subst hW; simp [go_sem]
  have hb0 : Below w.heap.size w w0 := by subst hW; exact bel_al (Below.refl _ _) _
  have z0 : w.heap.size < w0.heap.size := by subst hW; simp
  have HB := Lib.hid hb0
  clear hW hb0
  refine (moversFit_c n s l _ _ p q _ _ t0 t1 (rd_below HR.out HB.out) (rdi_below HP.out HB.out) (rdi_below HQ.out HB.out)).mono ?_; rintro e w1 ⟨rfl, hb1⟩
  have k0 := (hb1.cell (p := ⟨w.heap.size, 0, none⟩) z0).trans t0
  have k1 := (hb1.cell (p := ⟨w.heap.size, 1, none⟩) z0).trans t1
  have HB1 := Lib.hid (bel_then HB.out hb1)
  have hs1 := hb1.size
  clear t0 t1 hb1
  by_cases hok : goodMv n l p q = true
  · by_cases hlm : inB a 0 36000 = true
    · have hask : askM n l p q a = true := by unfold askM; rw [hok, hlm]; rfl
      have HASK := Lib.hid hask
      obtain ⟨g1, g2, g3, g4, g5⟩ := goodMv_true hok
      obtain ⟨m, rfl⟩ := nat_of (goodTown_true g1).1
      rw [hok]
      go_wp2_with fail
      refine (isLimit_c a _).mono ?_; rw [hlm]; rintro e w2 ⟨rfl, rfl⟩
      go_wp2_with fail
      refine (isFilling_c m s _ _ _ l p q a r _ _ g1 g5 g2 g4 g3 k0 k1 (rd_below HR.out HB1.out) (rdi_below HP.out HB1.out) (rdi_below HQ.out HB1.out) (rdi_below HVR.out HB1.out)).mono ?_; rintro e w3 ⟨rfl, hb3⟩
      go_wp2
      go_ret2
      unfold isFillingV; rw [if_pos HASK.out]
      exact ⟨rfl, bel_then HB1.out hb3⟩
    · have hlm : inB a 0 36000 = false := by simpa using hlm
      have hask : ¬ (askM n l p q a = true) := by unfold askM; rw [hlm]; simp
      have HASK := Lib.hid hask
      rw [hok]
      go_wp2_with fail
      refine (isLimit_c a _).mono ?_; rw [hlm]; rintro e w2 ⟨rfl, rfl⟩
      go_wp2
      go_ret2
      unfold isFillingV; rw [if_neg HASK.out]
      exact ⟨rfl, HB1.out⟩
  · have hok : goodMv n l p q = false := by simpa using hok
    have hask : ¬ (askM n l p q a = true) := by unfold askM; rw [hok]; simp
    have HASK := Lib.hid hask
    rw [hok]
    go_wp2
    go_ret2
    unfold isFillingV; rw [if_neg HASK.out]
    exact ⟨rfl, HB1.out⟩

set_option maxRecDepth 100000 in
set_option maxHeartbeats 4000000 in
theorem isFillingS_c (n : Int) (s : Value) (l : List St) (v : Value) (p : List Int) (u : Value) (q : List Int) (a : Int) (t : Value) (r : List Int) (w : World) (hr : Rd w s l.length (l.flatMap St.cells)) (hp : RdI w v p) (hq : RdI w u q) (hvr : RdI w t r) :
    Calls Try.prog 27 #[.agg #[.int .i64 n, s], v, u, .int .i64 a, t] w fun e w' => e = .returned (.tuple #[.bool (isFillingV n l p q a r).1, .bool (isFillingV n l p q a r).2]) ∧ Below w.heap.size w w' := by
  have HR := Lib.hid hr
  have HQ := Lib.hid hq
  have HP := Lib.hid hp
  have HVR := Lib.hid hvr
  obtain ⟨A, c, rfl, hc, hm, hcr⟩ := hvr
  rw [maxLen_eq] at hm
  have HCR := Lib.hid hcr
  clear hr hp hq hcr
  go_enter Try.func27, Try.ntmps27
  go_wp2_with fail
  generalize hW : World.alloc w _ = w0
  have t0 : w0.cell? ⟨w.heap.size, 0, none⟩ = some (.int .i64 n) := by subst hW; simp [go_sem]
  have t1 : w0.cell? ⟨w.heap.size, 1, none⟩ = some s := by subst hW; simp [go_sem]
  have hb0 : Below w.heap.size w w0 := by subst hW; exact bel_al (Below.refl _ _) _
  have HB := Lib.hid hb0
  clear hW hb0
  go_wp2_with fail
  refine (reachTableS_c n s l _ p _ q a _ (rd_below HR.out HB.out) (rdi_below HP.out HB.out) (rdi_below HQ.out HB.out)).mono ?_; rintro e w3 ⟨v3, rfl, ⟨vs, ho3⟩, hb3⟩
  have HB3 := Lib.hid (bel_then HB.out hb3)
  by_cases hask : askM n l p q a = true
  · have HASK := Lib.hid hask
    obtain ⟨hok, hlm⟩ := askM_true hask
    obtain ⟨g1, g2, g3, g4, g5⟩ := goodMv_true hok
    obtain ⟨m, rfl⟩ := nat_of (goodTown_true g1).1
    have hf : reachTableV (m : Int) l p q a = (reachL m (arcs l) p q a, true) := by unfold reachTableV; rw [if_pos hask]; rfl
    rw [hf] at ho3 ⊢
    dsimp only at ho3 ⊢
    have hlen := reachL_len m (arcs l) p q a
    obtain ⟨TB, hTB⟩ : ∃ TB, reachL m (arcs l) p q a = TB := ⟨_, rfl⟩
    rw [hTB] at hlen ho3
    have hvl := ho3.len
    have HV := Lib.hid ho3.rd
    obtain ⟨A3, c3, hx3, hc3, hm3, hr3⟩ := ho3.rd.outer
    subst hx3
    rw [maxLen_eq] at hm3
    have HR3 := Lib.hid hr3
    have HLEN := Lib.hid hlen
    have HFV : Hid (isFillingV (m : Int) l p q a r = (goodOn p.length q.length r && fillW TB r, true)) := Lib.hid (by unfold isFillingV fillB; rw [if_pos hask, Int.toNat_natCast, hTB])
    clear g1 g2 g5 hok hlm hask hf t0 t1 ho3 hb3 hr3 hTB hlen
    go_wp2_with fail
    refine (mvOnce_c _ _ _ p q r _ g4 (rdi_below HP.out HB3.out) (rdi_below HQ.out HB3.out) (rdi_below HVR.out HB3.out)).mono ?_; rintro e w2 ⟨rfl, rfl⟩
    by_cases hon : goodOn p.length q.length r = true
    · have hrq := (goodOn_true hon).1
      have HRQ := Lib.hid hrq
      have HON := Lib.hid hon
      rw [hon]
      clear hrq hon
      go_wp2_with fail
      go_loopw [33] (fun v33 wr => ∃ (k : Nat), k ≤ r.length ∧ v33 = .int .i64 k ∧ Hid ((List.range k).all (fillAt TB r) = true) ∧ wr = w3) (fun v33 _ => r.length - (intOf v33).toNat)
      case atStart => exact ⟨0, Nat.zero_le _, rfl, Lib.hid rfl, rfl⟩
      case round =>
        obtain ⟨k, hk, rfl, HA, rfl⟩ := hrel
        by_cases hkr : k < r.length
        · have hlt : k < TB.length := by have := HRQ.out; have := HLEN.out; omega
          obtain ⟨b, off, rfl, hbl, hcell⟩ := HCR.out (by omega)
          obtain ⟨x, hx⟩ : ∃ x, r[k]? = some x := ⟨_, List.getElem?_eq_getElem hkr⟩
          have c0 := cell_at hcell HB3.out hbl (ints_get hx)
          obtain ⟨b3, off3, rfl, hbl3, hcell3⟩ := HR3.out (by omega)
          obtain ⟨z, hz⟩ : ∃ z, vs[k]? = some z := ⟨_, List.getElem?_eq_getElem (by omega)⟩
          obtain ⟨row, hrow⟩ : ∃ row, TB[k]? = some row := ⟨_, List.getElem?_eq_getElem hlt⟩
          have d0 := hcell3 _ _ hz
          have HI := Lib.hid (HV.out.inner k z row hz hrow)
          have HX := Lib.hid hx
          have HROW := Lib.hid hrow
          have k0 : (0 : Int) ≤ (k : Int) := by omega
          have k1 : (k : Int) < (TB.length : Int) := by omega
          clear hcell hx hcell3 hz hrow
          by_cases hneg : x < 0
          · have hge : decide (0 ≤ x) = false := decide_eq_false (by omega)
            go_wp2
            exact ⟨⟨k + 1, by omega, by go_num, Lib.hid (fill_succ HA.out (fillAt_neg HX.out hneg)), (by first | rfl | trivial)⟩, by simp [intOf]; omega⟩
          · have hge : decide (0 ≤ x) = true := decide_eq_true (by omega)
            have hge0 : 0 ≤ x := by omega
            have hfa := fillAt_mem HX.out HROW.out hneg
            by_cases hmem : x ∈ row
            · have hd : decide (x ∈ row) = true := decide_eq_true hmem
              rw [hd] at hfa
              have HFA := Lib.hid hfa
              have HD := Lib.hid hd
              clear hfa hd hmem
              go_wp2_with (go_at_call 55; refine (l1Has_c _ x row _ HI.out).mono ?_; rw [HD.out]; rintro e w2 ⟨rfl, rfl⟩)
              exact ⟨⟨k + 1, by omega, by go_num, Lib.hid (fill_succ HA.out HFA.out), (by first | rfl | trivial)⟩, by simp [intOf]; omega⟩
            · have hd : decide (x ∈ row) = false := decide_eq_false hmem
              rw [hd] at hfa
              have HFA := Lib.hid hfa
              have HD := Lib.hid hd
              clear hfa hd hmem
              go_wp2_with (go_at_call 55; refine (l1Has_c _ x row _ HI.out).mono ?_; rw [HD.out]; rintro e w2 ⟨rfl, rfl⟩)
              go_ret2
              rw [HFV.out, fillW_false hkr HFA.out, Bool.and_false]
              exact ⟨rfl, HB3.out⟩
        · obtain rfl : k = r.length := by omega
          go_wp2
          go_ret2
          rw [HFV.out, HON.out, show fillW TB r = true from HA.out]
          exact ⟨rfl, HB3.out⟩
    · have hon : goodOn p.length q.length r = false := by simpa using hon
      have HON := Lib.hid hon
      rw [hon]
      go_wp2
      go_ret2
      rw [HFV.out, HON.out]
      exact ⟨rfl, HB3.out⟩
  · have HASK := Lib.hid hask
    have hf : reachTableV n l p q a = ([], false) := by unfold reachTableV; rw [if_neg hask]
    rw [hf]
    clear ho3 hb3 hask hf t0 t1
    go_wp2
    go_ret2
    unfold isFillingV; rw [if_neg HASK.out]
    exact ⟨rfl, HB3.out⟩
end Go.Proofs.Ytgdigcnpjkkmfaa
