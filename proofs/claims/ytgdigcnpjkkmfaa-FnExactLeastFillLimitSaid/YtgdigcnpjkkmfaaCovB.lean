/-
  Limits, and the nodes that are covered (or not), on both sides.
-/
import Derived.Test.YtgdigcnpjkkmfaaCovA
import Derived.Test.YtgdigcnpjkkmfaaSlc
import Derived.Test.YtgdigcnpjkkmfaaApp
import Derived.Test.YtgdigcnpjkkmfaaOwn
namespace Go.Proofs.Ytgdigcnpjkkmfaa
open Go.RowKit

theorem isLimit_c (a : Int) (w : World) : Calls Try.prog 49 #[.int .i64 a] w fun e w' => e = .returned (.bool (inB a 0 36000)) ∧ w = w' := by
  go_enter Try.func49, Try.ntmps49
  go_wp2_with (go_at_call 74; refine (inside_c _ _ _ _).mono ?_; rintro e w' ⟨rfl, rfl⟩)
  go_ret
  exact ⟨rfl, rfl⟩
theorem dsLimit_c (a : Int) (w : World) : Calls Try.prog 52 #[.int .i64 a] w fun e w' => e = .returned (.bool (inB a 0 36000)) ∧ w = w' := by
  go_enter Try.func52, Try.ntmps52
  go_wp2_with (go_at_call 80; refine (l1In_c _ _ _ _).mono ?_; rintro e w' ⟨rfl, rfl⟩)
  go_ret
  exact ⟨rfl, rfl⟩
def askC (n : Int) (l : List St) (q : List Int) (a : Int) : Bool := goodSta n l q && inB a 0 36000
set_option maxHeartbeats 1000000 in
theorem cvAsked_c (n : Int) (s : Value) (l : List St) (v : Value) (q : List Int) (a : Int) (w : World) (hr : Rd w s l.length (l.flatMap St.cells)) (hq : RdI w v q) :
    Calls Try.prog 84 #[.agg #[.int .i64 n, s], v, .int .i64 a] w fun e w' => e = .returned (.bool (askC n l q a)) ∧ Below w.heap.size w w' := by
  have HR := Lib.hid hr
  have HQ := Lib.hid hq
  clear hr hq
  have hbx : ∀ o, Below w.heap.size w (w.alloc o) := fun o => bel_al (Below.refl _ _) o
  by_cases hok : goodSta n l q = true
  · have HF : Hid (askC n l q a = inB a 0 36000) := Lib.hid (by unfold askC; rw [hok]; rfl)
    go_enter Try.func84, Try.ntmps84
    go_wp2_with (first | (go_at_call 65; refine (cvStations_c n s _ l q _ (rd_below HR.out (hbx _)) (rdi_below HQ.out (hbx _))).mono ?_; rw [hok]; rintro e w' ⟨rfl, hb1⟩) | (go_at_call 52; refine (dsLimit_c _ _).mono ?_; rintro e w' ⟨rfl, rfl⟩))
    go_ret
    exact ⟨ret_b HF.out.symm, bel_then (hbx _) hb1⟩
  · have hok : goodSta n l q = false := by simpa using hok
    have HF : Hid (askC n l q a = false) := Lib.hid (by unfold askC; rw [hok]; rfl)
    go_enter Try.func84, Try.ntmps84
    go_wp2_with (go_at_call 65; refine (cvStations_c n s _ l q _ (rd_below HR.out (hbx _)) (rdi_below HQ.out (hbx _))).mono ?_; rw [hok]; rintro e w' ⟨rfl, hb1⟩)
    go_ret
    exact ⟨ret_b HF.out.symm, bel_then (hbx _) hb1⟩

/-- The places below k that a predicate picks. -/
def selI (p : Nat → Bool) (k : Nat) : List Int := ((List.range k).filter p).map fun (i : Nat) => (i : Int)
theorem selI_yes {p : Nat → Bool} {k : Nat} (h : p k = true) : selI p (k + 1) = selI p k ++ [(k : Int)] := by
  unfold selI; rw [List.range_succ, List.filter_append, List.map_append]; simp [h]
theorem selI_no {p : Nat → Bool} {k : Nat} (h : p k = false) : selI p (k + 1) = selI p k := by
  unfold selI; rw [List.range_succ, List.filter_append, List.map_append]; simp [h]
theorem selI_len (p : Nat → Bool) (k : Nat) : (selI p k).length ≤ k := by
  unfold selI; rw [List.length_map]; have := List.length_filter_le p (List.range k); simp at this; omega
theorem selI_mem {p : Nat → Bool} {k : Nat} {x : Int} : x ∈ selI p k ↔ ∃ i : Nat, x = (i : Int) ∧ i < k ∧ p i = true := by
  unfold selI
  simp only [List.mem_map, List.mem_filter, List.mem_range]
  exact ⟨fun ⟨i, h1, h2⟩ => ⟨i, h2.symm, h1.1, h1.2⟩, fun ⟨i, h1, h2, h3⟩ => ⟨i, ⟨h2, h3⟩, h1.symm⟩⟩
def covP (d : List Int) (a : Int) (b : Bool) (i : Nat) : Bool := inB (d.getD i 0) 0 a == b
/-- The nodes whose time lies within the limit (or does not), up to one. -/
def covIdx (d : List Int) (a : Int) (b : Bool) (k : Nat) : List Int := selI (covP d a b) k
theorem covIdx_yes {d : List Int} {a : Int} {b : Bool} {k : Nat} (h : inB (d.getD k 0) 0 a = b) : covIdx d a b (k + 1) = covIdx d a b k ++ [(k : Int)] := selI_yes (by unfold covP; rw [h]; simp)
theorem covIdx_no {d : List Int} {a : Int} {b : Bool} {k : Nat} (h : ¬ (inB (d.getD k 0) 0 a = b)) : covIdx d a b (k + 1) = covIdx d a b k := selI_no (by unfold covP; exact beq_eq_false_iff_ne.2 h)
theorem covIdx_len (d : List Int) (a : Int) (b : Bool) (k : Nat) : (covIdx d a b k).length ≤ k := selI_len _ _

set_option maxRecDepth 100000 in
set_option maxHeartbeats 4000000 in
theorem coveredNodes_c (n : Nat) (s v : Value) (l : List St) (q : List Int) (a : Int) (bb : Bool) (B : Nat) (w : World) (hg : goodTown n l = true) (hq : ∀ x ∈ q, 0 ≤ x ∧ x ≤ (n : Int) - 1) (t0 : w.cell? ⟨B, 0, none⟩ = some (.int .i64 n)) (t1 : w.cell? ⟨B, 1, none⟩ = some s) (hr : Rd w s l.length (l.flatMap St.cells)) (hv : RdI w v q) :
    Calls Try.prog 62 #[.pointer (some ⟨B, 0, none⟩), v, .int .i64 a, .bool bb] w (OwnI (covIdx (coverL n (arcs l) q) a bb n) w) := by
  have hc := coverTimes_c n s v l q B w hg hq t0 t1 hr hv
  have HC := Lib.hid hc
  obtain ⟨hn1, hn2, _, _⟩ := goodTown_true hg
  obtain ⟨i0, hi, hz0, hz1, hz2⟩ := info_parts Try.infoInt
  clear hc t0 t1 hr hv hg hq
  go_enter Try.func62, Try.ntmps62
  go_wp2_with fail
  refine HC.out.mono ?_
  rintro e w5 ⟨v5, rfl, ho5, hb5⟩
  rw [coverL_len] at ho5
  obtain ⟨d, hd⟩ : ∃ d, coverL n (arcs l) q = d := ⟨_, rfl⟩
  rw [hd] at ho5
  have HD := Lib.hid hd
  obtain ⟨h, cap5, rfl, hbh, hhl, hcap5, hcm5⟩ := own_shape ho5 (by omega)
  have HO5 := Lib.hid ho5
  have HB5 := Lib.hid hb5
  clear ho5 hb5 hd HC
  go_wp2_with fail
  go_loopw [9, 16] (fun v9 v16 wr => ∃ (k : Nat), k ≤ n ∧ v16 = .int .i64 k ∧ Hid (wr.ownsRow w5.heap.size 3 1 v9 (covIdx d a bb k).length (ints (covIdx d a bb k))) ∧ Hid (Below w5.heap.size w5 wr)) (fun _ v16 _ => n - (intOf v16).toNat)
  case atStart => exact ⟨0, Nat.zero_le _, rfl, Lib.hid (show w5.ownsRow w5.heap.size 3 1 (.slice none 0 0) 0 [] from World.ownsRow_nil _ _ _ _), Lib.hid (Below.refl _ _)⟩
  case round =>
    obtain ⟨k, hk, rfl, HOW, HBL⟩ := hrel
    obtain ⟨wA, rfl⟩ : ∃ wA : World, wA = wr := ⟨_, rfl⟩
    by_cases hlt : k < n
    · have ce := (HBL.out.cell (p := ⟨h, k, none⟩) hhl).trans (own_cell HO5.out hlt)
      have hcl := covIdx_len d a bb k
      obtain ⟨x, hx⟩ : ∃ x, d.getD k 0 = x := ⟨_, rfl⟩
      obtain ⟨L, hL⟩ : ∃ L, covIdx d a bb k = L := ⟨_, rfl⟩
      rw [hx] at ce
      rw [hL] at HOW hcl
      have HX := Lib.hid hx
      have HL := Lib.hid hL
      clear hx hL
      by_cases hyes : inB x 0 a = bb
      · have e0 : (inB x 0 a == bb) = true := by simp [hyes]
        have HY : Hid (covIdx d a bb (k + 1) = L ++ [(k : Int)]) := Lib.hid (by rw [covIdx_yes (by rw [HX.out]; exact hyes), HL.out])
        clear hyes
        go_wp2_with (first | (go_at_call 74; refine (inside_c _ _ _ _).mono ?_; rintro e w' ⟨rfl, rfl⟩) | (at_builtin; refine wpList_app_rd _ rfl _ _ 25 rfl w5.heap.size 3 i0 (.int .i64 0) 1 8 Try.underlying25 hi hz0 hz1 hz2 rfl (by decide) _ _ _ rfl (HOW.out.alloc _) _ 1 [.int .i64 k] rfl (rd_new _ rfl (Nat.le_refl _) (by rw [maxLen_eq]; omega)) rfl (ints_one [(k : Int)]) (by rw [maxLen_eq]; omega) (by omega) (by have := HBL.out.size; simp; omega) ?_; intro v' w7 hown' hgrow _))
        refine ⟨⟨k + 1, by omega, by go_num, Lib.hid ?_, Lib.hid (bel_grown (bel_al HBL.out _) hgrow (fun q e => (HOW.out.lt q e).1))⟩, by simp [intOf]; omega⟩
        rw [HY.out, ints_append, List.length_append]; exact hown'
      · have e0 : (inB x 0 a == bb) = false := by simp [hyes]
        have HN : Hid (covIdx d a bb (k + 1) = L) := Lib.hid (by rw [covIdx_no (by rw [HX.out]; exact hyes), HL.out])
        clear hyes
        go_wp2_with (go_at_call 74; refine (inside_c _ _ _ _).mono ?_; rintro e w' ⟨rfl, rfl⟩)
        exact ⟨⟨k + 1, by omega, by go_num, by rw [HN.out]; exact HOW, HBL⟩, by simp [intOf]; omega⟩
    · obtain rfl : k = n := by omega
      go_wp2
      go_ret
      refine ⟨_, rfl, ?_, bel_then HB5.out HBL.out⟩
      rw [HD.out]
      exact own_base HOW.out HB5.out.size
end Go.Proofs.Ytgdigcnpjkkmfaa
