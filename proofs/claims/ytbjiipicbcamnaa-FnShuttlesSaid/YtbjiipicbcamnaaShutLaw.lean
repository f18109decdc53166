/-
  FnShuttles: the plain laws: stores and the minute behind which they are dry, deliveries in their order, how many tankers bring a flow.
-/
import Derived.Test.YtbjiipicbcamnaaTankJ
import Derived.Test.YtbjiipicbcamnaaTankH
import Derived.Test.YtbjiipicbcamnaaDelP
namespace Go.Proofs.Ytbjiipicbcamnaa
open Go.RowKit

theorem leastAt_ge (l : List Tk) (fl : Int) : ∀ (k m : Nat), 1 ≤ m → m ≤ k → (m : Int) * fl - brought l (60 * (m : Int)) ≤ leastAt l fl k := by
  intro k
  induction k with
  | zero => intro m h1 h2; omega
  | succ k ih =>
    intro m h1 h2
    unfold leastAt maxI
    rcases Nat.lt_or_eq_of_le h2 with h | h
    · have := ih m h1 (by omega)
      split <;> omega
    · subst h
      rw [show (((k + 1 : Nat)) : Int) = (k : Int) + 1 by push_cast; rfl]
      split <;> omega
theorem leastAt_at (l : List Tk) (fl : Int) : ∀ (k : Nat), 0 < leastAt l fl k → ∃ m : Nat, 1 ≤ m ∧ m ≤ k ∧ leastAt l fl k = (m : Int) * fl - brought l (60 * (m : Int)) := by
  intro k
  induction k with
  | zero => intro h; simp [leastAt] at h
  | succ k ih =>
    intro h
    by_cases hm : leastAt l fl (k + 1) = ((k : Int) + 1) * fl - brought l (60 * ((k : Int) + 1))
    · exact ⟨k + 1, by omega, Nat.le_refl _, by rw [hm, show (((k + 1 : Nat)) : Int) = (k : Int) + 1 by push_cast; rfl]⟩
    · have e : leastAt l fl (k + 1) = leastAt l fl k := by
        have e0 : leastAt l fl (k + 1) = maxI (leastAt l fl k) (((k : Int) + 1) * fl - brought l (60 * ((k : Int) + 1))) := rfl
        rw [e0] at hm ⊢
        unfold maxI at hm ⊢
        split
        · rename_i hc
          simp [hc] at hm ⊢
        · rename_i hc
          simp [hc] at hm ⊢
      rw [e] at h ⊢
      obtain ⟨m, h1, h2, h3⟩ := ih h
      exact ⟨m, h1, by omega, h3⟩
theorem dryFrom_yes {l : List Tk} {st fl : Int} : ∀ (k : Nat) (m : Int), (dryFrom l st fl k m).2 = true → m ≤ (dryFrom l st fl k m).1 ∧ (dryFrom l st fl k m).1 < m + k ∧ st + brought l (60 * (dryFrom l st fl k m).1) < (dryFrom l st fl k m).1 * fl := by
  intro k
  induction k with
  | zero => intro m h; simp [dryFrom] at h
  | succ k ih =>
    intro m h
    unfold dryFrom at h ⊢
    split
    · rename_i hc; exact ⟨Int.le_refl _, by omega, hc⟩
    · rename_i hc
      rw [if_neg hc] at h
      obtain ⟨h1, h2, h3⟩ := ih (m + 1) h
      exact ⟨by omega, by push_cast; omega, h3⟩
theorem dryFrom_le {l : List Tk} {st fl x : Int} (hx : st + brought l (60 * x) < x * fl) : ∀ (k : Nat) (m : Int), m ≤ x → x < m + k → (dryFrom l st fl k m).2 = true ∧ (dryFrom l st fl k m).1 ≤ x := by
  intro k
  induction k with
  | zero => intro m h1 h2; omega
  | succ k ih =>
    intro m h1 h2
    unfold dryFrom
    split
    · exact ⟨rfl, h1⟩
    · rename_i hc
      by_cases e : m = x
      · subst e; exact absurd hx hc
      · exact ih (m + 1) (by omega) (by push_cast at h2; omega)
theorem least_yes {l : List Tk} {fl s : Int} (h : (leastStore l fl s).2 = true) : okL l = true ∧ inB fl 1 6000 = true ∧ (0 ≤ s ∧ s ≤ 36000) ∧ (leastStore l fl s).1 = leastAt l fl (s / 60).toNat ∧ 0 ≤ (leastStore l fl s).1 ∧ (leastStore l fl s).1 ≤ 100000 := by
  unfold leastStore at h ⊢
  by_cases h0 : (okL l && inB fl 1 6000 && inB s 0 36000) = true
  · rw [if_pos h0] at h ⊢
    simp only [Bool.and_eq_true] at h0
    obtain ⟨⟨h1, h2⟩, h3⟩ := h0
    obtain ⟨f0, f1⟩ := inB_true h2
    obtain ⟨s0, s1⟩ := inB_true h3
    by_cases h4 : leastAt l fl (s / 60).toNat ≤ 100000
    · rw [if_pos h4]
      exact ⟨h1, h2, ⟨s0, s1⟩, rfl, (leastAt_bd h1 (by omega) f1 _ (by omega)).1, h4⟩
    · rw [if_neg h4] at h; cases h
  · rw [if_neg h0] at h; cases h
theorem dryAt_yes {l : List Tk} {st fl : Int} (h : (dryAt l st fl).2 = true) : 1 ≤ (dryAt l st fl).1 ∧ (dryAt l st fl).1 ≤ 600 ∧ st + brought l (60 * (dryAt l st fl).1) < (dryAt l st fl).1 * fl := by
  unfold dryAt at h ⊢
  by_cases h0 : (okL l && inB st 0 100000 && inB fl 1 6000) = true
  · rw [if_pos h0] at h ⊢
    obtain ⟨h1, h2, h3⟩ := dryFrom_yes 600 1 h
    exact ⟨h1, by omega, h3⟩
  · rw [if_neg h0] at h; cases h
/-- A store that is large enough does not run dry in time. -/
theorem least_enough {l : List Tk} {fl s : Int} (h : (leastStore l fl s).2 = true) (hd : (dryAt l (leastStore l fl s).1 fl).2 = true) : s < 60 * (dryAt l (leastStore l fl s).1 fl).1 := by
  obtain ⟨_, _, ⟨s0, s1⟩, h4, _, _⟩ := least_yes h
  obtain ⟨d1, d2, d3⟩ := dryAt_yes hd
  obtain ⟨m, hm⟩ : ∃ m : Nat, (dryAt l (leastStore l fl s).1 fl).1 = (m : Int) := ⟨(dryAt l (leastStore l fl s).1 fl).1.toNat, by omega⟩
  rw [hm] at d1 d2 d3 ⊢
  by_cases hc : s < 60 * (m : Int)
  · exact hc
  · exfalso
    have := leastAt_ge l fl (s / 60).toNat m (by omega) (by omega)
    rw [← h4] at this
    omega
/-- A store that is smaller by one does. -/
theorem least_least {l : List Tk} {fl s : Int} (h : (leastStore l fl s).2 = true) (h0 : 0 < (leastStore l fl s).1) : (dryAt l ((leastStore l fl s).1 - 1) fl).2 = true ∧ 60 * (dryAt l ((leastStore l fl s).1 - 1) fl).1 ≤ s := by
  obtain ⟨h1, h2, ⟨s0, s1⟩, h4, h5, h6⟩ := least_yes h
  rw [h4] at h0 h5 h6 ⊢
  obtain ⟨m, m1, m2, m3⟩ := leastAt_at l fl _ h0
  have hin : inB (leastAt l fl (s / 60).toNat - 1) 0 100000 = true := inB_of (by omega) (by omega)
  have hx : leastAt l fl (s / 60).toNat - 1 + brought l (60 * (m : Int)) < (m : Int) * fl := by omega
  obtain ⟨a, b⟩ := dryFrom_le hx 600 1 (by omega) (by omega)
  have e : dryAt l (leastAt l fl (s / 60).toNat - 1) fl = dryFrom l (leastAt l fl (s / 60).toNat - 1) fl 600 1 := by
    unfold dryAt
    rw [if_pos (by rw [h1, hin, h2]; rfl)]
  rw [e]
  exact ⟨a, by omega⟩
/-- The deliveries: their seconds do not fall, none is too late, and each has the litres of its tanker. -/
theorem del_mem {l : List Tk} {s : Int} (h : (deliveriesV l s).2 = true) {x : List Int} (hx : x ∈ (deliveriesV l s).1) : ∃ (i : Nat) (t : Tk) (a : Int), x = [a, (i : Int), t.l] ∧ l[i]? = some t ∧ 0 ≤ a ∧ a ≤ s := by
  unfold deliveriesV at h hx
  by_cases h0 : okL l = true ∧ inB s 0 36000 = true ∧ (rowsUp l s l.length).length ≤ 200
  · rw [if_pos h0] at hx
    obtain ⟨_, hall⟩ := okL_true h0.1
    have hm := ((insAll_spec (rows_pre (s := s) hall l.length)).2.1 x).1 hx
    obtain ⟨j, n, t, _, h2, h3, rfl⟩ := mem_rowsUp hm
    have hok := hall t (List.mem_of_getElem? h2)
    have hc := Tk.cyc_bd hok
    have hb := Tk.bd hok
    have h4 : (0 : Int) ≤ (n : Int) * t.cyc := Int.mul_nonneg (by omega) (by omega)
    exact ⟨j, t, _, rfl, h2, by omega, (times_iff hok n).2 h3⟩
  · rw [if_neg h0] at h; cases h
theorem del_rise {l : List Tk} {s : Int} (h : (deliveriesV l s).2 = true) {k : Nat} {x y : List Int} (hx : (deliveriesV l s).1[k]? = some x) (hy : (deliveriesV l s).1[k + 1]? = some y) : aOf x ≤ aOf y := by
  unfold deliveriesV at h hx hy
  by_cases h0 : okL l = true ∧ inB s 0 36000 = true ∧ (rowsUp l s l.length).length ≤ 200
  · rw [if_pos h0] at hx hy
    obtain ⟨_, hall⟩ := okL_true h0.1
    have hp := (insAll_spec (rows_pre (s := s) hall l.length)).1
    dsimp only at hx hy
    obtain ⟨h1, rfl⟩ := List.getElem?_eq_some_iff.1 hx
    obtain ⟨h2, rfl⟩ := List.getElem?_eq_some_iff.1 hy
    rcases List.pairwise_iff_getElem.1 hp k (k + 1) h1 h2 (by omega) with e | ⟨e, _⟩ <;> omega
  · rw [if_neg h0] at h; cases h
theorem okL_rep {t : Tk} (h : t.ok = true) {n : Nat} (hn : n ≤ 12) : okL (List.replicate n t) = true := by
  unfold okL
  rw [Bool.and_eq_true]
  exact ⟨List.all_eq_true.2 (fun x hx => by rw [(List.mem_replicate.1 hx).2]; exact h), decide_eq_true (by simp; omega)⟩
theorem sum_rep (t : Tk) : ∀ n : Nat, ((List.replicate n t).map Tk.rate).sum = (n : Int) * t.rate := by
  intro n
  induction n with
  | zero => simp
  | succ n ih => rw [List.replicate_succ, List.map_cons, List.sum_cons, ih]; push_cast; rw [Int.add_mul]; omega
/-- As many tankers as are counted bring the flow, and one fewer do not. -/
theorem tankersFor_law {t : Tk} {fl : Int} (h : (tankersFor t fl).2 = true) : t.ok = true ∧ ∃ n : Nat, (tankersFor t fl).1 = (n : Int) ∧ 1 ≤ n ∧ n ≤ 12 ∧
    flowOf (List.replicate n t) = ((n : Int) * t.rate, true) ∧ flowOf (List.replicate (n - 1) t) = (((n - 1 : Nat) : Int) * t.rate, true) ∧ fl ≤ (n : Int) * t.rate ∧ ((n - 1 : Nat) : Int) * t.rate < fl := by
  unfold tankersFor at h ⊢
  by_cases h0 : (t.ok && inB fl 1 6000 && !(t.rate == 0) && decide ((fl + t.rate - 1) / t.rate ≤ 12)) = true
  · rw [if_pos h0] at h ⊢
    simp only [Bool.and_eq_true, decide_eq_true_eq] at h0
    obtain ⟨⟨⟨h1, h2⟩, h3⟩, h4⟩ := h0
    obtain ⟨f0, f1⟩ := inB_true h2
    have hr := Tk.rate_bd h1
    have hr0 : 1 ≤ t.rate := by
      have : t.rate ≠ 0 := by simpa using h3
      omega
    obtain ⟨n, hn⟩ : ∃ n : Nat, (fl + t.rate - 1) / t.rate = (n : Int) := ⟨_, (Int.toNat_of_nonneg (Int.ediv_nonneg (by omega) (by omega))).symm⟩
    have e1 := Int.mul_ediv_add_emod (fl + t.rate - 1) t.rate
    have e2 := Int.emod_nonneg (fl + t.rate - 1) (show t.rate ≠ 0 by omega)
    have e3 := Int.emod_lt_of_pos (fl + t.rate - 1) (show 0 < t.rate by omega)
    rw [hn] at e1 h4
    have e4 : (n : Int) * t.rate = t.rate * (n : Int) := Int.mul_comm _ _
    have hn1 : 1 ≤ n := by
      rcases Nat.eq_zero_or_pos n with e | e
      · subst e; simp at e1; omega
      · exact e
    have e5 : ((n - 1 : Nat) : Int) * t.rate = (n : Int) * t.rate - t.rate := by
      rw [show ((n - 1 : Nat) : Int) = (n : Int) - 1 by omega, Int.sub_mul, Int.one_mul]
    have hf : ∀ k : Nat, k ≤ 12 → flowOf (List.replicate k t) = ((k : Int) * t.rate, true) := fun k hk => by
      unfold flowOf
      rw [if_pos (okL_rep h1 hk), sum_rep]
    exact ⟨h1, n, hn, hn1, by omega, hf n (by omega), hf (n - 1) (by omega), by omega, by omega⟩
  · rw [if_neg h0] at h; cases h
end Go.Proofs.Ytbjiipicbcamnaa
