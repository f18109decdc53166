/-
  FnFoam: the plain laws: what makes up all, how long both last, in which order tankers come back.
-/
import Derived.Test.YtdiffcacamnlkaaNumF
import Derived.Test.YtdiffcacamnlkaaFillI
namespace Go.Proofs.Ytdiffcacamnlkaa
open Go.RowKit

theorem mulBd {a b A B : Int} (ha : 0 ≤ a) (hA : a ≤ A) (hb : 0 ≤ b) (hB : b ≤ B) : 0 ≤ a * b ∧ a * b ≤ A * B :=
  ⟨Int.mul_nonneg ha hb, Int.mul_le_mul hA hB hb (Int.le_trans ha hA)⟩
/-- What makes up all. -/
theorem foam_law {a r p m : Int} (h : (foamFor a r p m).2.2 = true) : ∃ W F : Int, foamFor a r p m = (W, F, true) ∧ W + F = a * r * m ∧ p * a * r * m ≤ 100 * F ∧ 100 * (F - 1) < p * a * r * m ∧ 0 ≤ W ∧ W ≤ 6000000 ∧ 0 ≤ F ∧ F ≤ 6000000 ∧
    (0 ≤ a * r ∧ a * r ≤ 100000) ∧ (0 ≤ a * r * m ∧ a * r * m ≤ 6000000) ∧ (0 ≤ p * a ∧ p * a ≤ 30000) ∧ (0 ≤ p * a * r ∧ p * a * r ≤ 600000) ∧ (0 ≤ p * a * r * m ∧ p * a * r * m ≤ 36000000) := by
  unfold foamFor at h ⊢
  split at h
  · rename_i hb
    rw [if_pos hb]
    simp only [Bool.and_eq_true] at hb
    obtain ⟨⟨⟨h1, h2⟩, h3⟩, h4⟩ := hb
    obtain ⟨a0, a1⟩ := inB_true h1
    obtain ⟨r0, r1⟩ := inB_true h2
    obtain ⟨p0, p1⟩ := inB_true h3
    obtain ⟨m0, m1⟩ := inB_true h4
    have b1 := mulBd (show 0 ≤ a by omega) a1 (show 0 ≤ r by omega) r1
    have b2 := mulBd b1.1 b1.2 (show 0 ≤ m by omega) m1
    have b3 := mulBd (show 0 ≤ p by omega) p1 (show 0 ≤ a by omega) a1
    have b4 := mulBd b3.1 b3.2 (show 0 ≤ r by omega) r1
    have b5 := mulBd b4.1 b4.2 (show 0 ≤ m by omega) m1
    have e : p * a * r * m = a * r * m * p := by rw [Int.mul_comm (a * r * m) p]; simp only [Int.mul_assoc]
    have b6 := mulBd b2.1 b2.2 (show 0 ≤ p by omega) p1
    rw [e] at b5 ⊢
    have b7 : a * r * m * p ≤ a * r * m * 100 := Int.mul_le_mul_of_nonneg_left (by omega) b2.1
    obtain ⟨X, hX⟩ : ∃ X, a * r * m = X := ⟨_, rfl⟩
    obtain ⟨Y, hY⟩ : ∃ Y, X * p = Y := ⟨_, rfl⟩
    rw [hX] at b2 b5 b6 b7 ⊢
    rw [hY] at b5 b6 b7 ⊢
    exact ⟨X - (Y + 99) / 100, (Y + 99) / 100, rfl, by omega, by omega, by omega, by omega, by omega, by omega, by omega, by omega, by omega, by omega, by omega, by omega⟩
  · cases h
theorem foam_no {a r p m : Int} (h : (foamFor a r p m).2.2 = false) : foamFor a r p m = (0, 0, false) := by
  unfold foamFor at h ⊢
  split at h
  · cases h
  · rename_i hb; rw [if_neg hb]
/-- How long both last. -/
theorem lasts_law {wa fo fl p : Int} (h : (foamLasts wa fo fl p).2 = true) : ∃ n P : Int, foamLasts wa fo fl p = (n, true) ∧ (fl * p + 99) / 100 = P ∧ 0 ≤ n ∧ n ≤ 100000 ∧ 1 ≤ P ∧ P ≤ fl ∧ fl ≤ 6000 ∧ 0 ≤ fl * p ∧ fl * p ≤ 36000 ∧ n * P ≤ fo ∧ n * (fl - P) ≤ wa ∧ 0 ≤ n * P ∧ 0 ≤ n * (fl - P) ∧
    (fo < (n + 1) * P ∨ wa < (n + 1) * (fl - P)) ∧ 0 ≤ (n + 1) * P ∧ (n + 1) * P ≤ 700000000 ∧ 0 ≤ (n + 1) * (fl - P) ∧ (n + 1) * (fl - P) ≤ 700000000 ∧ 0 ≤ wa ∧ wa ≤ 100000 ∧ 0 ≤ fo ∧ fo ≤ 100000 := by
  unfold foamLasts at h ⊢
  split at h
  · rename_i hb
    rw [if_pos hb]
    simp only [Bool.and_eq_true] at hb
    obtain ⟨⟨⟨h1, h2⟩, h3⟩, h4⟩ := hb
    obtain ⟨a0, a1⟩ := inB_true h1
    obtain ⟨r0, r1⟩ := inB_true h2
    obtain ⟨f0, f1⟩ := inB_true h3
    obtain ⟨p0, p1⟩ := inB_true h4
    have b1 := mulBd (show 0 ≤ fl by omega) f1 (show 0 ≤ p by omega) p1
    have b2 : fl * p ≤ fl * 6 := Int.mul_le_mul_of_nonneg_left p1 (by omega)
    have b3 : fl * 1 ≤ fl * p := Int.mul_le_mul_of_nonneg_left p0 (by omega)
    obtain ⟨G, hG⟩ : ∃ G, fl * p = G := ⟨_, rfl⟩
    rw [hG] at b1 b2 b3 ⊢
    obtain ⟨P, hP⟩ : ∃ P, (G + 99) / 100 = P := ⟨_, rfl⟩
    have P1 : 1 ≤ P := by omega
    have P2 : P ≤ fl := by omega
    rw [hP]
    have dv : ∀ x d : Int, 0 ≤ x → x ≤ 100000 → 1 ≤ d → 0 ≤ x / d ∧ x / d ≤ 100000 ∧ x / d * d ≤ x ∧ x < (x / d + 1) * d := fun x d h0 h1 hd => by
      have e1 := Int.mul_ediv_add_emod x d
      have e2 := Int.emod_nonneg x (show d ≠ 0 by omega)
      have e3 := Int.emod_lt_of_pos x (show 0 < d by omega)
      have e4 := Int.ediv_nonneg h0 (show 0 ≤ d by omega)
      have e5 : x / d ≤ x := Int.ediv_le_self d h0
      have e6 : x / d * d = d * (x / d) := Int.mul_comm _ _
      have e7 : (x / d + 1) * d = x / d * d + d := by rw [Int.add_mul, Int.one_mul]
      exact ⟨e4, by omega, by omega, by omega⟩
    obtain ⟨n, hn, n0, n1, c1, c2, c3⟩ : ∃ n, (if P < fl then minI (fo / P) (wa / (fl - P)) else fo / P) = n ∧ 0 ≤ n ∧ n ≤ 100000 ∧ n * P ≤ fo ∧ n * (fl - P) ≤ wa ∧ (fo < (n + 1) * P ∨ wa < (n + 1) * (fl - P)) := by
      obtain ⟨d1, d2, d3, d4⟩ := dv fo P r0 r1 P1
      by_cases hlt : P < fl
      · obtain ⟨g1, g2, g3, g4⟩ := dv wa (fl - P) a0 a1 (by omega)
        rw [if_pos hlt]
        unfold minI
        split
        · rename_i hm
          refine ⟨_, rfl, by omega, by omega, ?_, ?_, ?_⟩
          · first | exact d3 | exact Int.le_trans (Int.mul_le_mul_of_nonneg_right (show wa / (fl - P) ≤ fo / P by omega) (by omega)) d3
          · first | exact g3 | exact Int.le_trans (Int.mul_le_mul_of_nonneg_right (show fo / P ≤ wa / (fl - P) by omega) (by omega)) g3
          · first | exact .inl d4 | exact .inr g4
        · rename_i hm
          refine ⟨_, rfl, by omega, by omega, ?_, ?_, ?_⟩
          · first | exact d3 | exact Int.le_trans (Int.mul_le_mul_of_nonneg_right (show wa / (fl - P) ≤ fo / P by omega) (by omega)) d3
          · first | exact g3 | exact Int.le_trans (Int.mul_le_mul_of_nonneg_right (show fo / P ≤ wa / (fl - P) by omega) (by omega)) g3
          · first | exact .inl d4 | exact .inr g4
      · rw [if_neg hlt]
        have e : fl - P = 0 := by omega
        exact ⟨fo / P, rfl, d1, d2, d3, by rw [e, Int.mul_zero]; exact a0, .inl d4⟩
    rw [hn]
    have m1 := mulBd (show 0 ≤ n + 1 by omega) (show n + 1 ≤ 100001 by omega) (show 0 ≤ P by omega) (show P ≤ 6000 by omega)
    have m2 := mulBd (show 0 ≤ n + 1 by omega) (show n + 1 ≤ 100001 by omega) (show 0 ≤ fl - P by omega) (show fl - P ≤ 6000 by omega)
    exact ⟨n, P, rfl, rfl, n0, n1, P1, P2, f1, by omega, by omega, c1, c2, Int.mul_nonneg n0 (by omega), Int.mul_nonneg n0 (by omega), c3, m1.1, by omega, m2.1, by omega, a0, a1, r0, r1⟩
  · cases h
theorem lasts_no {wa fo fl p : Int} (h : (foamLasts wa fo fl p).2 = false) : foamLasts wa fo fl p = (0, false) := by
  unfold foamLasts at h ⊢
  split at h
  · cases h
  · rename_i hb; rw [if_neg hb]
/-! the order in which tankers come back -/
def lexLt (key : Int → Int) (x y : Int) : Prop := key x < key y ∨ key x = key y ∧ x < y
theorem insFrom_sorted {key : Int → Int} {gt : Int → Int → Bool} (hgt : ∀ y x, gt y x = decide (key x < key y)) {x : Int} {p : List Int} (hp : p.Pairwise (lexLt key)) (hx : ∀ y ∈ p, y < x) : ∀ j, j ≤ p.length → (∀ y ∈ p.drop j, key x < key y) → (insFrom gt x p j).Pairwise (lexLt key) := by
  intro j
  induction j with
  | zero =>
    intro _ h
    simp only [insFrom, List.pairwise_cons]
    rw [List.drop_zero] at h
    exact ⟨fun y hy => .inl (h y hy), hp⟩
  | succ j ih =>
    intro hj h
    have hd : p.drop j = p[j] :: p.drop (j + 1) := List.drop_eq_getElem_cons (by omega)
    have hg : p.getD j 0 = p[j] := by simp [List.getD, List.getElem?_eq_getElem (show j < p.length by omega)]
    simp only [insFrom]
    rw [hg, hgt]
    by_cases hk : key x < key p[j]
    · rw [decide_eq_true hk, if_pos rfl]
      refine ih (by omega) (fun y hy => ?_)
      rw [hd] at hy
      rcases List.mem_cons.1 hy with rfl | hy
      · exact hk
      · exact h y hy
    · rw [decide_eq_false hk, if_neg (by simp)]
      have hp2 := hp
      rw [← List.take_append_drop (j + 1) p, List.pairwise_append] at hp2
      obtain ⟨q1, q2, q3⟩ := hp2
      rw [List.pairwise_append]
      refine ⟨q1, List.pairwise_cons.2 ⟨fun y hy => .inl (h y hy), q2⟩, fun a ha b hb => ?_⟩
      rcases List.mem_cons.1 hb with rfl | hb
      · have ha' : a ∈ p := List.mem_of_mem_take ha
        have hax := hx a ha'
        have hle : key a ≤ key p[j] := by
          obtain ⟨i, hi, e⟩ := List.getElem_of_mem ha
          rw [List.length_take] at hi
          rw [List.getElem_take] at e
          subst e
          rcases Nat.lt_or_ge i j with hlt | hge
          · have := (List.pairwise_iff_getElem.1 hp) i j (by omega) (by omega) hlt
            rcases this with h' | h' <;> omega
          · have : i = j := by omega
            subst this; exact Int.le_refl _
        unfold lexLt
        omega
      · exact q3 a ha b hb
theorem isort_sorted {key : Int → Int} {gt : Int → Int → Bool} (hgt : ∀ y x, gt y x = decide (key x < key y)) : ∀ n : Nat, (isort gt (upFrom 0 n)).Pairwise (lexLt key) := by
  intro n
  induction n with
  | zero => simp [upFrom, isort]
  | succ n ih =>
    have e : upFrom 0 (n + 1) = upFrom 0 n ++ [(n : Int)] := by rw [upFrom_succ]; simp
    rw [e, isort_snoc]
    unfold insR
    refine insFrom_sorted hgt ih (fun y hy => ?_) _ (Nat.le_refl _) (by simp)
    have := (isort_perm gt (upFrom 0 n)).mem_iff.1 hy
    unfold upFrom at this
    obtain ⟨i, hi, rfl⟩ := List.mem_map.1 this
    have := List.mem_range.1 hi
    omega
theorem fill_sorted (l : List Tk) {k : Nat} {x y : Int} (hx : (isort (gtOf (fillCf l)) (upFrom 0 l.length))[k]? = some x) (hy : (isort (gtOf (fillCf l)) (upFrom 0 l.length))[k + 1]? = some y) : lexLt (fillKey l) x y := by
  have h := isort_sorted (key := fillKey l) (gt := gtOf (fillCf l)) (fun y x => by unfold gtOf fillCf; exact cmpI_lt _ _) l.length
  obtain ⟨h1, rfl⟩ := List.getElem?_eq_some_iff.1 hx
  obtain ⟨h2, rfl⟩ := List.getElem?_eq_some_iff.1 hy
  exact (List.pairwise_iff_getElem.1 h) k (k + 1) h1 h2 (by omega)
theorem fill_mem (l : List Tk) {x : Int} (hx : x ∈ isort (gtOf (fillCf l)) (upFrom 0 l.length)) : ∃ (i : Nat) (t : Tk), x = (i : Int) ∧ l[i]? = some t := by
  have := (isort_perm _ _).mem_iff.1 hx
  unfold upFrom at this
  obtain ⟨i, hi, rfl⟩ := List.mem_map.1 this
  have hi := List.mem_range.1 hi
  exact ⟨i, _, by omega, List.getElem?_eq_getElem hi⟩
theorem fillKey_at {l : List Tk} {i : Nat} {t : Tk} (h : l[i]? = some t) : fillKey l (i : Int) = t.e + t.d := by unfold fillKey; rw [Int.toNat_natCast, h]
end Go.Proofs.Ytdiffcacamnlkaa
