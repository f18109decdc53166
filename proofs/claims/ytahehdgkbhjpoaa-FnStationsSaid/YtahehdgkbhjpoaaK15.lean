/-
  Cover: the plain laws of FnCover: covered nodes and the others make up the town; the fewest stations cover all, each of them is needed, and they are no fewer than nodes that are apart. Stations: the plain laws of FnStations. (joined by pack.py: CoverLaw StatLaw)
-/
import Derived.Test.YtahehdgkbhjpoaaK13
import Derived.Test.YtahehdgkbhjpoaaK9
import Derived.Test.YtahehdgkbhjpoaaK14
import Derived.Test.YtahehdgkbhjpoaaK11
namespace Go.Proofs.Ytahehdgkbhjpoaa
set_option linter.unusedVariables false
set_option linter.unusedSimpArgs false
open Go.RowKit

theorem sta_pair {lo hi : Int} {q : List Int} (h : rising lo hi q = true) : q.Pairwise (· < ·) := by
  rw [List.pairwise_iff_getElem]
  have step : ∀ k (hk : k + 1 < q.length), q[k]'(by omega) < q[k + 1] := fun k hk => by
    have h1 := List.all_eq_true.1 h (k + 1) (List.mem_range.2 hk)
    unfold risAt at h1
    rw [List.getElem?_eq_getElem hk, Nat.add_sub_cancel, List.getElem?_eq_getElem (show k < q.length by omega)] at h1
    simp at h1
    exact h1.2
  intro i j hi' hj hij
  obtain ⟨d, rfl⟩ : ∃ d, j = i + 1 + d := ⟨j - (i + 1), by omega⟩
  induction d with
  | zero => exact step i hj
  | succ d ih => exact Int.lt_trans (ih (by omega) (by omega)) (step (i + 1 + d) hj)
theorem sta_of {lo hi : Int} {q : List Int} (hp : q.Pairwise (· < ·)) (hb : ∀ x ∈ q, lo ≤ x ∧ x ≤ hi) : rising lo hi q = true := by
  unfold rising
  refine List.all_eq_true.2 (fun k hk => ?_)
  have hk := List.mem_range.1 hk
  unfold risAt
  rw [List.getElem?_eq_getElem hk]
  have h1 := hb _ (List.getElem_mem hk)
  have h2 : inB q[k] lo hi = true := by unfold inB; simp; exact h1
  simp only [h2, Bool.true_and]
  rcases k with _ | k
  · simp
  · rw [Nat.add_sub_cancel, List.getElem?_eq_getElem (show k < q.length by omega)]
    have := (List.pairwise_iff_getElem.1 hp) k (k + 1) (by omega) hk (by omega)
    simp [this]
/-! a node is covered if some station reaches it -/
theorem inB_pick (a o x : Int) : inB (pickT o x) 0 a = (inB o 0 a || inB x 0 a) := by
  unfold pickT
  split
  · rename_i h
    cases hx : inB x 0 a with
    | true => simp
    | false =>
      rw [Bool.or_false]
      cases ho : inB o 0 a with
      | false => rfl
      | true =>
        have h1 := inB_true ho
        have : inB x 0 a = true := by unfold inB; simp; omega
        rw [this] at hx; cases hx
  · rename_i h
    cases ho : inB o 0 a with
    | true => rfl
    | false =>
      cases hx : inB x 0 a with
      | false => rfl
      | true =>
        exfalso
        have h1 := inB_true hx
        have h2 : 0 ≤ o ∧ o ≤ x := by omega
        have : inB o 0 a = true := by unfold inB; simp; omega
        rw [this] at ho; cases ho
theorem merge_get {d e : List Int} {n i : Nat} (hd : d.length = n) (he : e.length = n) (hi : i < n) : (mergeT d e).getD i 0 = pickT (d.getD i 0) (e.getD i 0) := by
  unfold mergeT
  simp [List.getElem?_zipWith, List.getD, List.getElem?_eq_getElem (show i < d.length by omega), List.getElem?_eq_getElem (show i < e.length by omega)]
theorem cov_any (n : Nat) (ar : List Arc) (a : Int) {i : Nat} (hi : i < n) (q : List Int) : inB ((coverL n ar q).getD i 0) 0 a = q.any fun s => reachP n ar a s.toNat i := by
  have aux : ∀ (q d : List Int), d.length = n → inB ((q.foldl (fun d s => mergeT d (distT n ar s.toNat)) d).getD i 0) 0 a = (inB (d.getD i 0) 0 a || q.any fun s => reachP n ar a s.toNat i) := by
    intro q
    induction q with
    | nil => intro d _; simp
    | cons s q ih =>
      intro d hd
      rw [List.foldl_cons, ih _ (mergeT_len hd (distT_len n ar _)), merge_get hd (distT_len n ar _) hi, inB_pick, List.any_cons, Bool.or_assoc]
      rfl
  unfold coverL
  rw [aux q _ (by simp)]
  have : inB ((List.replicate n (-1 : Int)).getD i 0) 0 a = false := by simp [List.getD, hi, inB]
  rw [this, Bool.false_or]
theorem reach_self {m : Nat} {l : List St} (hA : ∀ x ∈ arcs l, x.1 < m ∧ x.2.1 < m ∧ 0 < x.2.2) {a : Int} (ha : 0 ≤ a) {s : Nat} (hs : s < m) : reachP m (arcs l) a s s = true := by
  unfold reachP
  have h : (distT m (arcs l) s).getD s 0 = 0 := by
    rcases (dist_is hA hs).2 s hs with ⟨p, q⟩ | ⟨p, q⟩
    · exact absurd Way.here (q 0)
    · have := q.2 0 Way.here
      omega
  rw [h]
  unfold inB; simp; exact ha
theorem good_arcs {m : Nat} {l : List St} (h : goodTown m l = true) : ∀ x ∈ arcs l, x.1 < m ∧ x.2.1 < m ∧ 0 < x.2.2 := by
  have := arcs_good h
  rwa [Int.toNat_natCast] at this
theorem cov_true {m : Nat} {ar : List Arc} {a : Int} {q : List Int} {i : Nat} : (i : Int) ∈ covIdx (coverL m ar q) a true m ↔ i < m ∧ (q.any fun s => reachP m ar a s.toNat i) = true := by
  unfold covIdx
  rw [selI_mem]
  constructor
  · rintro ⟨j, hj, h1, h2⟩
    obtain rfl : i = j := by omega
    refine ⟨h1, ?_⟩
    rw [← cov_any m ar a h1 q]
    unfold covP at h2
    simpa using h2
  · rintro ⟨h1, h2⟩
    refine ⟨i, rfl, h1, ?_⟩
    unfold covP
    rw [cov_any m ar a h1 q, h2]; rfl
theorem cov_false {m : Nat} {ar : List Arc} {a : Int} {q : List Int} {i : Nat} : (i : Int) ∈ covIdx (coverL m ar q) a false m ↔ i < m ∧ (q.any fun s => reachP m ar a s.toNat i) = false := by
  unfold covIdx
  rw [selI_mem]
  constructor
  · rintro ⟨j, hj, h1, h2⟩
    obtain rfl : i = j := by omega
    refine ⟨h1, ?_⟩
    rw [← cov_any m ar a h1 q]
    unfold covP at h2
    simpa using h2
  · rintro ⟨h1, h2⟩
    refine ⟨i, rfl, h1, ?_⟩
    unfold covP
    rw [cov_any m ar a h1 q, h2]; rfl
theorem sel_sum (p : Nat → Bool) : ∀ k, (selI p k).length + (selI (fun i => !p i) k).length = k := by
  intro k
  induction k with
  | zero => rfl
  | succ k ih =>
    cases h : p k with
    | true => rw [selI_yes h, selI_no (p := fun i => !p i) (by simp [h]), List.length_append]; simp; omega
    | false => rw [selI_no h, selI_yes (p := fun i => !p i) (by simp [h]), List.length_append]; simp; omega
theorem cov_sum (d : List Int) (a : Int) (k : Nat) : (covIdx d a true k).length + (covIdx d a false k).length = k := by
  have h := sel_sum (covP d a true) k
  have e : covP d a false = fun i => !covP d a true i := by
    funext i
    unfold covP
    cases inB (d.getD i 0) 0 a <;> rfl
  unfold covIdx
  rw [e]; exact h
theorem let_open {m : Nat} {l : List St} {a : Int} {q : List Int} (hg : goodTown m l = true) (ha : 0 ≤ a) (hq : ∀ x ∈ q, 0 ≤ x ∧ x ≤ (m : Int) - 1) {i : Nat} (hi : i < m) : (letC (coverL m (arcs l) q) q a i = 45) ↔ (i : Int) ∈ covIdx (coverL m (arcs l) q) a false m := by
  rw [cov_false]
  unfold letC
  rw [cov_any m (arcs l) a hi q]
  by_cases hm : (i : Int) ∈ q
  · rw [if_pos hm]
    constructor
    · intro h; cases h
    · rintro ⟨_, h⟩
      have := List.any_eq_false.1 h _ hm
      rw [Int.toNat_natCast, reach_self (good_arcs hg) ha hi] at this
      exact absurd rfl this
  · rw [if_neg hm]
    cases h : q.any fun s => reachP m (arcs l) a s.toNat i with
    | true => simp
    | false => simp [hi]
/-! the fewest stations -/
theorem tryFrom_some {f : Nat → Option (List Int)} : ∀ (k i : Nat) (r : List Int), tryFrom f i k = some r → ∃ j r', i ≤ j ∧ j < i + k ∧ f j = some r' ∧ r = (j : Int) :: r' := by
  intro k
  induction k with
  | zero => intro i r h; simp [tryFrom] at h
  | succ k ih =>
    intro i r h
    unfold tryFrom at h
    cases hf : f i with
    | some r' =>
      rw [hf] at h
      simp at h
      exact ⟨i, r', Nat.le_refl _, by omega, hf, h.symm⟩
    | none =>
      rw [hf] at h
      obtain ⟨j, r', h1, h2, h3, h4⟩ := ih _ _ h
      exact ⟨j, r', by omega, by omega, h3, h4⟩
theorem implS_some (sets : List Nat) (all : Nat) : ∀ (left first cov : Nat) (r : List Int), implS sets all left first cov = some r → ∃ e : List Nat, r = e.map (fun n : Nat => (n : Int)) ∧ Sel sets.length first e ∧ e.length = left ∧ coverS sets cov e = all := by
  intro left
  induction left with
  | zero =>
    intro first cov r h
    unfold implS at h
    split at h
    · cases h; rename_i hc; exact ⟨[], rfl, trivial, rfl, hc⟩
    · cases h
  | succ left ih =>
    intro first cov r h
    unfold implS at h
    obtain ⟨j, r', h1, h2, h3, rfl⟩ := tryFrom_some _ _ _ h
    obtain ⟨e, rfl, q1, q2, q3⟩ := ih _ _ _ h3
    exact ⟨j :: e, rfl, ⟨h1, by omega, q1⟩, by simp [q2], q3⟩
theorem firstN_some {f : Nat → Option (List Int)} : ∀ (n k : Nat) (r : List Int), firstN f k n = some r → ∃ j, k ≤ j ∧ j < k + n ∧ f j = some r ∧ ∀ i, k ≤ i → i < j → f i = none := by
  intro n
  induction n with
  | zero => intro k r h; simp [firstN] at h
  | succ n ih =>
    intro k r h
    unfold firstN at h
    cases hf : f k with
    | some r' =>
      rw [hf] at h
      cases h
      exact ⟨k, Nat.le_refl _, by omega, hf, fun i h1 h2 => by omega⟩
    | none =>
      rw [hf] at h
      obtain ⟨j, h1, h2, h3, h4⟩ := ih _ _ h
      refine ⟨j, by omega, by omega, h3, fun i p1 p2 => ?_⟩
      rcases Nat.eq_or_lt_of_le p1 with e | e
      · rw [← e]; exact hf
      · exact h4 i e p2
theorem sel_facts {N : Nat} : ∀ {e : List Nat} {first : Nat}, Sel N first e → e.Pairwise (· < ·) ∧ ∀ x ∈ e, first ≤ x ∧ x < N := by
  intro e
  induction e with
  | nil => intro first _; exact ⟨List.Pairwise.nil, fun x hx => by cases hx⟩
  | cons i e ih =>
    intro first h
    obtain ⟨h1, h2, h3⟩ := h
    obtain ⟨q1, q2⟩ := ih h3
    refine ⟨List.Pairwise.cons (fun x hx => by have := (q2 x hx).1; omega) q1, fun x hx => ?_⟩
    rcases List.mem_cons.1 hx with rfl | hx
    · exact ⟨h1, h2⟩
    · have := q2 x hx; omega
theorem sel_of {N : Nat} : ∀ {e : List Nat} {first : Nat}, e.Pairwise (· < ·) → (∀ x ∈ e, first ≤ x ∧ x < N) → Sel N first e := by
  intro e
  induction e with
  | nil => intro _ _ _; trivial
  | cons i e ih =>
    intro first h hb
    obtain ⟨h1, h2⟩ := List.pairwise_cons.1 h
    have := hb i (by simp)
    exact ⟨this.1, this.2, ih h2 (fun x hx => ⟨by have := h1 x hx; omega, (hb x (by simp [hx])).2⟩)⟩
theorem coverS_bit {m : Nat} {ar : List Arc} {a : Int} {i : Nat} (hi : i < m) : ∀ (e : List Nat) (cov : Nat), (∀ x ∈ e, x < m) → (coverS (setsL m ar a) cov e).testBit i = (cov.testBit i || e.any fun s => reachP m ar a s i) := by
  intro e
  induction e with
  | nil => intro cov _; simp [coverS]
  | cons s e ih =>
    intro cov h
    have hs := h s (by simp)
    show (coverS (setsL m ar a) (cov ||| (setsL m ar a).getD s 0) e).testBit i = _
    rw [ih _ (fun x hx => h x (by simp [hx])), Nat.testBit_or, setsL_get hs, reachM_bit hi, List.any_cons, Bool.or_assoc]
theorem coverS_lt {m : Nat} {ar : List Arc} {a : Int} : ∀ (e : List Nat) (cov : Nat), cov < 2 ^ m → (∀ x ∈ e, x < m) → coverS (setsL m ar a) cov e < 2 ^ m := by
  intro e
  induction e with
  | nil => intro cov h _; exact h
  | cons s e ih =>
    intro cov h hb
    exact ih _ (Nat.or_lt_two_pow h (by rw [setsL_get (hb s (by simp))]; exact reachM_lt _ _ _ _)) (fun x hx => hb x (by simp [hx]))
theorem coverS_all {m : Nat} {ar : List Arc} {a : Int} {e : List Nat} (h : ∀ x ∈ e, x < m) : coverS (setsL m ar a) 0 e = 2 ^ m - 1 ↔ ∀ i, i < m → (e.any fun s => reachP m ar a s i) = true := by
  constructor
  · intro hc i hi
    have := coverS_bit (ar := ar) (a := a) hi e 0 h
    rw [hc, Nat.testBit_two_pow_sub_one, decide_eq_true hi] at this
    simpa using this.symm
  · intro hc
    refine Nat.eq_of_testBit_eq (fun i => ?_)
    rw [Nat.testBit_two_pow_sub_one]
    by_cases hi : i < m
    · rw [coverS_bit hi e 0 h, hc i hi, decide_eq_true hi]; simp
    · rw [decide_eq_false hi]
      exact Nat.testBit_lt_two_pow (Nat.lt_of_lt_of_le (coverS_lt e 0 (Nat.two_pow_pos m) h) (Nat.pow_le_pow_right (by omega) (by omega)))
theorem any_map_cast {m : Nat} {ar : List Arc} {a : Int} {i : Nat} (e : List Nat) : ((e.map fun n : Nat => (n : Int)).any fun s => reachP m ar a s.toNat i) = e.any fun s => reachP m ar a s i := by
  rw [List.any_map]; rfl
theorem apart_pair {m : Nat} {l : List St} {a : Int} : ∀ {k : Nat}, k ≤ m → (apartL m (arcs l) a k).Pairwise fun x y => x ≠ y ∧ ∀ r, r < m → ¬ (reachP m (arcs l) a r x.toNat = true ∧ reachP m (arcs l) a r y.toNat = true) := by
  intro k
  induction k with
  | zero => intro _; exact List.Pairwise.nil
  | succ k ih =>
    intro hk
    unfold apartL
    split
    · rename_i hp
      rw [List.pairwise_append]
      refine ⟨ih (by omega), by simp, fun x hx y hy => ?_⟩
      obtain rfl : y = (k : Int) := by simpa using hy
      obtain ⟨i, rfl, hi⟩ := apartL_mem hx
      refine ⟨by omega, fun r hr h => ?_⟩
      have h1 := List.all_eq_true.1 (List.all_eq_true.1 hp _ hx) r (List.mem_range.2 hr)
      rw [Int.toNat_natCast] at h1 h
      rw [Int.toNat_natCast] at h
      rw [h.1, h.2] at h1
      cases h1
    · exact ih (by omega)
/-- As many as can be told apart by what they are put to. -/
theorem pigeon {α β : Type} (R : α → β → Prop) : ∀ (xs : List α) (ys : List β), (∀ x ∈ xs, ∃ y ∈ ys, R x y) → xs.Pairwise (fun x x' => ∀ y, ¬ (R x y ∧ R x' y)) → xs.length ≤ ys.length := by
  classical
  intro xs
  induction xs with
  | nil => intro ys _ _; simp
  | cons x xs ih =>
    intro ys h hp
    obtain ⟨hp1, hp2⟩ := List.pairwise_cons.1 hp
    obtain ⟨y, hy, hxy⟩ := h x (by simp)
    obtain ⟨A, C, rfl⟩ := List.append_of_mem hy
    have := ih (A ++ C) (fun x' hx' => by
      obtain ⟨y', hy', hr⟩ := h x' (by simp [hx'])
      refine ⟨y', ?_, hr⟩
      rcases List.mem_append.1 hy' with h1 | h1
      · exact List.mem_append_left _ h1
      · rcases List.mem_cons.1 h1 with rfl | h1
        · exact absurd ⟨hxy, hr⟩ (hp1 x' hx' y')
        · exact List.mem_append_right _ h1) hp2
    simp at this ⊢; omega
theorem drop_cast (e : List Nat) (i : Nat) : dropI (e.map fun n : Nat => (n : Int)) i = (e.take i ++ e.drop (i + 1)).map fun n : Nat => (n : Int) := by
  unfold dropI; rw [List.map_append, List.map_take, List.map_drop]
theorem lost_pos {m : Nat} {l : List St} {a : Int} {e : List Nat} (hm : 1 ≤ m) (hs : Sel m 0 e) (hall : ∀ i, i < m → (e.any fun s => reachP m (arcs l) a s i) = true) (hno : ∀ j, j < e.length → implS (setsL m (arcs l) a) (2 ^ m - 1) j 0 0 = none) {i : Nat} (hi : i < e.length) :
    needP m l (e.map fun n : Nat => (n : Int)) a i = true := by
  obtain ⟨hp, hb⟩ := sel_facts hs
  unfold needP
  refine decide_eq_true (Nat.pos_of_ne_zero (fun h0 => ?_))
  have hnil := List.eq_nil_of_length_eq_zero h0
  unfold lostL at hnil
  rw [List.filter_eq_nil_iff] at hnil
  have hsub : (e.take i ++ e.drop (i + 1)).Sublist e := by
    conv => rhs; rw [← List.take_append_drop i e]
    refine (List.Sublist.refl _).append ?_
    rw [← List.drop_drop]
    exact List.drop_sublist _ _
  have hb' : ∀ x ∈ e.take i ++ e.drop (i + 1), x < m := fun x hx => (hb x (hsub.subset hx)).2
  have hcov : ∀ j, j < m → ((e.take i ++ e.drop (i + 1)).any fun s => reachP m (arcs l) a s j) = true := fun j hj => by
    have h1 : (j : Int) ∈ covL m l (e.map fun n : Nat => (n : Int)) a := cov_true.2 ⟨hj, by rw [any_map_cast]; exact hall j hj⟩
    have h2 := hnil _ h1
    unfold notIn at h2
    have h3 : (j : Int) ∈ covL m l (dropI (e.map fun n : Nat => (n : Int)) i) a := by simpa using h2
    have h4 := (cov_true.1 h3).2
    rw [drop_cast, any_map_cast] at h4
    exact h4
  have hl : (e.take i ++ e.drop (i + 1)).length = e.length - 1 := by rw [List.length_append, List.length_take, List.length_drop]; omega
  refine implS_none _ _ _ _ _ (hno (e.length - 1) (by omega)) _ ?_ hl ((coverS_all hb').2 hcov)
  rw [setsL_len]
  exact sel_of (hp.sublist hsub) (fun x hx => hb x (hsub.subset hx))
theorem sel_full {p : Nat → Bool} : ∀ {k : Nat}, (∀ i, i < k → p i = true) → (selI p k).length = k := by
  intro k
  induction k with
  | zero => intro _; rfl
  | succ k ih =>
    intro h
    rw [selI_yes (h k (by omega)), List.length_append, ih (fun i hi => h i (by omega))]; rfl
/-- All that is said of the fewest stations. -/
theorem fewest_is {m : Nat} {l : List St} {a : Int} {r : List Int} (h : fewestStationsV m l a = (r, true)) :
    goodTown m l = true ∧ inB a 0 36000 = true ∧ askC m l r a = true ∧ covIdx (coverL m (arcs l) r) a false m = [] ∧ (apartL m (arcs l) a m).length ≤ r.length ∧ r.length ≤ 6 ∧ (selI (needP m l r a) r.length).length = r.length := by
  unfold fewestStationsV at h
  split at h
  · rename_i hk
    simp only [Bool.and_eq_true] at hk
    obtain ⟨hg, ha⟩ := hk
    obtain ⟨ha0, ha1⟩ := inB_true ha
    have hm := (goodTown_true hg).1
    have hA := good_arcs hg
    rw [Int.toNat_natCast] at h
    unfold fewestStationsW at h
    cases hf : firstN (fun j => implS (setsL m (arcs l) a) (2 ^ m - 1) j 0 0) 1 6 with
    | none => rw [hf] at h; cases h
    | some r' =>
      rw [hf] at h
      simp only [optL, Prod.mk.injEq, and_true] at h
      subst h
      obtain ⟨j, h1, h2, h3, h4⟩ := firstN_some _ _ _ hf
      obtain ⟨e, rfl, hs, hl, hc⟩ := implS_some _ _ _ _ _ _ h3
      rw [setsL_len] at hs
      obtain ⟨hp, hb⟩ := sel_facts hs
      have hall := (coverS_all (fun x hx => (hb x hx).2)).1 hc
      have hno : ∀ i, i < e.length → implS (setsL m (arcs l) a) (2 ^ m - 1) i 0 0 = none := fun i hi => by
        rcases Nat.eq_zero_or_pos i with rfl | h0
        · unfold implS
          rw [if_neg]
          have : 2 ^ 1 ≤ 2 ^ m := Nat.pow_le_pow_right (by omega) (by omega)
          omega
        · exact h4 i h0 (by omega)
      have hrl : (e.map fun n : Nat => (n : Int)).length = e.length := by simp
      refine ⟨hg, ha, ?_, ?_, ?_, by rw [hrl]; omega, ?_⟩
      · unfold askC goodSta
        rw [hg, ha, sta_of (q := e.map fun n : Nat => (n : Int)) ?_ ?_]
        · simp; omega
        · rw [List.pairwise_map]
          exact hp.imp (fun h => by omega)
        · intro x hx
          obtain ⟨y, hy, rfl⟩ := List.mem_map.1 hx
          have := hb y hy
          omega
      · refine List.eq_nil_iff_forall_not_mem.2 (fun x hx => ?_)
        obtain ⟨i, rfl, hi, _⟩ := selI_mem.1 hx
        have := (cov_false.1 hx).2
        rw [any_map_cast, hall i hi] at this
        cases this
      · rw [hrl]
        refine pigeon (fun (x : Int) (s : Nat) => s < m ∧ reachP m (arcs l) a s x.toNat = true) _ _ (fun x hx => ?_) ?_
        · obtain ⟨i, rfl, hi⟩ := apartL_mem hx
          obtain ⟨s, hs1, hs2⟩ := List.any_eq_true.1 (hall i hi)
          exact ⟨s, hs1, (hb s hs1).2, by rw [Int.toNat_natCast]; exact hs2⟩
        · exact (apart_pair (Nat.le_refl m)).imp (fun {x y} hxy s hh => hxy.2 s hh.1.1 ⟨hh.1.2, hh.2.2⟩)
      · exact sel_full (fun i hi => lost_pos (by omega) hs hall hno (by rw [hrl] at hi; exact hi))
  · cases h
end Go.Proofs.Ytahehdgkbhjpoaa

namespace Go.Proofs.Ytahehdgkbhjpoaa
set_option linter.unusedVariables false
set_option linter.unusedSimpArgs false
open Go.RowKit

theorem idxI_get : ∀ {l : List Int} {x : Int}, 0 ≤ idxI l x → l[(idxI l x).toNat]? = some x := by
  intro l
  induction l with
  | nil => intro x h; simp [idxI] at h
  | cons y l ih =>
    intro x h
    unfold idxI at h ⊢
    by_cases e : y = x
    · rw [if_pos e]; simp [e]
    · rw [if_neg e] at h ⊢
      by_cases h2 : idxI l x < 0
      · rw [if_pos h2] at h; omega
      · rw [if_neg h2]
        have := ih (x := x) (by omega)
        rw [show (idxI l x + 1).toNat = (idxI l x).toNat + 1 by omega, List.getElem?_cons_succ]
        exact this
theorem getD_of_get {d : List Int} {k : Nat} {x : Int} (h : d[k]? = some x) : d.getD k 0 = x := by simp [List.getD, h]
theorem mem_getD {d : List Int} {x : Int} (h : x ∈ d) : ∃ i, i < d.length ∧ d.getD i 0 = x := by
  obtain ⟨i, hi, rfl⟩ := List.getElem_of_mem h
  exact ⟨i, hi, by simp [List.getD, hi]⟩
/-- WeakestNode, by what it hands back. -/
theorem weak_is {m : Nat} {l : List St} {q : List Int} {w t : Int} (h : weakestNodeV m l q = (w, t, true)) :
    goodSta m l q = true ∧ (∃ k : Nat, w = (k : Int) ∧ k < m ∧ (coverL m (arcs l) q)[k]? = some t) ∧ (0 ≤ t → ∀ x ∈ coverL m (arcs l) q, 0 ≤ x ∧ x ≤ t) ∧ (t < 0 → ∃ x ∈ coverL m (arcs l) q, x < 0) := by
  unfold weakestNodeV at h
  split at h
  · rename_i hs
    refine ⟨hs, ?_⟩
    have hg := (goodSta_true hs).1
    obtain ⟨hn1, hn2, _, _⟩ := goodTown_true hg
    have hbd := bdI_cover hg m (by omega) q
    have hlen := coverL_len m (arcs l) q
    rw [Int.toNat_natCast] at h
    unfold weakestNodeW weakW at h
    obtain ⟨d, hd⟩ : ∃ d, coverL m (arcs l) q = d := ⟨_, rfl⟩
    rw [hd] at h hbd hlen ⊢
    split at h
    · rename_i hi
      simp only [Prod.mk.injEq, and_true] at h
      obtain ⟨rfl, rfl⟩ := h
      have hg := idxI_get hi
      have hb := idxI_bd d (-1)
      exact ⟨⟨(idxI d (-1)).toNat, by omega, by omega, hg⟩, fun h => by omega, fun _ => ⟨-1, List.mem_of_getElem? hg, by omega⟩⟩
    · rename_i hi
      simp only [Prod.mk.injEq, and_true] at h
      obtain ⟨rfl, rfl⟩ := h
      have hno : (-1 : Int) ∉ d := fun hm => hi (idxI_mem hm)
      have hpos : ∀ x ∈ d, 0 ≤ x := fun x hx => by
        have := hbd x hx
        have : x ≠ -1 := fun e => hno (e ▸ hx)
        omega
      obtain ⟨hm1, hm2⟩ := maxL_spec (d := d) (by omega)
      have hi2 := idxI_mem hm1
      have hb := idxI_bd d (maxL d)
      exact ⟨⟨(idxI d (maxL d)).toNat, by omega, by omega, idxI_get hi2⟩, fun _ x hx => ⟨hpos x hx, hm2 x hx⟩, fun h => by have := hpos _ hm1; omega⟩
  · cases h
theorem inB_yes {x a b : Int} (h1 : a ≤ x) (h2 : x ≤ b) : inB x a b = true := by unfold inB; simp; omega
theorem inB_no {x a b : Int} (h : b < x) : inB x a b = false := by unfold inB; simp; omega
/-- LeastLimit, by what it hands back, beside WeakestNode. -/
theorem least_is {m : Nat} {l : List St} {q : List Int} {w t x : Int} (hw : weakestNodeV m l q = (w, t, true)) (h : leastLimitV m l q = (x, true)) :
    t = x ∧ askC m l q x = true ∧ covIdx (coverL m (arcs l) q) x false m = [] ∧ 0 ≤ x ∧ x ≤ 36000 ∧ (0 < x → askC m l q (x - 1) = true ∧ covIdx (coverL m (arcs l) q) (x - 1) false m ≠ []) := by
  obtain ⟨hs, ⟨k, rfl, hk, hget⟩, hpos, hneg⟩ := weak_is hw
  have hlen := coverL_len m (arcs l) q
  unfold leastLimitV at h
  rw [if_pos hs, Int.toNat_natCast] at h
  unfold leastLimitW leastW at h
  split at h
  · cases h
  · rename_i hn
    simp only [Prod.mk.injEq, and_true] at h
    obtain ⟨d, hd⟩ : ∃ d, coverL m (arcs l) q = d := ⟨_, rfl⟩
    rw [hd] at h hn hget hpos hneg hlen ⊢
    have hdl : 0 < d.length := by omega
    obtain ⟨hm1, hm2⟩ := maxL_spec hdl
    obtain ⟨hi1, hi2⟩ := minL_spec hdl
    have hp : ∀ y ∈ d, 0 ≤ y := fun y hy => by have := hi2 y hy; omega
    have ht : 0 ≤ t := hp t (List.mem_of_getElem? hget)
    have htx : t = maxL d := by
      have h1 := (hpos ht _ hm1).2
      have h2 := hm2 t (List.mem_of_getElem? hget)
      omega
    have hx0 := hp _ hm1
    subst h
    refine ⟨htx, ?_, ?_, hx0, by omega, fun hx => ⟨?_, fun he => ?_⟩⟩
    · unfold askC; rw [hs, inB_yes hx0 (by omega)]; rfl
    · refine List.eq_nil_iff_forall_not_mem.2 (fun y hy => ?_)
      obtain ⟨i, rfl, hi, hc⟩ := selI_mem.1 hy
      unfold covP at hc
      have hmem : d.getD i 0 ∈ d := by simp [List.getD, List.getElem?_eq_getElem (show i < d.length by omega)]
      rw [inB_yes (hp _ hmem) (hm2 _ hmem)] at hc
      cases hc
    · unfold askC; rw [hs, inB_yes (by omega) (by omega)]; rfl
    · have hin : (k : Int) ∈ covIdx d (maxL d - 1) false m := by
        refine selI_mem.2 ⟨k, rfl, hk, ?_⟩
        unfold covP
        rw [getD_of_get hget, inB_no (by omega)]; rfl
      rw [he] at hin; cases hin
/-- LostWithout and NeededStations. -/
theorem lost_is {n : Int} {l : List St} {q : List Int} {i a : Int} {r : List Int} (h : lostWithoutV n l q i a = (r, true)) :
    askC n l q a = true ∧ (decide (i ∈ (neededStationsV n l q a).1) = decide (0 < r.length)) ∧ (neededStationsV n l q a).2 = true ∧ (coveredNodesV n l q a).2 = true ∧ (∀ x ∈ r, x ∈ (coveredNodesV n l q a).1) := by
  unfold lostWithoutV at h
  split at h
  · rename_i hk
    unfold askW at hk
    simp only [Bool.and_eq_true] at hk
    obtain ⟨hc, hi⟩ := hk
    obtain ⟨hi0, hi1⟩ := inB_true hi
    simp only [Prod.mk.injEq, and_true] at h
    refine ⟨hc, ?_, ?_, ?_, fun x hx => ?_⟩
    · unfold neededStationsV
      rw [if_pos hc]
      unfold neededStationsW
      simp only
      refine decide_eq_decide.2 ?_
      rw [selI_mem, ← h]
      constructor
      · rintro ⟨j, hj, _, hp⟩
        have : i.toNat = j := by omega
        rw [this]
        exact of_decide_eq_true hp
      · intro hp
        exact ⟨i.toNat, by omega, by omega, decide_eq_true hp⟩
    · unfold neededStationsV; rw [if_pos hc]; rfl
    · unfold coveredNodesV; rw [if_pos hc]; rfl
    · unfold coveredNodesV
      rw [if_pos hc]
      rw [← h] at hx
      exact (List.mem_filter.1 hx).1
  · cases h
theorem bestB_is (m : Nat) (ar : List Arc) (a : Int) (o q : List Int) : ∀ k, 0 ≤ (bestB m ar a o q k).2 → ∃ j : Nat, j < k ∧ (j : Int) ∉ q ∧ bestB m ar a o q k = ((j : Int), (cntB m ar a o j : Int)) := by
  intro k
  induction k with
  | zero => intro h; simp [bestB] at h
  | succ k ih =>
    rw [bestB_succ]
    unfold stepB
    split
    · intro h
      obtain ⟨j, h1, h2, h3⟩ := ih h
      exact ⟨j, by omega, h2, h3⟩
    · rename_i hn
      split
      · intro _; exact ⟨k, by omega, hn, rfl⟩
      · intro h
        obtain ⟨j, h1, h2, h3⟩ := ih h
        exact ⟨j, by omega, h2, h3⟩
theorem selI_pair (p : Nat → Bool) (n : Nat) : (selI p n).Pairwise (· < ·) := by
  unfold selI
  rw [List.pairwise_map]
  refine List.Pairwise.imp (R := fun a b : Nat => a < b) (fun h => by omega) ?_
  exact List.Pairwise.sublist List.filter_sublist List.pairwise_lt_range
theorem sel_same {p g : Nat → Bool} {n : Nat} (h : ∀ i, i < n → p i = g i) : selI p n = selI g n := by
  unfold selI
  congr 1
  exact List.filter_congr (fun i hi => h i (List.mem_range.1 hi))
theorem sel_split (p g : Nat → Bool) : ∀ k, ((selI p k).filter fun x => g x.toNat).length + (selI (fun i => p i && !g i) k).length = (selI p k).length := by
  intro k
  induction k with
  | zero => rfl
  | succ k ih =>
    cases hp : p k with
    | false => rw [selI_no hp, selI_no (p := fun i => p i && !g i) (by simp [hp])]; exact ih
    | true =>
      rw [selI_yes hp, List.filter_append, List.length_append, List.length_append]
      cases hg : g k with
      | true => rw [selI_no (p := fun i => p i && !g i) (by simp [hg])]; simp [hg]; omega
      | false => rw [selI_yes (p := fun i => p i && !g i) (by simp [hp, hg]), List.length_append]; simp [hg]; omega
/-- The stations with one more. -/
def allP (q : List Int) (b : Int) (i : Nat) : Bool := decide ((i : Int) = b) || decide ((i : Int) ∈ q)
theorem any_more {m : Nat} {q : List Int} {k : Nat} (hk : k < m) (hq : ∀ x ∈ q, 0 ≤ x ∧ x ≤ (m : Int) - 1) (f : Int → Bool) : (selI (allP q (k : Int)) m).any f = (f (k : Int) || q.any f) := by
  cases h : (f (k : Int) || q.any f) with
  | true =>
    refine List.any_eq_true.2 ?_
    simp only [Bool.or_eq_true, List.any_eq_true] at h
    rcases h with h | ⟨x, hx, h⟩
    · exact ⟨(k : Int), selI_mem.2 ⟨k, rfl, hk, by unfold allP; simp⟩, h⟩
    · have := hq x hx
      exact ⟨x, selI_mem.2 ⟨x.toNat, by omega, by omega, by unfold allP; rw [show ((x.toNat : Nat) : Int) = x by omega]; simp [hx]⟩, h⟩
  | false =>
    simp only [Bool.or_eq_false_iff] at h
    refine List.any_eq_false.2 (fun x hx => ?_)
    obtain ⟨i, rfl, hi, hp⟩ := selI_mem.1 hx
    unfold allP at hp
    simp only [Bool.or_eq_true, decide_eq_true_eq] at hp
    rcases hp with e | e
    · rw [e, h.1]; simp
    · exact List.any_eq_false.1 h.2 _ e
/-- BestFurther. -/
theorem further_is {m : Nat} {l : List St} {q : List Int} {a b c : Int} (h : bestFurtherV m l q a = (b, c, true)) :
    askC m l q a = true ∧ (∃ k : Nat, b = (k : Int) ∧ k < m) ∧ b ∉ q ∧ askC m l (selI (allP q b) m) a = true ∧ ((covIdx (coverL m (arcs l) (selI (allP q b) m)) a false m).length : Int) = ((covIdx (coverL m (arcs l) q) a false m).length : Int) - c := by
  unfold bestFurtherV at h
  split at h
  · rename_i hc
    obtain ⟨hs, ha, hg, hqb, hq6⟩ := askC_true hc
    rw [Int.toNat_natCast] at h
    unfold bestFurtherW at h
    split at h
    · cases h
    · rename_i hn
      simp only [Prod.mk.injEq, and_true] at h
      have hnn : 0 ≤ (bestB m (arcs l) a (openL m l q a) q m).2 := by
        rcases Int.lt_or_le (bestB m (arcs l) a (openL m l q a) q m).2 0 with h1 | h1
        · exact absurd (.inr ((best_iff a hs).1 h1)) hn
        · exact h1
      obtain ⟨k, hk, hkq, he⟩ := bestB_is m (arcs l) a (openL m l q a) q m hnn
      rw [he] at h
      obtain ⟨rfl, rfl⟩ := h
      refine ⟨hc, ⟨k, rfl, hk⟩, hkq, ?_, ?_⟩
      · have hlen : (selI (allP q (k : Int)) m).length ≤ ((k : Int) :: q).length := by
          refine pigeon (fun x y : Int => x = y) _ _ (fun x hx => ⟨x, ?_, rfl⟩) ?_
          · obtain ⟨i, rfl, hi, hp⟩ := selI_mem.1 hx
            unfold allP at hp
            simp only [Bool.or_eq_true, decide_eq_true_eq] at hp
            rcases hp with e | e
            · rw [e]; simp
            · simp [e]
          · exact (selI_pair _ _).imp (fun {x y} hxy z hz => by omega)
        have hr : rising 0 ((m : Int) - 1) (selI (allP q (k : Int)) m) = true := sta_of (selI_pair _ _) (fun x hx => by
          obtain ⟨i, rfl, hi, _⟩ := selI_mem.1 hx
          omega)
        unfold askC goodSta
        rw [hg, ha, hr]
        simp only [Bool.true_and, Bool.and_true, decide_eq_true_eq]
        simp at hlen
        omega
      · have e1 : covIdx (coverL m (arcs l) (selI (allP q (k : Int)) m)) a false m = selI (fun i => covP (coverL m (arcs l) q) a false i && !reachP m (arcs l) a k i) m := by
          show selI (covP (coverL m (arcs l) (selI (allP q (k : Int)) m)) a false) m = _
          refine sel_same (fun i hi => ?_)
          unfold covP
          rw [cov_any m (arcs l) a hi, cov_any m (arcs l) a hi, any_more hk hqb, Int.toNat_natCast]
          cases reachP m (arcs l) a k i <;> simp
        have e2 := sel_split (covP (coverL m (arcs l) q) a false) (reachP m (arcs l) a k) m
        rw [e1]
        unfold cntB openL hitP
        have e3 : covIdx (coverL m (arcs l) q) a false m = selI (covP (coverL m (arcs l) q) a false) m := rfl
        rw [e3]
        omega
  · cases h
end Go.Proofs.Ytahehdgkbhjpoaa
