/-
  Cover: the plain laws of FnCover: covered nodes and the others make up the town; the fewest stations cover all, each of them is needed, and they are no fewer than nodes that are apart. impl.ApartNodes. spec.ApartNodes. (joined by pack.py: CoverLaw ApartI ApartS)
-/
import Derived.Test.YtahehdgkbhjpoaaK13
import Derived.Test.YtahehdgkbhjpoaaK9
import Derived.Test.YtahehdgkbhjpoaaK14
import Derived.Test.YtahehdgkbhjpoaaK7
namespace Go.Proofs.Ytahehdgkbhjpoaa
set_option linter.unusedVariables false
set_option linter.unusedSimpArgs false
open Go.RowKit

theorem sta_pair {lo hi : Int} {q : List Int} (h : rising lo hi q = true) : q.Pairwise (· < ·) := by
  rw [List.pairwise_iff_getElem]
  have step : ∀ k (hk : k + 1 < q.length), q[k]'(by omega) < q[k + 1] := fun k hk => by
    have h1 := List.all_eq_true.1 h (k + 1) (List.mem_range.2 hk)
    unfold risAt at h1
    rw [List.getElem?_eq_getElem hk, Nat.add_sub_cancel, List.getElem?_eq_getElem (show k < q.length by omega)] at h1
    simp at h1
    exact h1.2
  intro i j hi' hj hij
  obtain ⟨d, rfl⟩ : ∃ d, j = i + 1 + d := ⟨j - (i + 1), by omega⟩
  induction d with
  | zero => exact step i hj
  | succ d ih => exact Int.lt_trans (ih (by omega) (by omega)) (step (i + 1 + d) hj)
theorem sta_of {lo hi : Int} {q : List Int} (hp : q.Pairwise (· < ·)) (hb : ∀ x ∈ q, lo ≤ x ∧ x ≤ hi) : rising lo hi q = true := by
  unfold rising
  refine List.all_eq_true.2 (fun k hk => ?_)
  have hk := List.mem_range.1 hk
  unfold risAt
  rw [List.getElem?_eq_getElem hk]
  have h1 := hb _ (List.getElem_mem hk)
  have h2 : inB q[k] lo hi = true := by unfold inB; simp; exact h1
  simp only [h2, Bool.true_and]
  rcases k with _ | k
  · simp
  · rw [Nat.add_sub_cancel, List.getElem?_eq_getElem (show k < q.length by omega)]
    have := (List.pairwise_iff_getElem.1 hp) k (k + 1) (by omega) hk (by omega)
    simp [this]
/-! a node is covered if some station reaches it -/
theorem inB_pick (a o x : Int) : inB (pickT o x) 0 a = (inB o 0 a || inB x 0 a) := by
  unfold pickT
  split
  · rename_i h
    cases hx : inB x 0 a with
    | true => simp
    | false =>
      rw [Bool.or_false]
      cases ho : inB o 0 a with
      | false => rfl
      | true =>
        have h1 := inB_true ho
        have : inB x 0 a = true := by unfold inB; simp; omega
        rw [this] at hx; cases hx
  · rename_i h
    cases ho : inB o 0 a with
    | true => rfl
    | false =>
      cases hx : inB x 0 a with
      | false => rfl
      | true =>
        exfalso
        have h1 := inB_true hx
        have h2 : 0 ≤ o ∧ o ≤ x := by omega
        have : inB o 0 a = true := by unfold inB; simp; omega
        rw [this] at ho; cases ho
theorem merge_get {d e : List Int} {n i : Nat} (hd : d.length = n) (he : e.length = n) (hi : i < n) : (mergeT d e).getD i 0 = pickT (d.getD i 0) (e.getD i 0) := by
  unfold mergeT
  simp [List.getElem?_zipWith, List.getD, List.getElem?_eq_getElem (show i < d.length by omega), List.getElem?_eq_getElem (show i < e.length by omega)]
theorem cov_any (n : Nat) (ar : List Arc) (a : Int) {i : Nat} (hi : i < n) (q : List Int) : inB ((coverL n ar q).getD i 0) 0 a = q.any fun s => reachP n ar a s.toNat i := by
  have aux : ∀ (q d : List Int), d.length = n → inB ((q.foldl (fun d s => mergeT d (distT n ar s.toNat)) d).getD i 0) 0 a = (inB (d.getD i 0) 0 a || q.any fun s => reachP n ar a s.toNat i) := by
    intro q
    induction q with
    | nil => intro d _; simp
    | cons s q ih =>
      intro d hd
      rw [List.foldl_cons, ih _ (mergeT_len hd (distT_len n ar _)), merge_get hd (distT_len n ar _) hi, inB_pick, List.any_cons, Bool.or_assoc]
      rfl
  unfold coverL
  rw [aux q _ (by simp)]
  have : inB ((List.replicate n (-1 : Int)).getD i 0) 0 a = false := by simp [List.getD, hi, inB]
  rw [this, Bool.false_or]
theorem reach_self {m : Nat} {l : List St} (hA : ∀ x ∈ arcs l, x.1 < m ∧ x.2.1 < m ∧ 0 < x.2.2) {a : Int} (ha : 0 ≤ a) {s : Nat} (hs : s < m) : reachP m (arcs l) a s s = true := by
  unfold reachP
  have h : (distT m (arcs l) s).getD s 0 = 0 := by
    rcases (dist_is hA hs).2 s hs with ⟨p, q⟩ | ⟨p, q⟩
    · exact absurd Way.here (q 0)
    · have := q.2 0 Way.here
      omega
  rw [h]
  unfold inB; simp; exact ha
theorem good_arcs {m : Nat} {l : List St} (h : goodTown m l = true) : ∀ x ∈ arcs l, x.1 < m ∧ x.2.1 < m ∧ 0 < x.2.2 := by
  have := arcs_good h
  rwa [Int.toNat_natCast] at this
theorem cov_true {m : Nat} {ar : List Arc} {a : Int} {q : List Int} {i : Nat} : (i : Int) ∈ covIdx (coverL m ar q) a true m ↔ i < m ∧ (q.any fun s => reachP m ar a s.toNat i) = true := by
  unfold covIdx
  rw [selI_mem]
  constructor
  · rintro ⟨j, hj, h1, h2⟩
    obtain rfl : i = j := by omega
    refine ⟨h1, ?_⟩
    rw [← cov_any m ar a h1 q]
    unfold covP at h2
    simpa using h2
  · rintro ⟨h1, h2⟩
    refine ⟨i, rfl, h1, ?_⟩
    unfold covP
    rw [cov_any m ar a h1 q, h2]; rfl
theorem cov_false {m : Nat} {ar : List Arc} {a : Int} {q : List Int} {i : Nat} : (i : Int) ∈ covIdx (coverL m ar q) a false m ↔ i < m ∧ (q.any fun s => reachP m ar a s.toNat i) = false := by
  unfold covIdx
  rw [selI_mem]
  constructor
  · rintro ⟨j, hj, h1, h2⟩
    obtain rfl : i = j := by omega
    refine ⟨h1, ?_⟩
    rw [← cov_any m ar a h1 q]
    unfold covP at h2
    simpa using h2
  · rintro ⟨h1, h2⟩
    refine ⟨i, rfl, h1, ?_⟩
    unfold covP
    rw [cov_any m ar a h1 q, h2]; rfl
theorem sel_sum (p : Nat → Bool) : ∀ k, (selI p k).length + (selI (fun i => !p i) k).length = k := by
  intro k
  induction k with
  | zero => rfl
  | succ k ih =>
    cases h : p k with
    | true => rw [selI_yes h, selI_no (p := fun i => !p i) (by simp [h]), List.length_append]; simp; omega
    | false => rw [selI_no h, selI_yes (p := fun i => !p i) (by simp [h]), List.length_append]; simp; omega
theorem cov_sum (d : List Int) (a : Int) (k : Nat) : (covIdx d a true k).length + (covIdx d a false k).length = k := by
  have h := sel_sum (covP d a true) k
  have e : covP d a false = fun i => !covP d a true i := by
    funext i
    unfold covP
    cases inB (d.getD i 0) 0 a <;> rfl
  unfold covIdx
  rw [e]; exact h
theorem let_open {m : Nat} {l : List St} {a : Int} {q : List Int} (hg : goodTown m l = true) (ha : 0 ≤ a) (hq : ∀ x ∈ q, 0 ≤ x ∧ x ≤ (m : Int) - 1) {i : Nat} (hi : i < m) : (letC (coverL m (arcs l) q) q a i = 45) ↔ (i : Int) ∈ covIdx (coverL m (arcs l) q) a false m := by
  rw [cov_false]
  unfold letC
  rw [cov_any m (arcs l) a hi q]
  by_cases hm : (i : Int) ∈ q
  · rw [if_pos hm]
    constructor
    · intro h; cases h
    · rintro ⟨_, h⟩
      have := List.any_eq_false.1 h _ hm
      rw [Int.toNat_natCast, reach_self (good_arcs hg) ha hi] at this
      exact absurd rfl this
  · rw [if_neg hm]
    cases h : q.any fun s => reachP m (arcs l) a s.toNat i with
    | true => simp
    | false => simp [hi]
/-! the fewest stations -/
theorem tryFrom_some {f : Nat → Option (List Int)} : ∀ (k i : Nat) (r : List Int), tryFrom f i k = some r → ∃ j r', i ≤ j ∧ j < i + k ∧ f j = some r' ∧ r = (j : Int) :: r' := by
  intro k
  induction k with
  | zero => intro i r h; simp [tryFrom] at h
  | succ k ih =>
    intro i r h
    unfold tryFrom at h
    cases hf : f i with
    | some r' =>
      rw [hf] at h
      simp at h
      exact ⟨i, r', Nat.le_refl _, by omega, hf, h.symm⟩
    | none =>
      rw [hf] at h
      obtain ⟨j, r', h1, h2, h3, h4⟩ := ih _ _ h
      exact ⟨j, r', by omega, by omega, h3, h4⟩
theorem implS_some (sets : List Nat) (all : Nat) : ∀ (left first cov : Nat) (r : List Int), implS sets all left first cov = some r → ∃ e : List Nat, r = e.map (fun n : Nat => (n : Int)) ∧ Sel sets.length first e ∧ e.length = left ∧ coverS sets cov e = all := by
  intro left
  induction left with
  | zero =>
    intro first cov r h
    unfold implS at h
    split at h
    · cases h; rename_i hc; exact ⟨[], rfl, trivial, rfl, hc⟩
    · cases h
  | succ left ih =>
    intro first cov r h
    unfold implS at h
    obtain ⟨j, r', h1, h2, h3, rfl⟩ := tryFrom_some _ _ _ h
    obtain ⟨e, rfl, q1, q2, q3⟩ := ih _ _ _ h3
    exact ⟨j :: e, rfl, ⟨h1, by omega, q1⟩, by simp [q2], q3⟩
theorem firstN_some {f : Nat → Option (List Int)} : ∀ (n k : Nat) (r : List Int), firstN f k n = some r → ∃ j, k ≤ j ∧ j < k + n ∧ f j = some r ∧ ∀ i, k ≤ i → i < j → f i = none := by
  intro n
  induction n with
  | zero => intro k r h; simp [firstN] at h
  | succ n ih =>
    intro k r h
    unfold firstN at h
    cases hf : f k with
    | some r' =>
      rw [hf] at h
      cases h
      exact ⟨k, Nat.le_refl _, by omega, hf, fun i h1 h2 => by omega⟩
    | none =>
      rw [hf] at h
      obtain ⟨j, h1, h2, h3, h4⟩ := ih _ _ h
      refine ⟨j, by omega, by omega, h3, fun i p1 p2 => ?_⟩
      rcases Nat.eq_or_lt_of_le p1 with e | e
      · rw [← e]; exact hf
      · exact h4 i e p2
theorem sel_facts {N : Nat} : ∀ {e : List Nat} {first : Nat}, Sel N first e → e.Pairwise (· < ·) ∧ ∀ x ∈ e, first ≤ x ∧ x < N := by
  intro e
  induction e with
  | nil => intro first _; exact ⟨List.Pairwise.nil, fun x hx => by cases hx⟩
  | cons i e ih =>
    intro first h
    obtain ⟨h1, h2, h3⟩ := h
    obtain ⟨q1, q2⟩ := ih h3
    refine ⟨List.Pairwise.cons (fun x hx => by have := (q2 x hx).1; omega) q1, fun x hx => ?_⟩
    rcases List.mem_cons.1 hx with rfl | hx
    · exact ⟨h1, h2⟩
    · have := q2 x hx; omega
theorem sel_of {N : Nat} : ∀ {e : List Nat} {first : Nat}, e.Pairwise (· < ·) → (∀ x ∈ e, first ≤ x ∧ x < N) → Sel N first e := by
  intro e
  induction e with
  | nil => intro _ _ _; trivial
  | cons i e ih =>
    intro first h hb
    obtain ⟨h1, h2⟩ := List.pairwise_cons.1 h
    have := hb i (by simp)
    exact ⟨this.1, this.2, ih h2 (fun x hx => ⟨by have := h1 x hx; omega, (hb x (by simp [hx])).2⟩)⟩
theorem coverS_bit {m : Nat} {ar : List Arc} {a : Int} {i : Nat} (hi : i < m) : ∀ (e : List Nat) (cov : Nat), (∀ x ∈ e, x < m) → (coverS (setsL m ar a) cov e).testBit i = (cov.testBit i || e.any fun s => reachP m ar a s i) := by
  intro e
  induction e with
  | nil => intro cov _; simp [coverS]
  | cons s e ih =>
    intro cov h
    have hs := h s (by simp)
    show (coverS (setsL m ar a) (cov ||| (setsL m ar a).getD s 0) e).testBit i = _
    rw [ih _ (fun x hx => h x (by simp [hx])), Nat.testBit_or, setsL_get hs, reachM_bit hi, List.any_cons, Bool.or_assoc]
theorem coverS_lt {m : Nat} {ar : List Arc} {a : Int} : ∀ (e : List Nat) (cov : Nat), cov < 2 ^ m → (∀ x ∈ e, x < m) → coverS (setsL m ar a) cov e < 2 ^ m := by
  intro e
  induction e with
  | nil => intro cov h _; exact h
  | cons s e ih =>
    intro cov h hb
    exact ih _ (Nat.or_lt_two_pow h (by rw [setsL_get (hb s (by simp))]; exact reachM_lt _ _ _ _)) (fun x hx => hb x (by simp [hx]))
theorem coverS_all {m : Nat} {ar : List Arc} {a : Int} {e : List Nat} (h : ∀ x ∈ e, x < m) : coverS (setsL m ar a) 0 e = 2 ^ m - 1 ↔ ∀ i, i < m → (e.any fun s => reachP m ar a s i) = true := by
  constructor
  · intro hc i hi
    have := coverS_bit (ar := ar) (a := a) hi e 0 h
    rw [hc, Nat.testBit_two_pow_sub_one, decide_eq_true hi] at this
    simpa using this.symm
  · intro hc
    refine Nat.eq_of_testBit_eq (fun i => ?_)
    rw [Nat.testBit_two_pow_sub_one]
    by_cases hi : i < m
    · rw [coverS_bit hi e 0 h, hc i hi, decide_eq_true hi]; simp
    · rw [decide_eq_false hi]
      exact Nat.testBit_lt_two_pow (Nat.lt_of_lt_of_le (coverS_lt e 0 (Nat.two_pow_pos m) h) (Nat.pow_le_pow_right (by omega) (by omega)))
theorem any_map_cast {m : Nat} {ar : List Arc} {a : Int} {i : Nat} (e : List Nat) : ((e.map fun n : Nat => (n : Int)).any fun s => reachP m ar a s.toNat i) = e.any fun s => reachP m ar a s i := by
  rw [List.any_map]; rfl
theorem apart_pair {m : Nat} {l : List St} {a : Int} : ∀ {k : Nat}, k ≤ m → (apartL m (arcs l) a k).Pairwise fun x y => x ≠ y ∧ ∀ r, r < m → ¬ (reachP m (arcs l) a r x.toNat = true ∧ reachP m (arcs l) a r y.toNat = true) := by
  intro k
  induction k with
  | zero => intro _; exact List.Pairwise.nil
  | succ k ih =>
    intro hk
    unfold apartL
    split
    · rename_i hp
      rw [List.pairwise_append]
      refine ⟨ih (by omega), by simp, fun x hx y hy => ?_⟩
      obtain rfl : y = (k : Int) := by simpa using hy
      obtain ⟨i, rfl, hi⟩ := apartL_mem hx
      refine ⟨by omega, fun r hr h => ?_⟩
      have h1 := List.all_eq_true.1 (List.all_eq_true.1 hp _ hx) r (List.mem_range.2 hr)
      rw [Int.toNat_natCast] at h1 h
      rw [Int.toNat_natCast] at h
      rw [h.1, h.2] at h1
      cases h1
    · exact ih (by omega)
/-- As many as can be told apart by what they are put to. -/
theorem pigeon {α β : Type} (R : α → β → Prop) : ∀ (xs : List α) (ys : List β), (∀ x ∈ xs, ∃ y ∈ ys, R x y) → xs.Pairwise (fun x x' => ∀ y, ¬ (R x y ∧ R x' y)) → xs.length ≤ ys.length := by
  classical
  intro xs
  induction xs with
  | nil => intro ys _ _; simp
  | cons x xs ih =>
    intro ys h hp
    obtain ⟨hp1, hp2⟩ := List.pairwise_cons.1 hp
    obtain ⟨y, hy, hxy⟩ := h x (by simp)
    obtain ⟨A, C, rfl⟩ := List.append_of_mem hy
    have := ih (A ++ C) (fun x' hx' => by
      obtain ⟨y', hy', hr⟩ := h x' (by simp [hx'])
      refine ⟨y', ?_, hr⟩
      rcases List.mem_append.1 hy' with h1 | h1
      · exact List.mem_append_left _ h1
      · rcases List.mem_cons.1 h1 with rfl | h1
        · exact absurd ⟨hxy, hr⟩ (hp1 x' hx' y')
        · exact List.mem_append_right _ h1) hp2
    simp at this ⊢; omega
theorem drop_cast (e : List Nat) (i : Nat) : dropI (e.map fun n : Nat => (n : Int)) i = (e.take i ++ e.drop (i + 1)).map fun n : Nat => (n : Int) := by
  unfold dropI; rw [List.map_append, List.map_take, List.map_drop]
theorem lost_pos {m : Nat} {l : List St} {a : Int} {e : List Nat} (hm : 1 ≤ m) (hs : Sel m 0 e) (hall : ∀ i, i < m → (e.any fun s => reachP m (arcs l) a s i) = true) (hno : ∀ j, j < e.length → implS (setsL m (arcs l) a) (2 ^ m - 1) j 0 0 = none) {i : Nat} (hi : i < e.length) :
    needP m l (e.map fun n : Nat => (n : Int)) a i = true := by
  obtain ⟨hp, hb⟩ := sel_facts hs
  unfold needP
  refine decide_eq_true (Nat.pos_of_ne_zero (fun h0 => ?_))
  have hnil := List.eq_nil_of_length_eq_zero h0
  unfold lostL at hnil
  rw [List.filter_eq_nil_iff] at hnil
  have hsub : (e.take i ++ e.drop (i + 1)).Sublist e := by
    conv => rhs; rw [← List.take_append_drop i e]
    refine (List.Sublist.refl _).append ?_
    rw [← List.drop_drop]
    exact List.drop_sublist _ _
  have hb' : ∀ x ∈ e.take i ++ e.drop (i + 1), x < m := fun x hx => (hb x (hsub.subset hx)).2
  have hcov : ∀ j, j < m → ((e.take i ++ e.drop (i + 1)).any fun s => reachP m (arcs l) a s j) = true := fun j hj => by
    have h1 : (j : Int) ∈ covL m l (e.map fun n : Nat => (n : Int)) a := cov_true.2 ⟨hj, by rw [any_map_cast]; exact hall j hj⟩
    have h2 := hnil _ h1
    unfold notIn at h2
    have h3 : (j : Int) ∈ covL m l (dropI (e.map fun n : Nat => (n : Int)) i) a := by simpa using h2
    have h4 := (cov_true.1 h3).2
    rw [drop_cast, any_map_cast] at h4
    exact h4
  have hl : (e.take i ++ e.drop (i + 1)).length = e.length - 1 := by rw [List.length_append, List.length_take, List.length_drop]; omega
  refine implS_none _ _ _ _ _ (hno (e.length - 1) (by omega)) _ ?_ hl ((coverS_all hb').2 hcov)
  rw [setsL_len]
  exact sel_of (hp.sublist hsub) (fun x hx => hb x (hsub.subset hx))
theorem sel_full {p : Nat → Bool} : ∀ {k : Nat}, (∀ i, i < k → p i = true) → (selI p k).length = k := by
  intro k
  induction k with
  | zero => intro _; rfl
  | succ k ih =>
    intro h
    rw [selI_yes (h k (by omega)), List.length_append, ih (fun i hi => h i (by omega))]; rfl
/-- All that is said of the fewest stations. -/
theorem fewest_is {m : Nat} {l : List St} {a : Int} {r : List Int} (h : fewestStationsV m l a = (r, true)) :
    goodTown m l = true ∧ inB a 0 36000 = true ∧ askC m l r a = true ∧ covIdx (coverL m (arcs l) r) a false m = [] ∧ (apartL m (arcs l) a m).length ≤ r.length ∧ r.length ≤ 6 ∧ (selI (needP m l r a) r.length).length = r.length := by
  unfold fewestStationsV at h
  split at h
  · rename_i hk
    simp only [Bool.and_eq_true] at hk
    obtain ⟨hg, ha⟩ := hk
    obtain ⟨ha0, ha1⟩ := inB_true ha
    have hm := (goodTown_true hg).1
    have hA := good_arcs hg
    rw [Int.toNat_natCast] at h
    unfold fewestStationsW at h
    cases hf : firstN (fun j => implS (setsL m (arcs l) a) (2 ^ m - 1) j 0 0) 1 6 with
    | none => rw [hf] at h; cases h
    | some r' =>
      rw [hf] at h
      simp only [optL, Prod.mk.injEq, and_true] at h
      subst h
      obtain ⟨j, h1, h2, h3, h4⟩ := firstN_some _ _ _ hf
      obtain ⟨e, rfl, hs, hl, hc⟩ := implS_some _ _ _ _ _ _ h3
      rw [setsL_len] at hs
      obtain ⟨hp, hb⟩ := sel_facts hs
      have hall := (coverS_all (fun x hx => (hb x hx).2)).1 hc
      have hno : ∀ i, i < e.length → implS (setsL m (arcs l) a) (2 ^ m - 1) i 0 0 = none := fun i hi => by
        rcases Nat.eq_zero_or_pos i with rfl | h0
        · unfold implS
          rw [if_neg]
          have : 2 ^ 1 ≤ 2 ^ m := Nat.pow_le_pow_right (by omega) (by omega)
          omega
        · exact h4 i h0 (by omega)
      have hrl : (e.map fun n : Nat => (n : Int)).length = e.length := by simp
      refine ⟨hg, ha, ?_, ?_, ?_, by rw [hrl]; omega, ?_⟩
      · unfold askC goodSta
        rw [hg, ha, sta_of (q := e.map fun n : Nat => (n : Int)) ?_ ?_]
        · simp; omega
        · rw [List.pairwise_map]
          exact hp.imp (fun h => by omega)
        · intro x hx
          obtain ⟨y, hy, rfl⟩ := List.mem_map.1 hx
          have := hb y hy
          omega
      · refine List.eq_nil_iff_forall_not_mem.2 (fun x hx => ?_)
        obtain ⟨i, rfl, hi, _⟩ := selI_mem.1 hx
        have := (cov_false.1 hx).2
        rw [any_map_cast, hall i hi] at this
        cases this
      · rw [hrl]
        refine pigeon (fun (x : Int) (s : Nat) => s < m ∧ reachP m (arcs l) a s x.toNat = true) _ _ (fun x hx => ?_) ?_
        · obtain ⟨i, rfl, hi⟩ := apartL_mem hx
          obtain ⟨s, hs1, hs2⟩ := List.any_eq_true.1 (hall i hi)
          exact ⟨s, hs1, (hb s hs1).2, by rw [Int.toNat_natCast]; exact hs2⟩
        · exact (apart_pair (Nat.le_refl m)).imp (fun {x y} hxy s hh => hxy.2 s hh.1.1 ⟨hh.1.2, hh.2.2⟩)
      · exact sel_full (fun i hi => lost_pos (by omega) hs hall hno (by rw [hrl] at hi; exact hi))
  · cases h
end Go.Proofs.Ytahehdgkbhjpoaa

namespace Go.Proofs.Ytahehdgkbhjpoaa
set_option linter.unusedVariables false
set_option linter.unusedSimpArgs false
open Go.RowKit

theorem gro_mark {a b c : World} {g : Nat} {r : Option Nat} (h : a.grownBy b (some g)) (k : b.grownBy c r) (hr : ∀ q, r = some q → a.heap.size ≤ q) : a.grownBy c (some g) :=
  ⟨k.os.trans h.os, k.tape.trans h.tape, k.output.trans h.output, Nat.le_trans h.size k.size, fun i hi hne => (k.block i (Nat.lt_of_lt_of_le hi h.size) (fun e => by have := hr i e.symm; omega)).trans (h.block i hi hne)⟩
theorem kept4 {a b : World} {base : Nat} {e : TypeId} {sz : Nat} {v : Value} {r : Option Nat} {n : Nat} {xs : List Value} (h : a.ownsRow base e sz v n xs) (g : a.grownBy b r) (sep : ∀ q q', v.ownBlock = some q → r = some q' → q ≠ q') : b.ownsRow base e sz v n xs :=
  h.kept g (by
    cases hv : v.ownBlock with
    | none => exact .inl rfl
    | some q => exact .inr (fun hq => sep q q hv hq.symm rfl))

set_option maxRecDepth 100000 in
set_option maxHeartbeats 1000000 in
theorem apartNodesI_c (n : Int) (s : Value) (l : List St) (a : Int) (w : World) (hr : Rd w s l.length (l.flatMap St.cells)) :
    Calls Try.prog 20 #[.agg #[.int .i64 n, s], .int .i64 a] w (OwnIB (apartNodesV n l a) w) := by
  have HR := Lib.hid hr
  have hbx : ∀ o, Below w.heap.size w (w.alloc o) := fun o => bel_al (Below.refl _ _) o
  obtain ⟨As, cs, rfl, _⟩ := hr
  by_cases hg : goodTown n l = true
  · by_cases hl : inB a 0 36000 = true
    · obtain ⟨m, rfl⟩ := nat_of (goodTown_true hg).1
      have HF : Hid (apartNodesV m l a = apartNodesW m l a) := Lib.hid (by unfold apartNodesV; rw [hg, hl, Int.toNat_natCast]; rfl)
      obtain ⟨hm1, hm2, _, _⟩ := goodTown_true hg
      obtain ⟨hlim0, hlim1⟩ := inB_true hl
      have HG := Lib.hid hg
      have HL := Lib.hid hl
      clear hg hl
      go_enter Try.func20, Try.ntmps20
      go_wp2_with fail
      generalize hw1 : World.alloc w _ = w1
      have k0 : w1.cell? ⟨w.heap.size, 0, none⟩ = some (.int .i64 m) := by subst hw1; simp [go_sem]
      have k1 : w1.cell? ⟨w.heap.size, 1, none⟩ = some (.slice As l.length cs) := by subst hw1; simp [go_sem]
      have hb1 : Below w.heap.size w w1 := by subst hw1; exact hbx _
      have hz : w.heap.size < w1.heap.size := by subst hw1; simp
      clear hw1 hbx
      refine (isTown_c m _ l _ _ k0 k1 (rd_below HR.out hb1)).mono ?_; rw [HG.out]; rintro e w2 ⟨rfl, hb2⟩
      have hz2 : w.heap.size < w2.heap.size := Nat.lt_of_lt_of_le hz hb2.size
      have z0 := (hb2.cell (p := ⟨w.heap.size, 0, none⟩) hz).trans k0
      have z1 := (hb2.cell (p := ⟨w.heap.size, 1, none⟩) hz).trans k1
      have HB := Lib.hid (bel_then hb1 hb2)
      have HR2 := Lib.hid (rd_below HR.out (bel_then hb1 hb2))
      clear k0 k1 hb1 hb2 hz
      go_wp2_with fail
      refine (isLimit_c a _).mono ?_; rw [HL.out]; rintro e w2 ⟨rfl, rfl⟩
      obtain ⟨i0, hi0, hz0, hz1, hz2'⟩ := info_parts Try.infoInt
      obtain ⟨ib, hib, hbz0, hbz1, hbz2⟩ := info_parts Try.infoBool
      have hA := arcs_good HG.out
      rw [Int.toNat_natCast] at hA
      have HA := Lib.hid hA
      have eg : ∀ args w, (callFunc 74 args).run Try.prog w = .ok (.enter 74 args) w := enters_of Try.func74 (by kernel_rfl) rfl
      have EG := Lib.hid eg
      clear hA eg
      go_wp2_with (at_make; refine wpList_make_full _ rfl _ _ 84 rfl w2.heap.size 4 ib _ 1 Try.underlying84 hib hbz0 hbz1 _ _ _ _ m rfl rfl rfl rfl (by rw [hbz2]; omega) (by rw [maxLen_eq]; omega) (Nat.le_refl _) ?_; intro w3 hown3 hg3; rw [made_bools] at hown3; have b0 := ((bel_grown (Below.refl _ _) hg3 (fun k h => by cases h) : Below w2.heap.size w2 w3).cell (p := ⟨w.heap.size, 0, none⟩) hz2).trans z0; have b1 := ((bel_grown (Below.refl _ _) hg3 (fun k h => by cases h) : Below w2.heap.size w2 w3).cell (p := ⟨w.heap.size, 1, none⟩) hz2).trans z1; have HB3 : Hid (Below w2.heap.size w2 w3) := Lib.hid (bel_grown (Below.refl _ _) hg3 (fun k h => by cases h)); have hz3 : w.heap.size < w3.heap.size := Nat.lt_of_lt_of_le hz2 HB3.out.size; have HO3 := Lib.hid hown3; clear hown3 hg3)
      clear z0 z1
      generalize hW4 : World.alloc w3 _ = w4
      obtain ⟨gt, hgt⟩ : ∃ gt, gt = w2.heap.size := ⟨_, rfl⟩
      have hgt3 : gt < w3.heap.size := by have := (HO3.out.lt w2.heap.size rfl).2; omega
      have hs3 := HB3.out.size
      have cb : w4.cell? ⟨w3.heap.size, 0, none⟩ = some (.slice (some ⟨w2.heap.size, 0, none⟩) m m) := by subst hW4; simp [go_sem]
      have hz4 : w3.heap.size < w4.heap.size := by subst hW4; simp
      have HB4 : Hid (Below w2.heap.size w2 w4) := Lib.hid (by subst hW4; exact bel_al HB3.out _)
      have HT4 : Hid (w4.ownsRow w2.heap.size 4 1 (.slice (some ⟨w2.heap.size, 0, none⟩) m m) m (boolsV (List.replicate m false))) := Lib.hid (by subst hW4; exact HO3.out.alloc _)
      have b0' : w4.cell? ⟨w.heap.size, 0, none⟩ = some (.int .i64 m) := by subst hW4; exact (World.cell?_alloc_lt _ _ _ (by show w.heap.size < _; omega)).trans b0
      have b1' : w4.cell? ⟨w.heap.size, 1, none⟩ = some (.slice As l.length cs) := by subst hW4; exact (World.cell?_alloc_lt _ _ _ (by show w.heap.size < _; omega)).trans b1
      rw [← hgt] at cb HT4 ⊢
      have HRT := Lib.hid (rd_below HR2.out HB4.out)
      have HBW4 : Hid (Below w.heap.size w w4) := Lib.hid (bel_then HB.out HB4.out)
      clear hW4 b0 b1 HO3 HB3
      have hwgt : w.heap.size < gt := by omega
      clear hgt
      go_loopw [6, 26] (fun v6 v26 wr => ∃ (k : Nat) (L : List Int) (tk : List Bool), k ≤ m ∧ v26 = .int .i64 k ∧ L.length ≤ k ∧ Hid (apartL m (arcs l) a k = L) ∧ Hid (Taken m (arcs l) a L tk) ∧ Hid (wr.ownsRow w4.heap.size 3 1 v6 L.length (ints L)) ∧ Hid (wr.ownsRow gt 4 1 (.slice (some ⟨gt, 0, none⟩) m m) m (boolsV tk)) ∧ Hid (w4.grownBy wr (some gt))) (fun _ v26 _ => m - (intOf v26).toNat)
      case atStart => exact ⟨0, [], _, Nat.zero_le _, rfl, by simp, Lib.hid rfl, Lib.hid (taken_start _ _ _), Lib.hid (World.ownsRow_nil _ _ _ _), HT4, Lib.hid (World.grownBy.refl _ _)⟩
      case round =>
        obtain ⟨k, L, tk, hk, rfl, hLk, HL', HTK, HOL, HOT, HGR⟩ := hrel
        obtain ⟨wA, rfl⟩ : ∃ wA : World, wA = wr := ⟨_, rfl⟩
        have hsA := HGR.out.size
        by_cases hlt : k < m
        · have d0 := (gro_cell HGR.out (o := 0) (x := w.heap.size) (by omega) (by omega)).trans b0'
          have d1 := (gro_cell HGR.out (o := 1) (x := w.heap.size) (by omega) (by omega)).trans b1'
          have hBA : Below gt w4 wA := ⟨HGR.out.os, HGR.out.tape, HGR.out.output, HGR.out.size, fun i hi => HGR.out.block i (by omega) (by intro e; have := Option.some.inj e; omega)⟩
          have HRA : Hid (Rd wA (.slice As l.length cs) l.length (l.flatMap St.cells)) := Lib.hid (by
            have h := HR.out
            exact rd_below h (bel_mark HBW4.out HBW4.out.size HGR.out (fun q e => by have := Option.some.inj e; omega)))
          clear hBA
          go_wp2_with fail
          refine (timesI_c m _ l _ k _ HG.out hlt d0 d1 HRA.out).mono ?_
          rintro e w5 ⟨v5, rfl, ho5, hb5⟩
          rw [distT_len] at ho5
          obtain ⟨h, cap5, rfl, hbh, hhl, hcap5, hcm5⟩ := own_shape ho5 (by omega)
          have hs5 := hb5.size
          have HO5 := Lib.hid ho5
          have HGR5 : Hid (w4.grownBy w5 (some gt)) := Lib.hid (gro_bel HGR.out hb5)
          have HOL5 := Lib.hid (own_below HOL.out hb5)
          have HOT5 := Lib.hid (own_below HOT.out hb5)
          have IL := Lib.hid (own_below HOL.out hb5).lt
          have ILA := Lib.hid HOL.out.lt
          clear ho5 hb5 d0 d1 HRA
          go_wp2_with fail
          go_loopw [9, 32] (fun v9 v32 wr2 => ∃ (j : Nat) (M : List Int), j ≤ m ∧ v32 = .int .i64 j ∧ M.length ≤ j ∧ Hid (selI (reachP m (arcs l) a k) j = M) ∧ Hid (wr2.ownsRow w5.heap.size 3 1 v9 M.length (ints M)) ∧ Hid (Below w5.heap.size w5 wr2)) (fun _ v32 _ => m - (intOf v32).toNat)
          case atStart => exact ⟨0, [], Nat.zero_le _, rfl, by simp, Lib.hid rfl, Lib.hid (World.ownsRow_nil _ _ _ _), Lib.hid (Below.refl _ _)⟩
          case round =>
            obtain ⟨j, M, hj, rfl, hMj, HM, HOM, HBM⟩ := hrel
            obtain ⟨wB, rfl⟩ : ∃ wB : World, wB = wr := ⟨_, rfl⟩
            have hsB := HBM.out.size
            by_cases hjm : j < m
            · have ce := (HBM.out.cell (p := ⟨h, j, none⟩) hhl).trans (own_cell HO5.out hjm)
              obtain ⟨x, hx⟩ : ∃ x, (distT m (arcs l) k).getD j 0 = x := ⟨_, rfl⟩
              rw [hx] at ce
              have HX := Lib.hid hx
              clear hx
              go_wp2_with fail
              refine (inside_c _ _ _ _).mono ?_; rintro e w' ⟨rfl, rfl⟩
              by_cases hin : inB x 0 a = true
              · rw [hin]
                have HM' : Hid (selI (reachP m (arcs l) a k) (j + 1) = M ++ [(j : Int)]) := Lib.hid (by rw [selI_yes (by unfold reachP; rw [HX.out]; exact hin), HM.out])
                clear hin
                go_wp2_with (at_builtin; refine wpList_app_rd _ rfl _ _ 27 rfl w5.heap.size 3 i0 (.int .i64 0) 1 8 Try.underlying27 hi0 hz0 hz1 hz2' rfl (by decide) _ _ _ rfl (HOM.out.alloc _) _ 1 [.int .i64 j] rfl (rd_new _ rfl (Nat.le_refl _) (by rw [maxLen_eq]; omega)) rfl (ints_one [(j : Int)]) (by rw [maxLen_eq]; omega) (by omega) (by have := HBM.out.size; simp; omega) ?_; intro v' w7 hown' hgrow hat)
                refine ⟨⟨j + 1, M ++ [(j : Int)], by omega, by go_num, by rw [List.length_append]; simp; omega, HM', Lib.hid ?_, Lib.hid (bel_grown (bel_al HBM.out _) hgrow (fun q e => (HOM.out.lt q e).1))⟩, by simp [intOf]; omega⟩
                rw [ints_append, List.length_append]; exact hown'
              · have hin' : inB x 0 a = false := by simpa using hin
                rw [hin']
                have HM' : Hid (selI (reachP m (arcs l) a k) (j + 1) = M) := Lib.hid (by rw [selI_no (by unfold reachP; rw [HX.out]; exact hin'), HM.out])
                clear hin hin'
                go_wp2
                exact ⟨⟨j + 1, M, by omega, by go_num, by omega, HM', HOM, HBM⟩, by simp [intOf]; omega⟩
            · obtain rfl : j = m := by omega
              rename_i v9 _
              have HOTB := Lib.hid (own_below HOT5.out HBM.out)
              have HOLB := Lib.hid (own_below HOL5.out HBM.out)
              have HGRB : Hid (w4.grownBy wB (some gt)) := Lib.hid (gro_bel HGR5.out HBM.out)
              have cbB := (gro_cell HGRB.out (o := 0) (x := w3.heap.size) hz4 (by omega)).trans cb
              have hMM : M = nearL j (arcs l) a k := HM.out.symm
              have HMM := Lib.hid hMM
              have hmem : ∀ x ∈ M, ∃ i : Nat, x = (i : Int) ∧ i < j := fun x hx => by
                rw [hMM] at hx
                obtain ⟨i, h1, h2, _⟩ := selI_mem.1 hx
                exact ⟨i, h1, h2⟩
              have HMEM := Lib.hid hmem
              have hsays : Says 74 #[.pointer (some ⟨w3.heap.size, 0, none⟩)] (tkP tk) M wB := fun x hx => by
                obtain ⟨i, rfl, hi⟩ := hmem x hx
                have h := apartF_c i gt j j w3.heap.size _ tk wB cbB HOTB.out hi (by omega)
                unfold tkP
                rw [Int.toNat_natCast]; exact h
              have HSAY := Lib.hid hsays
              have hany := apart_iff HA.out (a := a) (out := L) (tk := tk) hlt (fun x hx => by rw [← HL'.out] at hx; obtain ⟨i, h1, h2⟩ := apartL_mem hx; exact ⟨i, h1, by omega⟩) HTK.out
              rw [← hMM] at hany
              have HANY := Lib.hid hany
              have IM := Lib.hid HOM.out.lt
              obtain ⟨AM, cM, hxM, hcM, hmM, _⟩ := own_rd HOM.out
              subst hxM
              rw [maxLen_eq] at hmM
              clear hMM hmem hsays hany
              go_wp2_with fail
              refine (containsFunc_c 74 _ EG.out (tkP tk) _ M _ HSAY.out (rdi_own HOM.out)).mono ?_; rintro e w' ⟨rfl, rfl⟩
              rw [HANY.out]
              by_cases hap : apartP j (arcs l) a L k = true
              · rw [hap]
                have HL2 : Hid (apartL j (arcs l) a (k + 1) = L ++ [(k : Int)]) := Lib.hid (by
                  show (if apartP j (arcs l) a (apartL j (arcs l) a k) k = true then apartL j (arcs l) a k ++ [(k : Int)] else apartL j (arcs l) a k) = _
                  rw [HL'.out, if_pos hap])
                clear hap
                go_wp2_with (at_builtin; refine wpList_app_rd _ rfl _ _ 27 rfl w4.heap.size 3 i0 (.int .i64 0) 1 8 Try.underlying27 hi0 hz0 hz1 hz2' rfl (by decide) _ _ _ rfl (HOLB.out.alloc _) _ 1 [.int .i64 k] rfl (rd_new _ rfl (Nat.le_refl _) (by rw [maxLen_eq]; omega)) rfl (ints_one [(k : Int)]) (by rw [maxLen_eq]; omega) (by omega) (by simp; omega) ?_; intro v' w7 hown' hgrow hat)
                have hs7 := hgrow.size
                have HB7 := Lib.hid hgrow
                have IL7 := Lib.hid hown'.lt
                have HOL7 : Hid (w7.ownsRow w4.heap.size 3 1 v' (L ++ [(k : Int)]).length (ints (L ++ [(k : Int)]))) := Lib.hid (by rw [ints_append, List.length_append]; exact hown')
                have HOT7 : Hid (w7.ownsRow gt 4 1 (.slice (some ⟨gt, 0, none⟩) j j) j (boolsV tk)) := Lib.hid (kept4 (HOTB.out.alloc _) hgrow (fun q q' e e' => by have h1 : gt = q := Option.some.inj e; have := (IL.out q' e').1; omega))
                have HON7 : Hid (w7.ownsRow w5.heap.size 3 1 (.slice AM M.length cM) M.length (ints M)) := Lib.hid (kept4 (HOM.out.alloc _) hgrow (fun q q' e e' => by have := (IM.out q e).1; have := (IL.out q' e').2; omega))
                have HGR7 : Hid (w4.grownBy w7 (some gt)) := Lib.hid (gro_mark (gro_al HGRB.out _) hgrow (fun q e => (IL.out q e).1))
                have hsz7 : w5.heap.size ≤ w7.heap.size := by simp at hs7; omega
                obtain ⟨AM', cM', hxM', hcM', hmM', hrM⟩ := own_rd HON7.out
                have HRM := Lib.hid hrM
                injection hxM' with hx1 hx2 hx3
                clear hx2
                subst hx1; subst hx3
                have cb7 := (gro_cell HGR7.out (o := 0) (x := w3.heap.size) hz4 (by omega)).trans cb
                have IN := Lib.hid HON7.out.lt
                have hlm : M.length ≤ 14 := by omega
                clear hown' hgrow hat hrM hs7 hmM' hcM'
                go_wp2_with fail
                go_loopw [54] (fun v54 wr2 => ∃ (i : Nat) (d : List Bool), i ≤ M.length ∧ v54 = .int .i64 i ∧ Hid (TakeInv j tk d M i) ∧ Hid (wr2.ownsRow gt 4 1 (.slice (some ⟨gt, 0, none⟩) j j) j (boolsV d)) ∧ Hid (w7.grownBy wr2 (some gt))) (fun v54 _ => M.length - (intOf v54).toNat)
                case atStart => exact ⟨0, tk, Nat.zero_le _, rfl, Lib.hid ⟨HTK.out.1, fun r hr => by simp⟩, HOT7, Lib.hid (World.grownBy.refl _ _)⟩
                case round =>
                  obtain ⟨i, d, hi, rfl, HTI, HOD, HGD⟩ := hrel
                  obtain ⟨wD, rfl⟩ : ∃ wD : World, wD = wr := ⟨_, rfl⟩
                  have hsD := HGD.out.size
                  by_cases hil : i < M.length
                  · obtain ⟨bb, off, rfl, hbl, hcell⟩ := HRM.out (by omega)
                    obtain ⟨x, hx⟩ : ∃ x, M[i]? = some x := ⟨_, List.getElem?_eq_getElem hil⟩
                    obtain ⟨t, rfl, htm⟩ := HMEM.out x (List.mem_of_getElem? hx)
                    have hbb : bb ≠ gt := by have := (IN.out bb rfl).1; omega
                    have cx := (gro_cell HGD.out hbl hbb).trans (hcell _ _ (ints_get hx))
                    have cbD := (gro_cell HGD.out (o := 0) (x := w3.heap.size) (by omega) (by omega)).trans cb7
                    have ct := ownB_cell HOD.out htm
                    have ft := HOD.out.frozenAt t
                    have HX := Lib.hid hx
                    have t0 : (0 : Int) ≤ (t : Int) := by omega
                    have t1 : (t : Int) < (j : Int) := by omega
                    clear hx hcell
                    go_wp2
                    exact ⟨⟨i + 1, _, by omega, by go_num, Lib.hid (take_step HTI.out HX.out htm), Lib.hid (ownB_set HOD.out t true), Lib.hid (only_setCell HGD.out t _)⟩, by simp [intOf]; omega⟩
                  · obtain rfl : i = M.length := by omega
                    have HTK' : Hid (Taken j (arcs l) a (L ++ [(k : Int)]) d) := Lib.hid (take_end HTK.out (by rw [← HMM.out]; exact HTI.out))
                    have HOL8 := Lib.hid (kept4 HOL7.out HGD.out (fun q q' e e' => by have h1 : gt = q' := Option.some.inj e'; have := (IL7.out q e).1; omega))
                    go_wp2
                    exact ⟨⟨k + 1, L ++ [(k : Int)], d, by omega, by go_num, by rw [List.length_append]; simp; omega, HL2, HTK', HOL8, HOD, Lib.hid (gro_trans HGR7.out HGD.out)⟩, by simp [intOf]; omega⟩
              · have hap' : apartP j (arcs l) a L k = false := by simpa using hap
                rw [hap']
                have HL2 : Hid (apartL j (arcs l) a (k + 1) = L) := Lib.hid (by
                  show (if apartP j (arcs l) a (apartL j (arcs l) a k) k = true then apartL j (arcs l) a k ++ [(k : Int)] else apartL j (arcs l) a k) = _
                  rw [HL'.out, if_neg hap])
                clear hap hap'
                go_wp2
                exact ⟨⟨k + 1, L, tk, by omega, by go_num, by omega, HL2, HTK, HOLB, HOTB, HGRB⟩, by simp [intOf]; omega⟩
        · obtain rfl : k = m := by omega
          have HW : Hid (apartNodesW k l a = (L, true)) := Lib.hid (by unfold apartNodesW; rw [HL'.out])
          go_wp2
          go_ret2
          rw [HF.out, HW.out]
          refine ⟨_, rfl, ?_, bel_mark HBW4.out HBW4.out.size HGR.out (fun q e => by have := Option.some.inj e; omega)⟩
          exact own_base HOL.out HBW4.out.size
    · have hl : inB a 0 36000 = false := by simpa using hl
      have HF : Hid (apartNodesV n l a = ([], false)) := Lib.hid (by unfold apartNodesV; rw [hl, Bool.and_false]; rfl)
      have HG := Lib.hid hg
      have HL := Lib.hid hl
      clear hg hl
      go_enter Try.func20, Try.ntmps20
      go_wp2_with fail
      refine (isTown_c n _ l _ _ (by simp [go_sem]) (by simp [go_sem]) (rd_below HR.out (hbx _))).mono ?_; rw [HG.out]; rintro e w2 ⟨rfl, hb2⟩
      go_wp2_with fail
      refine (isLimit_c a _).mono ?_; rw [HL.out]; rintro e w2 ⟨rfl, rfl⟩
      go_wp2
      go_ret2
      rw [HF.out]
      exact ⟨_, rfl, World.ownsRow_nil _ _ _ _, bel_then (hbx _) hb2⟩
  · have hg : goodTown n l = false := by simpa using hg
    have HF : Hid (apartNodesV n l a = ([], false)) := Lib.hid (by unfold apartNodesV; rw [hg]; rfl)
    have HG := Lib.hid hg
    clear hg
    go_enter Try.func20, Try.ntmps20
    go_wp2_with fail
    refine (isTown_c n _ l _ _ (by simp [go_sem]) (by simp [go_sem]) (rd_below HR.out (hbx _))).mono ?_; rw [HG.out]; rintro e w2 ⟨rfl, hb2⟩
    go_wp2
    go_ret2
    rw [HF.out]
    exact ⟨_, rfl, World.ownsRow_nil _ _ _ _, bel_then (hbx _) hb2⟩
end Go.Proofs.Ytahehdgkbhjpoaa

namespace Go.Proofs.Ytahehdgkbhjpoaa
set_option linter.unusedVariables false
set_option linter.unusedSimpArgs false
open Go.RowKit

def pairP (m : Nat) (ar : List Arc) (a : Int) (k t r : Nat) : Bool := !(reachP m ar a r k && reachP m ar a r t)
theorem apart_take {m : Nat} {ar : List Arc} {a : Int} {L : List Int} {k i t : Nat} {b : Bool} (h : apartP m ar a (L.take i) k = b) (hx : L[i]? = some (t : Int)) : apartP m ar a (L.take (i + 1)) k = (b && (List.range m).all (pairP m ar a k t)) := by
  unfold apartP at h ⊢
  rw [take_succ_of hx, List.all_append, h, List.all_cons, List.all_nil, Bool.and_true, Int.toNat_natCast]
  rfl
theorem range_all_succ (p : Nat → Bool) (r : Nat) : (List.range (r + 1)).all p = ((List.range r).all p && p r) := by rw [List.range_succ, List.all_append]; simp

set_option maxRecDepth 100000 in
set_option maxHeartbeats 1000000 in
theorem apartNodesS_c (n : Int) (s : Value) (l : List St) (a : Int) (w : World) (hr : Rd w s l.length (l.flatMap St.cells)) :
    Calls Try.prog 21 #[.agg #[.int .i64 n, s], .int .i64 a] w (OwnIB (apartNodesV n l a) w) := by
  have HR := Lib.hid hr
  have hbx : ∀ o, Below w.heap.size w (w.alloc o) := fun o => bel_al (Below.refl _ _) o
  obtain ⟨As, cs, rfl, _⟩ := hr
  by_cases hg : goodTown n l = true
  · by_cases hl : inB a 0 36000 = true
    · obtain ⟨m, rfl⟩ := nat_of (goodTown_true hg).1
      have HF : Hid (apartNodesV m l a = apartNodesW m l a) := Lib.hid (by unfold apartNodesV; rw [hg, hl, Int.toNat_natCast]; rfl)
      obtain ⟨hm1, hm2, _, _⟩ := goodTown_true hg
      obtain ⟨hlim0, hlim1⟩ := inB_true hl
      have HG := Lib.hid hg
      have HL := Lib.hid hl
      clear hg hl
      go_enter Try.func21, Try.ntmps21
      go_wp2_with fail
      generalize hw1 : World.alloc w _ = w1
      have k0 : w1.cell? ⟨w.heap.size, 0, none⟩ = some (.int .i64 m) := by subst hw1; simp [go_sem]
      have k1 : w1.cell? ⟨w.heap.size, 1, none⟩ = some (.slice As l.length cs) := by subst hw1; simp [go_sem]
      have hb1 : Below w.heap.size w w1 := by subst hw1; exact hbx _
      have hz : w.heap.size < w1.heap.size := by subst hw1; simp
      clear hw1 hbx
      refine (toGood_c m _ l _ (rd_below HR.out hb1)).mono ?_; rw [HG.out]; rintro e w2 ⟨rfl, hb2⟩
      have hz2 : w.heap.size < w2.heap.size := Nat.lt_of_lt_of_le hz hb2.size
      have z0 := (hb2.cell (p := ⟨w.heap.size, 0, none⟩) hz).trans k0
      have z1 := (hb2.cell (p := ⟨w.heap.size, 1, none⟩) hz).trans k1
      have HB := Lib.hid (bel_then hb1 hb2)
      have HR2 := Lib.hid (rd_below HR.out (bel_then hb1 hb2))
      clear k0 k1 hb1 hb2 hz
      go_wp2_with fail
      refine (dsLimit_c a _).mono ?_; rw [HL.out]; rintro e w2 ⟨rfl, rfl⟩
      obtain ⟨i0, hi0, hz0, hz1, hz2'⟩ := info_parts Try.infoInt
      go_wp2_with fail
      refine (cvReach_c m _ l a _ HG.out HR2.out).mono ?_; rintro e w4 ⟨xr, rfl, hor, hb4⟩
      rw [reachL_len] at hor
      obtain ⟨gr, capr, rfl, hbr, hrl, hcapr, _⟩ := own_shape hor (by omega)
      have HBB := Lib.hid (bel_then HB.out hb4)
      have HOR := Lib.hid hor
      clear hor hb4 z0 z1
      go_wp2_with fail
      go_loopw [7, 27] (fun v7 v27 wr => ∃ (k : Nat) (L : List Int), k ≤ m ∧ v27 = .int .i64 k ∧ L.length ≤ k ∧ Hid (apartL m (arcs l) a k = L) ∧ Hid (wr.ownsRow w4.heap.size 3 1 v7 L.length (ints L)) ∧ Hid (Below w4.heap.size w4 wr)) (fun _ v27 _ => m - (intOf v27).toNat)
      case atStart => exact ⟨0, [], Nat.zero_le _, rfl, by simp, Lib.hid rfl, Lib.hid (World.ownsRow_nil _ _ _ _), Lib.hid (Below.refl _ _)⟩
      case round =>
        obtain ⟨k, L, hk, rfl, hLk, HL', HOL, HBL⟩ := hrel
        obtain ⟨wA, rfl⟩ : ∃ wA : World, wA = wr := ⟨_, rfl⟩
        by_cases hlt : k < m
        · obtain ⟨AL, cL, hxL, hcL, hmL, hrL⟩ := own_rd HOL.out
          subst hxL
          rw [maxLen_eq] at hmL
          have HRL := Lib.hid hrL
          have HMEM : Hid (∀ x ∈ L, ∃ i : Nat, x = (i : Int) ∧ i < m) := Lib.hid (fun x hx => by rw [← HL'.out] at hx; obtain ⟨i, h1, h2⟩ := apartL_mem hx; exact ⟨i, h1, by omega⟩)
          have uk : IntKind.u64.wrap (k : Int) = (k : Int) := by rw [IntKind.wrap_u64]; omega
          have k0 : (0 : Int) ≤ (k : Int) := by omega
          have k64 : (k : Int) ≤ 64 := by omega
          clear hrL
          go_wp2_with fail
          go_loopw [9, 32] (fun v9 v32 wr2 => ∃ (i : Nat) (b : Bool), i ≤ L.length ∧ v32 = .int .i64 i ∧ v9 = .bool b ∧ Hid (apartP m (arcs l) a (L.take i) k = b) ∧ wr2 = wA) (fun _ v32 _ => L.length - (intOf v32).toNat)
          case atStart => exact ⟨0, true, Nat.zero_le _, rfl, rfl, Lib.hid rfl, rfl⟩
          case round =>
            obtain ⟨i, b, hi, rfl, rfl, HBP, rfl⟩ := hrel
            by_cases hil : i < L.length
            · obtain ⟨bb, off, rfl, hbl, hcell⟩ := HRL.out (by omega)
              obtain ⟨x, hx⟩ : ∃ x, L[i]? = some x := ⟨_, List.getElem?_eq_getElem hil⟩
              have cx := hcell _ _ (ints_get hx)
              obtain ⟨t, rfl, htm⟩ := HMEM.out x (List.mem_of_getElem? hx)
              have HX := Lib.hid hx
              have ut : IntKind.u64.wrap (t : Int) = (t : Int) := by rw [IntKind.wrap_u64]; omega
              have t0 : (0 : Int) ≤ (t : Int) := by omega
              have t64 : (t : Int) ≤ 64 := by omega
              clear hx hcell
              go_wp2_with fail
              go_loopw [9, 38] (fun v9 v38 wr3 => ∃ (r : Nat) (c : Bool), r ≤ m ∧ v38 = .int .i64 r ∧ v9 = .bool c ∧ Hid ((b && (List.range r).all (pairP m (arcs l) a k t)) = c) ∧ wr3 = wr) (fun _ v38 _ => m - (intOf v38).toNat)
              case atStart => exact ⟨0, b, Nat.zero_le _, rfl, rfl, Lib.hid (by simp), rfl⟩
              case round =>
                rename_i wQ _ _ _ _ _ _ _ _ _ _ _ _ _ _ _ _ _ _ _ _ _ _ _
                obtain ⟨r, c, hr, rfl, rfl, HCP, hwr⟩ := hrel
                subst hwr
                by_cases hrm : r < m
                · have cR := (HBL.out.cell (p := ⟨gr, r, none⟩) hrl).trans (own_cell HOR.out hrm)
                  rw [reachL_get hrm] at cR
                  have hRlt := reachM_lt m (arcs l) a r
                  have hpb := pow_bd (show m ≤ 14 by omega)
                  obtain ⟨R, hR⟩ : ∃ R, reachM m (arcs l) a r = R := ⟨_, rfl⟩
                  rw [hR] at cR hRlt
                  have hb1 := bit_of R k (by omega)
                  have hb2 := bit_of R t (by omega)
                  have hp1 : R.testBit k = reachP m (arcs l) a r k := by rw [← hR]; exact reachM_bit hlt
                  have hp2 : R.testBit t = reachP m (arcs l) a r t := by rw [← hR]; exact reachM_bit htm
                  have hstep : (b && (List.range (r + 1)).all (pairP m (arcs l) a k t)) = (c && !(R.testBit k && R.testBit t)) := by
                    rw [range_all_succ, ← Bool.and_assoc, HCP.out, hp1, hp2]; rfl
                  clear hp1 hp2 hRlt hpb hR
                  cases c with
                  | false =>
                    have HST := Lib.hid hstep
                    clear hstep hb1 hb2
                    go_wp2
                    exact ⟨⟨r + 1, false, by omega, by go_num, rfl, Lib.hid (by rw [HST.out]; rfl), (by first | rfl | trivial)⟩, by simp [intOf]; omega⟩
                  | true =>
                    by_cases g1 : R.testBit k = true
                    · rw [if_pos g1] at hb1
                      by_cases g2 : R.testBit t = true
                      · rw [if_pos g2] at hb2
                        have HST : Hid ((b && (List.range (r + 1)).all (pairP m (arcs l) a k t)) = false) := Lib.hid (by rw [hstep, g1, g2]; rfl)
                        clear hstep g1 g2
                        go_wp2
                        exact ⟨⟨r + 1, false, by omega, by go_num, rfl, HST, (by first | rfl | trivial)⟩, by simp [intOf]; omega⟩
                      · rw [if_neg g2] at hb2
                        have g2' : R.testBit t = false := by simpa using g2
                        have HST : Hid ((b && (List.range (r + 1)).all (pairP m (arcs l) a k t)) = true) := Lib.hid (by rw [hstep, g1, g2']; rfl)
                        clear hstep g1 g2 g2'
                        go_wp2
                        exact ⟨⟨r + 1, true, by omega, by go_num, rfl, HST, (by first | rfl | trivial)⟩, by simp [intOf]; omega⟩
                    · rw [if_neg g1] at hb1
                      have g1' : R.testBit k = false := by simpa using g1
                      have HST : Hid ((b && (List.range (r + 1)).all (pairP m (arcs l) a k t)) = true) := Lib.hid (by rw [hstep, g1']; rfl)
                      clear hstep g1 g1' hb2
                      go_wp2
                      exact ⟨⟨r + 1, true, by omega, by go_num, rfl, HST, (by first | rfl | trivial)⟩, by simp [intOf]; omega⟩
                · obtain rfl : r = m := by omega
                  have HBP' : Hid (apartP r (arcs l) a (L.take (i + 1)) k = c) := Lib.hid (by rw [apart_take HBP.out HX.out, HCP.out])
                  go_wp2
                  exact ⟨⟨i + 1, c, by omega, by go_num, rfl, HBP', (by first | rfl | trivial)⟩, by simp [intOf]; omega⟩
            · obtain rfl : i = L.length := by omega
              have e := HBP.out
              rw [List.take_length] at e
              have HE := Lib.hid e
              clear e
              cases b with
              | true =>
                have HL2 : Hid (apartL m (arcs l) a (k + 1) = L ++ [(k : Int)]) := Lib.hid (by
                  show (if apartP m (arcs l) a (apartL m (arcs l) a k) k = true then apartL m (arcs l) a k ++ [(k : Int)] else apartL m (arcs l) a k) = _
                  rw [HL'.out, if_pos HE.out])
                go_wp2_with (at_builtin; refine wpList_app_rd _ rfl _ _ 27 rfl w4.heap.size 3 i0 (.int .i64 0) 1 8 Try.underlying27 hi0 hz0 hz1 hz2' rfl (by decide) _ _ _ rfl (HOL.out.alloc _) _ 1 [.int .i64 k] rfl (rd_new _ rfl (Nat.le_refl _) (by rw [maxLen_eq]; omega)) rfl (ints_one [(k : Int)]) (by rw [maxLen_eq]; omega) (by omega) (by have := HBL.out.size; simp; omega) ?_; intro v' w7 hown' hgrow hat)
                refine ⟨⟨k + 1, L ++ [(k : Int)], by omega, by go_num, by rw [List.length_append]; simp; omega, HL2, Lib.hid ?_, Lib.hid (bel_grown (bel_al HBL.out _) hgrow (fun q e => (HOL.out.lt q e).1))⟩, by simp [intOf]; omega⟩
                rw [ints_append, List.length_append]; exact hown'
              | false =>
                have HL2 : Hid (apartL m (arcs l) a (k + 1) = L) := Lib.hid (by
                  show (if apartP m (arcs l) a (apartL m (arcs l) a k) k = true then apartL m (arcs l) a k ++ [(k : Int)] else apartL m (arcs l) a k) = _
                  rw [HL'.out, if_neg (by rw [HE.out]; simp)])
                go_wp2
                exact ⟨⟨k + 1, L, by omega, by go_num, by omega, HL2, HOL, HBL⟩, by simp [intOf]; omega⟩
        · obtain rfl : k = m := by omega
          have HW : Hid (apartNodesW k l a = (L, true)) := Lib.hid (by unfold apartNodesW; rw [HL'.out])
          go_wp2
          go_ret2
          rw [HF.out, HW.out]
          refine ⟨_, rfl, ?_, bel_then HBB.out HBL.out⟩
          exact own_base HOL.out HBB.out.size
    · have hl : inB a 0 36000 = false := by simpa using hl
      have HF : Hid (apartNodesV n l a = ([], false)) := Lib.hid (by unfold apartNodesV; rw [hl, Bool.and_false]; rfl)
      have HG := Lib.hid hg
      have HL := Lib.hid hl
      clear hg hl
      go_enter Try.func21, Try.ntmps21
      go_wp2_with fail
      refine (toGood_c n _ l _ (rd_below HR.out (hbx _))).mono ?_; rw [HG.out]; rintro e w2 ⟨rfl, hb2⟩
      go_wp2_with fail
      refine (dsLimit_c a _).mono ?_; rw [HL.out]; rintro e w2 ⟨rfl, rfl⟩
      go_wp2
      go_ret2
      rw [HF.out]
      exact ⟨_, rfl, World.ownsRow_nil _ _ _ _, bel_then (hbx _) hb2⟩
  · have hg : goodTown n l = false := by simpa using hg
    have HF : Hid (apartNodesV n l a = ([], false)) := Lib.hid (by unfold apartNodesV; rw [hg]; rfl)
    have HG := Lib.hid hg
    clear hg
    go_enter Try.func21, Try.ntmps21
    go_wp2_with fail
    refine (toGood_c n _ l _ (rd_below HR.out (hbx _))).mono ?_; rw [HG.out]; rintro e w2 ⟨rfl, hb2⟩
    go_wp2
    go_ret2
    rw [HF.out]
    exact ⟨_, rfl, World.ownsRow_nil _ _ _ _, bel_then (hbx _) hb2⟩
end Go.Proofs.Ytahehdgkbhjpoaa
