/-
  FnChoices: the plain laws: a choice is a best one, it and what is missing make up the need, and no one that is nearer is left out. FnChoices: the callees' contracts: lists of choices compared, sums, an appliance found, a travel time. (joined by pack.py: ChoiLaw ChoiC)
-/
import Derived.Test.YtgcdgcidjjdhmaaGreatDoorK25
import Derived.Test.YtgcdgcidjjdhmaaGreatDoorK26
import Derived.Test.YtgcdgcidjjdhmaaGreatDoorK18
import Derived.Test.YtgcdgcidjjdhmaaGreatDoorK21
import Derived.Test.YtgcdgcidjjdhmaaGreatDoorK6
import Derived.Test.YtgcdgcidjjdhmaaGreatDoorK12
import Derived.Test.YtgcdgcidjjdhmaaGreatDoorK16
import Derived.BigQuiet
namespace Go.Proofs.YtgcdgcidjjdhmaaGreatDoor
set_option linter.unusedVariables false
set_option linter.unusedSimpArgs false
open Go.RowKit

def lexLt (key : Int → Int) (x y : Int) : Prop := key x < key y ∨ key x = key y ∧ x < y
theorem insFrom_up {key : Int → Int} {gt : Int → Int → Bool} (hgt : ∀ y x, gt y x = decide (key x < key y)) {x : Int} {p : List Int} (hp : p.Pairwise (lexLt key)) (hx : ∀ y ∈ p, y < x) : ∀ j, j ≤ p.length → (∀ y ∈ p.drop j, key x < key y) → (insFrom gt x p j).Pairwise (lexLt key) := by
  intro j
  induction j with
  | zero =>
    intro _ h
    simp only [insFrom, List.pairwise_cons]
    rw [List.drop_zero] at h
    exact ⟨fun y hy => .inl (h y hy), hp⟩
  | succ j ih =>
    intro hj h
    have hd : p.drop j = p[j] :: p.drop (j + 1) := List.drop_eq_getElem_cons (by omega)
    have hg : p.getD j 0 = p[j] := by simp [List.getD, List.getElem?_eq_getElem (show j < p.length by omega)]
    simp only [insFrom]
    rw [hg, hgt]
    by_cases hk : key x < key p[j]
    · rw [decide_eq_true hk, if_pos rfl]
      refine ih (by omega) (fun y hy => ?_)
      rw [hd] at hy
      rcases List.mem_cons.1 hy with rfl | hy
      · exact hk
      · exact h y hy
    · rw [decide_eq_false hk, if_neg (by simp)]
      have hp2 := hp
      rw [← List.take_append_drop (j + 1) p, List.pairwise_append] at hp2
      obtain ⟨q1, q2, q3⟩ := hp2
      rw [List.pairwise_append]
      refine ⟨q1, List.pairwise_cons.2 ⟨fun y hy => .inl (h y hy), q2⟩, fun a ha b hb => ?_⟩
      rcases List.mem_cons.1 hb with rfl | hb
      · have ha' : a ∈ p := List.mem_of_mem_take ha
        have hax := hx a ha'
        have hle : key a ≤ key p[j] := by
          obtain ⟨i, hi, e⟩ := List.getElem_of_mem ha
          rw [List.length_take] at hi
          rw [List.getElem_take] at e
          subst e
          rcases Nat.lt_or_ge i j with hlt | hge
          · have := (List.pairwise_iff_getElem.1 hp) i j (by omega) (by omega) hlt
            rcases this with h' | h' <;> omega
          · have : i = j := by omega
            subst this; exact Int.le_refl _
        unfold lexLt
        omega
      · exact q3 a ha b hb
theorem isort_up {key : Int → Int} {gt : Int → Int → Bool} (hgt : ∀ y x, gt y x = decide (key x < key y)) (L : List Int) (hL : L.Pairwise (· < ·)) : (isort gt L).Pairwise (lexLt key) := by
  have : ∀ k, k ≤ L.length → (isort gt (L.take k)).Pairwise (lexLt key) := by
    intro k
    induction k with
    | zero => intro _; simp [isort]
    | succ k ih =>
      intro hk
      obtain ⟨x, hx⟩ : ∃ x, L[k]? = some x := ⟨_, List.getElem?_eq_getElem (by omega)⟩
      rw [take_succ_of hx, isort_snoc]
      unfold insR
      refine insFrom_up hgt (ih (by omega)) (fun y hy => ?_) _ (Nat.le_refl _) (by simp)
      have hm := (isort_perm gt (L.take k)).mem_iff.1 hy
      obtain ⟨i, hi, rfl⟩ := List.getElem_of_mem hm
      rw [List.length_take] at hi
      rw [List.getElem_take]
      obtain ⟨hk2, rfl⟩ := List.getElem?_eq_some_iff.1 hx
      exact (List.pairwise_iff_getElem.1 hL) i k (by omega) hk2 (by omega)
  have h := this L.length (Nat.le_refl _)
  rwa [List.take_length] at h
/-- Those who are ready come in the order of their times. -/
theorem ready_up (ev : List Int) (f : List Ap) : (readyL ev f).Pairwise (fun x y => rdyKey ev f x ≤ rdyKey ev f y) := by
  refine List.Pairwise.imp ?_ (isort_up (key := rdyKey ev f) (gt := gtOf (rdyCf ev f)) (fun y x => by unfold gtOf rdyCf; exact cmpI_lt _ _) _ (selD_rise _ _))
  rintro a b (h | ⟨h, _⟩) <;> omega
theorem pick_sub (f : List Ap) (L need : List Int) : (pickL f L need).1.Sublist L := by
  obtain ⟨T, h1, h2⟩ := pick_sub_aux f L ([], need)
  unfold pickL
  rw [h1]
  simpa using h2
/-- Who is left out finds nothing left of its kind, and all that were taken of its kind come before it. -/
theorem pick_greedy (ev : List Int) (f : List Ap) (need : List Int) (R : List Int) (hup : R.Pairwise (fun x y => rdyKey ev f x ≤ rdyKey ev f y)) (hnd : R.Nodup) :
    ∀ i ∈ R, i ∉ (pickL f R need).1 → ∀ j ∈ (pickL f R need).1, kdOf f j = kdOf f i → rdyKey ev f j ≤ rdyKey ev f i := by
  have key : ∀ k, k ≤ R.length → (∀ i ∈ R.take k, i ∉ (pickL f (R.take k) need).1 → (pickL f (R.take k) need).2.getD (kdOf f i) 0 ≤ 0) ∧ (∀ i ∈ R.take k, i ∉ (pickL f (R.take k) need).1 → ∀ j ∈ (pickL f (R.take k) need).1, kdOf f j = kdOf f i → rdyKey ev f j ≤ rdyKey ev f i) := by
    intro k
    induction k with
    | zero => intro _; simp
    | succ k ih =>
      intro hk
      obtain ⟨h1, h2⟩ := ih (by omega)
      obtain ⟨x, hx⟩ : ∃ x, R[k]? = some x := ⟨_, List.getElem?_eq_getElem (by omega)⟩
      have hsub := pick_sub f (R.take k) need
      have hbef : ∀ j ∈ R.take k, rdyKey ev f j ≤ rdyKey ev f x := fun j hj => by
        obtain ⟨i, hi, rfl⟩ := List.getElem_of_mem hj
        rw [List.length_take] at hi
        rw [List.getElem_take]
        obtain ⟨hk2, rfl⟩ := List.getElem?_eq_some_iff.1 hx
        exact (List.pairwise_iff_getElem.1 hup) i k (by omega) hk2 (by omega)
      rw [pickL_snoc hx, take_succ_of hx]
      obtain ⟨st, hst⟩ : ∃ st, pickL f (R.take k) need = st := ⟨_, rfl⟩
      rw [hst] at h1 h2 hsub ⊢
      obtain ⟨P, M⟩ := st
      dsimp only at h1 h2 hsub
      obtain ⟨v, hv⟩ : ∃ v, M.getD (kdOf f x) 0 = v := ⟨_, rfl⟩
      by_cases hpos : 0 < v
      · rw [pickStep_yes rfl hv hpos]
        dsimp only
        have hne : ∀ i ∈ R.take k, i ∉ P → kdOf f i ≠ kdOf f x := fun i hi hP e => by
          have := h1 i hi hP
          rw [e, hv] at this
          omega
        refine ⟨fun i hi hP => ?_, fun i hi hP j hj hjk => ?_⟩
        · rcases List.mem_append.1 hi with h | h
          · have hP' : i ∉ P := fun hm => hP (by simp [hm])
            rw [getD_set_ne (fun e => hne i h hP' e.symm)]
            exact h1 i h hP'
          · exact absurd (List.mem_append.2 (.inr h)) hP
        · rcases List.mem_append.1 hi with h | h
          · have hP' : i ∉ P := fun hm => hP (by simp [hm])
            rcases List.mem_append.1 hj with g | g
            · exact h2 i h hP' j g hjk
            · rw [List.mem_singleton] at g
              subst g
              exact absurd hjk.symm (hne i h hP')
          · exact absurd (List.mem_append.2 (.inr h)) hP
      · rw [pickStep_no rfl hv hpos]
        dsimp only
        refine ⟨fun i hi hP => ?_, fun i hi hP j hj hjk => ?_⟩
        · rcases List.mem_append.1 hi with h | h
          · exact h1 i h hP
          · rw [List.mem_singleton] at h
            subst h
            rw [hv]; omega
        · rcases List.mem_append.1 hi with h | h
          · exact h2 i h hP j hj hjk
          · rw [List.mem_singleton] at h
            subst h
            exact hbef j (hsub.subset hj)
  have h := (key R.length (Nat.le_refl _)).2
  rwa [List.take_length] at h
theorem filter_sub {L : List Int} {P : List Int} (h : P.Sublist L) (hn : L.Nodup) : L.filter (fun i => decide (i ∈ P)) = P := by
  induction h with
  | slnil => rfl
  | @cons P L x h ih =>
    obtain ⟨hx, hn⟩ := List.nodup_cons.1 hn
    rw [List.filter_cons, if_neg (by simp; exact fun hm => hx (h.subset hm))]
    exact ih hn
  | @cons_cons P L x h ih =>
    obtain ⟨hx, hn⟩ := List.nodup_cons.1 hn
    rw [List.filter_cons, if_pos (by simp)]
    congr 1
    have : L.filter (fun i => decide (i ∈ x :: P)) = L.filter (fun i => decide (i ∈ P)) := by
      apply List.filter_congr
      intro y hy
      have : y ≠ x := fun e => hx (e ▸ hy)
      simp [this]
    rw [this]
    exact ih hn
/-- The names of the choice, in the order of the fleet. -/
def selN (f : List Ap) (P : List Int) : List ByteArray := namesI f (selD (fun i => decide ((i : Int) ∈ P)) f.length)
theorem names_of_rise {f : List Ap} (hfl : goodFl f = true) (S : List Int) (hS : S.Pairwise (· < ·)) (hm : ∀ y ∈ S, ∃ (i : Nat) (a : Ap), y = (i : Int) ∧ f[i]? = some a) : namesB (namesI f S) = true := by
  unfold namesB
  rw [List.all_eq_true]
  intro k hk
  rw [List.mem_range, namesI_len] at hk
  cases k with
  | zero =>
    unfold okNm
    cases (namesI f S)[0]? <;> rfl
  | succ k =>
    have e1 : (namesI f S)[k + 1]? = some (nmI f S[k + 1]) := by unfold namesI; rw [List.getElem?_map, List.getElem?_eq_getElem hk]; rfl
    have e0 : (namesI f S)[k]? = some (nmI f S[k]) := by unfold namesI; rw [List.getElem?_map, List.getElem?_eq_getElem (by omega)]; rfl
    rw [okNm_next e1 e0]
    obtain ⟨i, a, ei, ha⟩ := hm S[k] (List.getElem_mem _)
    obtain ⟨j, b, ej, hb⟩ := hm S[k + 1] (List.getElem_mem _)
    have hlt := (List.pairwise_iff_getElem.1 hS) k (k + 1) (by omega) hk (by omega)
    rw [ei, ej] at hlt
    rw [ei, ej, nmI_at ha, nmI_at hb]
    obtain ⟨d, rfl⟩ : ∃ d, j = i + 1 + d := ⟨j - i - 1, by omega⟩
    have := rise_all (fleet_rise hfl) d i a.nm b.nm (by rw [List.getElem?_map, ha]; rfl) (by rw [List.getElem?_map, hb]; rfl)
    unfold geS
    rw [this]; rfl
theorem selN_mem {f : List Ap} (hfl : goodFl f = true) {P : List Int} (hP : ∀ y ∈ P, ∃ (i : Nat) (a : Ap), y = (i : Int) ∧ f[i]? = some a) {y : Int} {i : Nat} {a : Ap} (hy : y = (i : Int)) (ha : f[i]? = some a) : nmI f y ∈ selN f P ↔ y ∈ P := by
  unfold selN namesI
  constructor
  · intro h
    obtain ⟨z, hz, e⟩ := List.mem_map.1 h
    obtain ⟨j, rfl, hj, hp⟩ := selD_mem hz
    have hb : f[j]? = some f[j] := List.getElem?_eq_getElem hj
    rw [hy, nmI_at ha, nmI_at hb] at e
    have := fleet_inj hfl hb ha e
    subst this
    rw [hy]; exact of_decide_eq_true hp
  · intro h
    refine List.mem_map.2 ⟨y, ?_, rfl⟩
    rw [hy] at h ⊢
    unfold selD
    exact List.mem_map.2 ⟨i, List.mem_filter.2 ⟨List.mem_range.2 (List.getElem?_eq_some_iff.1 ha).1, decide_eq_true h⟩, rfl⟩
theorem selN_len {f : List Ap} {P : List Int} (hn : P.Nodup) (hP : ∀ y ∈ P, ∃ (i : Nat) (a : Ap), y = (i : Int) ∧ f[i]? = some a) : (selN f P).length = P.length := by
  unfold selN
  rw [namesI_len]
  have hr := selD_rise (fun i => decide ((i : Int) ∈ P)) f.length
  have h1 : (selD (fun i => decide ((i : Int) ∈ P)) f.length).Nodup := List.nodup_iff_pairwise_ne.2 (hr.imp (fun h => by omega))
  refine Nat.le_antisymm (nodup_len _ _ h1 (fun x hx => ?_)) (nodup_len _ _ hn (fun x hx => ?_))
  · obtain ⟨i, rfl, _, hp⟩ := selD_mem hx
    exact of_decide_eq_true hp
  · obtain ⟨i, a, rfl, ha⟩ := hP x hx
    unfold selD
    exact List.mem_map.2 ⟨i, List.mem_filter.2 ⟨List.mem_range.2 (List.getElem?_eq_some_iff.1 ha).1, decide_eq_true hx⟩, rfl⟩
/-- The choice is a best one. -/
theorem choice_best {ev : List Int} {f : List Ap} {need : List Int} (hfl : goodFl f = true) (hne : needB need = true) : bestS ev f (readyL ev f) need (pickL f (readyL ev f) need).2 (selN f (pickL f (readyL ev f) need).1) = true := by
  have hR : ∀ y ∈ readyL ev f, ∃ (i : Nat) (a : Ap), y = (i : Int) ∧ f[i]? = some a := fun y hy => by
    obtain ⟨i, a, h1, h2, _⟩ := readyL_mem hy
    exact ⟨i, a, h1, h2⟩
  have hnd := readyL_nodup2 ev f
  have hsub := pick_sub f (readyL ev f) need
  have hgr := pick_greedy ev f need (readyL ev f) (ready_up ev f) hnd
  have hmis := pick_miss f (readyL ev f) need
  have hpn := pick_nodup f (L := readyL ev f) need hnd
  obtain ⟨hn4, hnb⟩ := needB_true hne
  obtain ⟨R, hRe⟩ : ∃ R, readyL ev f = R := ⟨_, rfl⟩
  rw [hRe] at hR hnd hsub hgr hmis hpn ⊢
  obtain ⟨P, hPe⟩ : ∃ P, (pickL f R need).1 = P := ⟨_, rfl⟩
  rw [hPe] at hsub hgr hmis hpn ⊢
  rw [← hmis]
  have hP : ∀ y ∈ P, ∃ (i : Nat) (a : Ap), y = (i : Int) ∧ f[i]? = some a := fun y hy => hR y (hsub.subset hy)
  have hhas : hasL f (selN f P) R = P := by
    unfold hasL
    rw [← filter_sub hsub hnd]
    conv => rhs; rw [filter_sub hsub hnd]
    rw [show (R.filter fun i => hasN (selN f (R.filter fun i => decide (i ∈ P))) (nmI f i)) = R.filter (fun i => decide (i ∈ P)) from ?_, filter_sub hsub hnd]
    apply List.filter_congr
    intro y hy
    rw [filter_sub hsub hnd]
    obtain ⟨i, a, e, ha⟩ := hR y hy
    have := selN_mem hfl hP e ha
    by_cases hm : y ∈ P
    · rw [decide_eq_true hm]; exact hasN_iff.2 (this.2 hm)
    · rw [decide_eq_false hm]; exact hasN_false (fun h => hm (this.1 h))
  have hkd : ∀ y ∈ P, kdOf f y < 4 := fun y hy => by
    obtain ⟨i, a, rfl, ha⟩ := hP y hy
    obtain ⟨_, h0, h3, _⟩ := goodAp_true ((goodFl_true hfl).2 a (List.mem_of_getElem? ha))
    rw [kdOf_at ha]; omega
  unfold bestS
  rw [hhas]
  simp only [Bool.and_eq_true]
  refine ⟨?_, ?_, ?_, ?_⟩
  · exact names_of_rise hfl _ (selD_rise _ _) (fun y hy => by
      obtain ⟨i, rfl, hi, _⟩ := selD_mem hy
      exact ⟨i, _, rfl, List.getElem?_eq_getElem hi⟩)
  · rw [List.all_eq_true]
    intro k hk
    have hk4 := List.mem_range.1 hk
    have h1 := cnt_get f P hk4
    have h2 := (miss_aux f P need hn4).2 k hk4
    rw [h1]
    unfold missL
    rw [h2]
    exact beq_iff_eq.2 (by omega)
  · rw [cnt_sum f P hkd, selN_len hpn hP]
    exact beq_iff_eq.2 rfl
  · rw [List.all_eq_true]
    intro i hi
    obtain ⟨ii, a, e, ha⟩ := hR i hi
    by_cases hm : i ∈ P
    · rw [hasN_iff.2 ((selN_mem hfl hP e ha).2 hm)]; rfl
    · have hki : kdOf f i < 4 := by
        obtain ⟨_, h0, h3, _⟩ := goodAp_true ((goodFl_true hfl).2 a (List.mem_of_getElem? ha))
        rw [e, kdOf_at ha]; omega
      have hc := ((wst_aux ev f P [-1, -1, -1, -1] rfl).2 (kdOf f i) hki).2.2 (rdyKey ev f i)
      have h0 : ([-1, -1, -1, -1] : List Int).getD (kdOf f i) 0 ≤ rdyKey ev f i := by
        obtain ⟨i2, a2, e2, ha2, _, hz⟩ := readyL_mem (by rw [hRe]; exact hi)
        have : rdyKey ev f i = ev.getD a2.nd.toNat 0 := by rw [e2]; exact rdyKey_at ha2
        have h4 : ([-1, -1, -1, -1] : List Int).getD (kdOf f i) 0 = -1 := by
          generalize kdOf f i = q at hki
          rcases q with _ | _ | _ | _ | q <;> first | rfl | omega
        rw [h4, this]; omega
      have := hc h0 (fun j hj hjk => hgr i hi hm j hj hjk)
      rw [hasN_false (fun h => hm ((selN_mem hfl hP e ha).1 h)), Bool.false_or]
      rw [decide_eq_false (by unfold wstL; omega)]; rfl
/-- What is chosen and what is missing make up the need. -/
theorem choice_sum {f : List Ap} {R need : List Int} (hfl : goodFl f = true) (hne : needB need = true) (hR : ∀ y ∈ R, ∃ (i : Nat) (a : Ap), y = (i : Int) ∧ f[i]? = some a) : ((pickL f R need).1.length : Int) + (pickL f R need).2.sum = need.sum := by
  obtain ⟨hn4, hnb⟩ := needB_true hne
  rw [← pick_miss]
  obtain ⟨P, hP⟩ : ∃ P, (pickL f R need).1 = P := ⟨_, rfl⟩
  have hPR : ∀ y ∈ P, y ∈ R := by rw [← hP]; exact (pick_sub f R need).subset
  rw [hP]
  obtain ⟨h1, h2⟩ := miss_aux f P need hn4
  have hs := sum_kinds (kdOf f) P (fun y hy => by
    obtain ⟨i, a, rfl, ha⟩ := hR y (hPR y hy)
    obtain ⟨_, h0, h3, _⟩ := goodAp_true ((goodFl_true hfl).2 a (List.mem_of_getElem? ha))
    rw [kdOf_at ha]; omega)
  unfold missL
  rw [sum4 h1, sum4 hn4, h2 0 (by omega), h2 1 (by omega), h2 2 (by omega), h2 3 (by omega)]
  omega
theorem miss_bd {f : List Ap} {R need : List Int} (hne : needB need = true) : ∀ y ∈ (pickL f R need).2, 0 ≤ y ∧ y ≤ 6 := by
  obtain ⟨hn4, hnb⟩ := needB_true hne
  have : ∀ (L : List Int) (st : List Int × List Int), (∀ y ∈ st.2, 0 ≤ y ∧ y ≤ 6) → ∀ y ∈ (L.foldl (pickStep f) st).2, 0 ≤ y ∧ y ≤ 6 := by
    intro L
    induction L with
    | nil => intro st h; exact h
    | cons i L ih =>
      intro st h
      rw [List.foldl_cons]
      apply ih
      unfold pickStep
      split
      · rename_i hp
        intro y hy
        rcases List.mem_or_eq_of_mem_set hy with h1 | h1
        · exact h y h1
        · have := getD_le st.2 6 (by omega) (fun z hz => (h z hz).2) (kdOf f i)
          omega
      · exact h
  exact this R ([], need) (fun y hy => hnb y hy)
theorem chL_up {ev : List Int} {f : List Ap} {L : List Int} (hL : L.Sublist (readyL ev f)) {k : Nat} {x y : Ch} (hx : (chL f ev L)[k]? = some x) (hy : (chL f ev L)[k + 1]? = some y) : x.cs ≤ y.cs := by
  unfold chL at hx hy
  rw [List.getElem?_map, Option.map_eq_some_iff] at hx hy
  obtain ⟨i, hi, rfl⟩ := hx
  obtain ⟨j, hj, rfl⟩ := hy
  have hup := (ready_up ev f).sublist hL
  obtain ⟨h1, e1⟩ := List.getElem?_eq_some_iff.1 hi
  obtain ⟨h2, e2⟩ := List.getElem?_eq_some_iff.1 hj
  have h := (List.pairwise_iff_getElem.1 hup) k (k + 1) h1 h2 (by omega)
  rw [e1, e2] at h
  have key : ∀ z ∈ L, (chAt f ev z).cs = rdyKey ev f z := fun z hz => by
    obtain ⟨a, b, e, ha, _⟩ := readyL_mem (hL.subset hz)
    rw [e, chAt_at ha, rdyKey_at ha]
  rw [key i (List.mem_of_getElem? hi), key j (List.mem_of_getElem? hj)]
  exact h
/-- An appliance is found by its name. -/
theorem find_at {f : List Ap} (hfl : goodFl f = true) {i : Nat} {a : Ap} (ha : f[i]? = some a) : findA a.nm f = (i : Int) := by
  have h0 : 0 ≤ findA a.nm f := of_decide_eq_true (by unfold findA; rw [(idxG_any _ _).1]; exact List.any_eq_true.2 ⟨a, List.mem_of_getElem? ha, by simp⟩)
  obtain ⟨j, hj⟩ := Int.eq_ofNat_of_zero_le h0
  obtain ⟨b, hb, hbp⟩ := idxG_get hj
  have := fleet_inj hfl ha hb (of_decide_eq_true hbp).symm
  rw [hj, this]
/-- The names as they are gathered: for each of the fleet those of the choice that bear its name. -/
def gath (C : List Ch) (a : Ap) : List ByteArray := (C.filter fun x => decide (x.cn = a.nm)).map Ch.cn
theorem gath_at {f : List Ap} (hfl : goodFl f = true) {ev P : List Int} (hn : P.Nodup) (hP : ∀ y ∈ P, ∃ (i : Nat) (a : Ap), y = (i : Int) ∧ f[i]? = some a) {i : Nat} {a : Ap} (ha : f[i]? = some a) : gath (chL f ev P) a = if (i : Int) ∈ P then [a.nm] else [] := by
  have hfil : P.filter (fun y => decide ((chAt f ev y).cn = a.nm)) = P.filter (fun y => decide (y = (i : Int))) := by
    apply List.filter_congr
    intro y hy
    obtain ⟨j, b, rfl, hb⟩ := hP y hy
    rw [chAt_at hb]
    by_cases e : b.nm = a.nm
    · have := fleet_inj hfl hb ha e
      subst this
      rw [decide_eq_true e, decide_eq_true rfl]
    · rw [decide_eq_false e, decide_eq_false (fun h => e (by
        have : j = i := by omega
        subst this
        rw [hb] at ha; injection ha with ha; rw [ha]))]
  unfold gath chL
  rw [List.filter_map, List.map_map]
  have e2 : (P.filter ((fun x : Ch => decide (x.cn = a.nm)) ∘ chAt f ev)) = P.filter (fun y => decide (y = (i : Int))) := hfil
  rw [e2]
  have e3 : ∀ (L : List Int), L.Nodup → L.filter (fun y => decide (y = (i : Int))) = if (i : Int) ∈ L then [(i : Int)] else [] := by
    intro L
    induction L with
    | nil => intro _; rfl
    | cons y L ih =>
      intro h
      obtain ⟨h1, h2⟩ := List.nodup_cons.1 h
      by_cases e : y = (i : Int)
      · subst e
        rw [List.filter_cons, if_pos (by simp), ih h2, if_neg h1, if_pos (by simp)]
      · rw [List.filter_cons, if_neg (by simp [e]), ih h2]
        by_cases h3 : (i : Int) ∈ L
        · rw [if_pos h3, if_pos (by simp [h3])]
        · rw [if_neg h3, if_neg (by simp [h3]; exact fun h => e h.symm)]
  rw [e3 P hn]
  split
  · simp [chAt_at ha]
  · rfl
theorem gath_all {f : List Ap} (hfl : goodFl f = true) {ev P : List Int} (hn : P.Nodup) (hP : ∀ y ∈ P, ∃ (i : Nat) (a : Ap), y = (i : Int) ∧ f[i]? = some a) : f.flatMap (gath (chL f ev P)) = selN f P := by
  have : ∀ k, k ≤ f.length → (f.take k).flatMap (gath (chL f ev P)) = namesI f (selD (fun i => decide ((i : Int) ∈ P)) k) := by
    intro k
    induction k with
    | zero => intro _; simp [selD, namesI]
    | succ k ih =>
      intro hk
      obtain ⟨a, ha⟩ : ∃ a, f[k]? = some a := ⟨_, List.getElem?_eq_getElem (by omega)⟩
      rw [take_succ_of ha, List.flatMap_append, ih (by omega)]
      have e : [a].flatMap (gath (chL f ev P)) = gath (chL f ev P) a := by simp
      rw [e, gath_at hfl hn hP ha]
      by_cases h : (k : Int) ∈ P
      · rw [if_pos h, selD_yes (decide_eq_true h)]
        unfold namesI
        rw [List.map_append]
        simp [nmI_at ha]
      · rw [if_neg h, selD_no (decide_eq_false h)]; simp
  have h := this f.length (Nat.le_refl _)
  rw [List.take_length] at h
  exact h
end Go.Proofs.YtgcdgcidjjdhmaaGreatDoor

namespace Go.Proofs.YtgcdgcidjjdhmaaGreatDoor
set_option linter.unusedVariables false
set_option linter.unusedSimpArgs false
open Go.RowKit

/-- The index of the appliance with a name. -/
def findV (nm : ByteArray) (f : List Ap) : Int × Bool := if goodFl f = true ∧ 0 ≤ findA nm f then (findA nm f, true) else (0, false)
set_option maxRecDepth 100000 in
set_option maxHeartbeats 1000000 in
theorem findApplianceS_c (v : Value) (f : List Ap) (nm : ByteArray) (w : World) (hz : ∀ x ∈ f, x.nm.size ≤ 9223372036854775807) (hf : Rd w v f.length (f.flatMap Ap.cells)) :
    Calls Tryz.prog 9 #[v, .string nm] w fun e w' => e = .returned (.tuple #[.int .i64 (findV nm f).1, .bool (findV nm f).2]) ∧ Below w.heap.size w w' := by
  have HF := Lib.hid hf
  have HZ := Lib.hid hz
  clear hf hz
  obtain ⟨K, hK⟩ : ∃ K, findA nm f = K := ⟨_, rfl⟩
  have HK := Lib.hid hK
  have HV : Hid (findV nm f = if goodFl f = true ∧ 0 ≤ K then (K, true) else (0, false)) := Lib.hid (by unfold findV; rw [hK])
  clear hK
  go_enter Tryz.func9, Tryz.ntmps9
  go_wp2_with fail
  refine (apFleet_c _ f _ HZ.out HF.out).mono ?_; rintro e w1 ⟨rfl, hb⟩
  have HB := Lib.hid hb
  clear hb
  cases hg : goodFl f with
  | false =>
    have HG := Lib.hid hg
    clear hg
    go_wp2
    go_ret2
    rw [HV.out, if_neg (by rw [HG.out]; simp)]
    exact ⟨rfl, HB.out⟩
  | true =>
    have HG := Lib.hid hg
    clear hg
    go_wp2_with fail
    refine (apFind_c _ f nm _ (rd_below HF.out HB.out)).mono ?_; rw [HK.out]; rintro e w2 ⟨rfl, hb⟩
    have HB2 := Lib.hid (bel_then HB.out hb)
    clear hb
    by_cases hk : K < 0
    · go_wp2
      go_ret2
      rw [HV.out, if_neg (by omega)]
      exact ⟨rfl, HB2.out⟩
    · go_wp2_with fail
      refine (apFind_c _ f nm _ (rd_below HF.out HB2.out)).mono ?_; rw [HK.out]; rintro e w3 ⟨rfl, hb⟩
      have HB3 := Lib.hid (bel_then HB2.out hb)
      clear hb
      go_wp2
      go_ret2
      rw [HV.out, if_pos ⟨HG.out, by omega⟩]
      exact ⟨rfl, HB3.out⟩
end Go.Proofs.YtgcdgcidjjdhmaaGreatDoor
