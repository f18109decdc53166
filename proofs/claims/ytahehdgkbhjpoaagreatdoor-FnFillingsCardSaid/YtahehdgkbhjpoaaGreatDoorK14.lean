/-
  impl.blockedStations. spec.mvBlocked. BlockedStations on both sides (printed by gen_mv.py). FnMoves: the plain law: fillings, what blocks them, and how many movers there are. FnMoves: the plain law, joined: what the law asks of both sides' answers. FnFillings: the plain law: the least limit fills all, a lesser one does not; fillings keep their limit. (joined by pack.py: MvQ MvX MvY MvLaw MvLaw2 FilLaw)
-/
import Derived.Test.YtahehdgkbhjpoaaGreatDoorK13
import Derived.Lib.SliceRun
import Derived.Maps.OwnSet
import Derived.Maps.Views
import Derived.WalkArith
import Derived.Test.YtahehdgkbhjpoaaGreatDoorK11
import Derived.Test.YtahehdgkbhjpoaaGreatDoorK2
namespace Go.Proofs.YtahehdgkbhjpoaaGreatDoor
set_option linter.unusedVariables false
set_option linter.unusedSimpArgs false
open Go.RowKit Go.Maps

theorem neq_slice_nil {P : Program} (w : World) (t e : TypeId) (a : Option Addr) (n c n' c' : Nat) (h : P.underlying t = some (.slice e)) :
    (binOp .neq t (.slice a n c) (.slice none n' c')).run P w = .ok (.bool (!a.isNone)) w := by
  simp only [binOp]
  simp [Op.equal, Op.maxDepth, Lib.run_equalIn_slice_nil w 9999 t e a n c n' c' h]
theorem dec_snoc (l : List Int) (x y : Int) : decide (x ∈ l ++ [y]) = (decide (x ∈ l) || decide (x = y)) := by
  by_cases h : x ∈ l <;> by_cases h2 : x = y <;> simp [h, h2]
theorem bestS_step {ls : List (List Int)} {s : Nat} (h : 1 ≤ s) : bestS ls s = if blkS ls (selI s.testBit ls.length) = true ∧ (bestS ls (s - 1) = [] ∨ cmpT (selI s.testBit ls.length) (bestS ls (s - 1)) < 0) then selI s.testBit ls.length else bestS ls (s - 1) := by
  obtain ⟨t, rfl⟩ : ∃ t, s = t + 1 := ⟨s - 1, by omega⟩
  rw [Nat.add_sub_cancel]; rfl
/-- A map's keys below 7 are P. -/
def MapP (D : DataW Unit) (P : Nat → Bool) : Prop := Maps.size D = cntP P ∧ ∀ j : Nat, j < 7 → Maps.has D (.int .i64 (j : Int)) = P j
theorem mapP_nil : MapP (.map []) noneP := by
  refine ⟨?_, fun j _ => ?_⟩
  · have : cntP noneP = 0 := by unfold cntP selI; simp [noneP]
    rw [this]; rfl
  · simp [Maps.has, noneP]
theorem mapP_congr {D : DataW Unit} {P Q : Nat → Bool} (h : MapP D P) (e : ∀ j, j < 7 → P j = Q j) : MapP D Q := ⟨by rw [h.1, cntP_congr e], fun j hj => by rw [h.2 j hj, e j hj]⟩
theorem mapP_put {D : DataW Unit} {P : Nat → Bool} {m : Nat} (h : MapP D P) (hD : IsMap D) (hT : Tidy D) (hm : m < 7) (d : DataW Unit) : MapP (D.put (.int .i64 (m : Int)) d) (updP P m) := by
  refine ⟨?_, fun j hj => ?_⟩
  · rw [size_put hT, h.2 m hm]
    cases hP : P m with
    | true => rw [if_pos rfl, h.1, cntP_yes hP]
    | false => rw [if_neg (by simp), h.1, cntP_no hP hm]
  · unfold updP
    by_cases e : j = m
    · subst e
      rw [has_put_same hD (show WideAt.IsKeyLit (.int .i64 (j : Int)) by simp [WideAt.IsKeyLit])]; simp
    · rw [has_put_other (fun h => by injection h with _ h; omega), h.2 j hj]; simp [e]

end Go.Proofs.YtahehdgkbhjpoaaGreatDoor

namespace Go.Proofs.YtahehdgkbhjpoaaGreatDoor
set_option linter.unusedVariables false
set_option linter.unusedSimpArgs false
open Go.RowKit

/-- What mvBlocked gives: the set with its rest, in memory of the call's own, or nothing. -/
def BlkPost (base : Nat) (q : List Int) (o : Option (List Int)) (w : World) (e : Ending) (w' : World) : Prop :=
  Below w.heap.size w w' ∧ match o with
    | some T => ∃ v, e = .returned (.tuple #[v, .bool true]) ∧ w'.ownsRow base 3 1 v (q ++ T).length (ints (q ++ T))
    | none => ∃ v, e = .returned (.tuple #[v, .bool false])
theorem BlkPost.yes {base : Nat} {q T : List Int} {w w' : World} {e : Ending} (h : BlkPost base q (some T) w e w') : ∃ v, e = .returned (.tuple #[v, .bool true]) ∧ w'.ownsRow base 3 1 v (q ++ T).length (ints (q ++ T)) ∧ Below w.heap.size w w' := by
  obtain ⟨h1, v, h2, h3⟩ := h
  exact ⟨v, h2, h3, h1⟩
theorem BlkPost.no {base : Nat} {q : List Int} {w w' : World} {e : Ending} (h : BlkPost base q none w e w') : ∃ v, e = .returned (.tuple #[v, .bool false]) ∧ Below w.heap.size w w' := by
  obtain ⟨h1, v, h2⟩ := h
  exact ⟨v, h2, h1⟩
theorem blkG_yes {f : Nat → Option (List Int)} {k j : Nat} {T : List Int} (h : f k = some T) : blkG f k (j + 1) = some ((k : Int) :: T) := by simp only [blkG]; rw [h]
theorem blkG_no {f : Nat → Option (List Int)} {k j : Nat} (h : f k = none) : blkG f k (j + 1) = blkG f (k + 1) j := by simp only [blkG]; rw [h]
/-- An increasing list of movers. -/
def MovL (r : List Int) : Prop := r.Pairwise (· < ·) ∧ ∀ y ∈ r, ∃ i : Nat, y = (i : Int) ∧ i < 7
theorem movL_put {r : List Int} {x : Nat} (h : MovL r) (hx : x < 7) : MovL (putI r (x : Int)) :=
  ⟨putI_inc r _ h.1, fun y hy => by
    rcases (putI_mem r _ y).1 hy with rfl | hy
    · exact ⟨x, rfl, hx⟩
    · exact h.2 y hy⟩
theorem usedL_put {r l : List Int} {P : Nat → Bool} {j x : Nat} (h : UsedL r (orP P (l.take j))) (hx : l[j]? = some (x : Int)) : UsedL (putI r (x : Int)) (orP P (l.take (j + 1))) := fun i hi => by
  have h1 := h i hi
  unfold orP at h1 ⊢
  rw [take_succ_of hx, dec_snoc, ← Bool.or_assoc, ← h1]
  by_cases hm : (i : Int) ∈ r
  · rw [decide_eq_true ((putI_mem r _ _).2 (.inr hm)), decide_eq_true hm]; rfl
  · rw [decide_eq_false hm, Bool.false_or, decide_eq_decide, putI_mem]
    exact ⟨fun h => h.elim id (fun h => absurd h hm), .inl⟩
theorem movL_len {r : List Int} {P : Nat → Bool} (h : MovL r) (hU : UsedL r P) : r.length ≤ 7 := by
  rw [len_cnt h.1 h.2 hU]; exact cntP_le _

end Go.Proofs.YtahehdgkbhjpoaaGreatDoor

namespace Go.Proofs.YtahehdgkbhjpoaaGreatDoor
set_option linter.unusedVariables false
set_option linter.unusedSimpArgs false
open Go.RowKit

theorem blockedR_len (ls : List (List Int)) : (blockedR ls).length ≤ ls.length := by
  rcases Decidable.em (blockedR ls = []) with h0 | h0
  · rw [h0]; simp
  · obtain ⟨⟨s, _, _, hs⟩, _⟩ := (bestS_spec ls _).2 h0
    rw [show blockedR ls = _ from hs]; exact selI_len _ _
def blockedStationsV (n : Int) (l : List St) (p q : List Int) (a : Int) : List Int × Bool := if askM n l p q a = true then (blockedR (reachL n.toNat (arcs l) p q a), decide (blockedR (reachL n.toNat (arcs l) p q a) ≠ [])) else ([], false)
theorem blockedStationsV_len (n : Int) (l : List St) (p q : List Int) (a : Int) : (blockedStationsV n l p q a).1.length ≤ 1000000 := by
  unfold blockedStationsV
  split
  · rename_i h
    obtain ⟨hok, _⟩ := askM_true h
    obtain ⟨_, g2, g3, g4, g5⟩ := goodMv_true hok
    have := blockedR_len (reachL n.toNat (arcs l) p q a)
    rw [reachL_len] at this
    dsimp only
    omega
  · simp

end Go.Proofs.YtahehdgkbhjpoaaGreatDoor

namespace Go.Proofs.YtahehdgkbhjpoaaGreatDoor
set_option linter.unusedVariables false
set_option linter.unusedSimpArgs false
open Go.RowKit

/-- How many stations have a mover. -/
def cntR (r : List Int) : Nat := (r.filter fun x => decide (0 ≤ x)).length
theorem cntR_cons (x : Int) (r : List Int) : cntR (x :: r) = (if 0 ≤ x then 1 else 0) + cntR r := by
  unfold cntR
  by_cases h : 0 ≤ x <;> simp [h] <;> omega
def asgB : List (List Int) → (Nat → Bool) → List Int → Bool
  | [], _, [] => true
  | [], _, _ :: _ => false
  | _ :: _, _, [] => false
  | l :: ls, P, x :: r => if x < 0 then asgB ls P r else decide (x ∈ l) && !(P x.toNat) && asgB ls (updP P x.toNat) r
theorem step_ge (ls : List (List Int)) (P : Nat → Bool) : ∀ (l : List Int) (b : Nat), b ≤ l.foldl (stepR ls P) b := by
  intro l
  induction l with
  | nil => intro b; exact Nat.le_refl _
  | cons x l ih =>
    intro b
    refine Nat.le_trans ?_ (ih _)
    unfold stepR
    split <;> omega
theorem step_mem {ls : List (List Int)} {P : Nat → Bool} {x : Int} (hP : P x.toNat = false) : ∀ {l : List Int} (b : Nat), x ∈ l → 1 + mostR ls (updP P x.toNat) ≤ l.foldl (stepR ls P) b := by
  intro l
  induction l with
  | nil => intro b h; cases h
  | cons y l ih =>
    intro b h
    rcases List.mem_cons.1 h with rfl | h
    · refine Nat.le_trans ?_ (step_ge ls P l _)
      unfold stepR
      rw [hP]; simp; omega
    · exact ih _ h
theorem step_or (ls : List (List Int)) (P : Nat → Bool) : ∀ (l : List Int) (b : Nat), l.foldl (stepR ls P) b = b ∨ ∃ x ∈ l, P x.toNat = false ∧ l.foldl (stepR ls P) b = 1 + mostR ls (updP P x.toNat) := by
  intro l
  induction l with
  | nil => intro b; exact .inl rfl
  | cons y l ih =>
    intro b
    rcases ih (stepR ls P b y) with h | ⟨x, hx, h1, h2⟩
    · rw [List.foldl_cons, h]
      unfold stepR
      cases hP : P y.toNat with
      | true => exact .inl (by simp)
      | false =>
        simp only [Bool.false_eq_true, if_false]
        rcases Nat.le_total b (1 + mostR ls (updP P y.toNat)) with h3 | h3
        · exact .inr ⟨y, by simp, hP, by omega⟩
        · exact .inl (by omega)
    · exact .inr ⟨x, List.mem_cons_of_mem _ hx, h1, h2⟩
theorem asg_le : ∀ (ls : List (List Int)) (P : Nat → Bool) (r : List Int), asgB ls P r = true → cntR r ≤ mostR ls P := by
  intro ls
  induction ls with
  | nil =>
    intro P r h
    cases r with
    | nil => simp [cntR]
    | cons x r => simp [asgB] at h
  | cons l ls ih =>
    intro P r h
    cases r with
    | nil => simp [asgB] at h
    | cons x r =>
      rw [mostR_cons, cntR_cons]
      unfold asgB at h
      by_cases hx : x < 0
      · rw [if_pos hx] at h
        rw [if_neg (by omega)]
        have := ih P r h
        have := step_ge ls P l (mostR ls P)
        omega
      · rw [if_neg hx] at h
        simp only [Bool.and_eq_true, decide_eq_true_eq, Bool.not_eq_true'] at h
        rw [if_pos (by omega)]
        have h1 := ih _ r h.2
        have h2 := step_mem (ls := ls) h.1.2 (mostR ls P) h.1.1
        omega
theorem choose_yes {rest : List (List Int)} {P : Nat → Bool} {left : Nat} : ∀ {l : List Int}, 0 ≤ chooseR rest P left l → chooseR rest P left l ∈ l ∧ mayP rest P left (chooseR rest P left l) = true := by
  intro l
  induction l with
  | nil => intro h; simp [chooseR] at h
  | cons x l ih =>
    intro h
    simp only [chooseR] at h ⊢
    by_cases hm : mayP rest P left x = true
    · rw [if_pos hm]; exact ⟨by simp, hm⟩
    · rw [if_neg hm] at h ⊢
      exact ⟨List.mem_cons_of_mem _ (ih h).1, (ih h).2⟩
theorem fill_asg : ∀ (ls : List (List Int)) (P : Nat → Bool) (left : Nat), (∀ l ∈ ls, ∀ x ∈ l, 0 ≤ x) → left = mostR ls P → asgB ls P (fillR ls P left) = true ∧ cntR (fillR ls P left) = left := by
  intro ls
  induction ls with
  | nil => intro P left _ h; subst h; exact ⟨rfl, rfl⟩
  | cons l ls ih =>
    intro P left hp h
    have hl := hp l (by simp)
    have hls : ∀ l ∈ ls, ∀ x ∈ l, 0 ≤ x := fun l' h' => hp l' (List.mem_cons_of_mem _ h')
    unfold fillR
    by_cases hc : chooseR ls P left l < 0
    · rw [if_pos hc]
      have hno := choose_neg hl hc
      have hm : left = mostR ls P := by
        rw [mostR_cons] at h
        rcases step_or ls P l (mostR ls P) with h1 | ⟨x, hx, h1, h2⟩
        · rw [h1] at h; exact h
        · have := hno x hx
          unfold mayP at this
          rw [h1] at this
          simp at this
          omega
      obtain ⟨i1, i2⟩ := ih P left hls hm
      unfold asgB
      rw [if_pos (by omega), cntR_cons, if_neg (by omega), i2]
      exact ⟨i1, by omega⟩
    · rw [if_neg hc]
      obtain ⟨c1, c2⟩ := choose_yes (rest := ls) (P := P) (left := left) (l := l) (by omega)
      obtain ⟨x, hx⟩ : ∃ x, chooseR ls P left l = x := ⟨_, rfl⟩
      rw [hx] at hc c1 c2 ⊢
      unfold mayP at c2
      simp only [Bool.and_eq_true, decide_eq_true_eq, Bool.not_eq_true'] at c2
      obtain ⟨i1, i2⟩ := ih (updP P x.toNat) (left - 1) hls (by omega)
      unfold asgB
      rw [if_neg hc, cntR_cons, if_pos (by omega), i2, i1]
      exact ⟨by simp [c1, c2.1], by omega⟩
/-- The same, place by place. -/
def PtR (ls : List (List Int)) (P : Nat → Bool) (r : List Int) : Prop := r.length = ls.length ∧ ∀ k x, r[k]? = some x → x < 0 ∨ (x ∈ ls.getD k [] ∧ P x.toNat = false ∧ x ∉ r.take k)
theorem pt_asg : ∀ (ls : List (List Int)) (P : Nat → Bool) (r : List Int), PtR ls P r ↔ asgB ls P r = true := by
  intro ls
  induction ls with
  | nil =>
    intro P r
    cases r with
    | nil => exact ⟨fun _ => rfl, fun _ => ⟨rfl, fun k x h => by simp at h⟩⟩
    | cons x r => exact ⟨fun h => by have := h.1; simp at this, fun h => by simp [asgB] at h⟩
  | cons l ls ih =>
    intro P r
    cases r with
    | nil => exact ⟨fun h => by have := h.1; simp at this, fun h => by simp [asgB] at h⟩
    | cons x r =>
      unfold asgB
      by_cases hx : x < 0
      · rw [if_pos hx, ← ih P r]
        constructor
        · rintro ⟨h1, h2⟩
          refine ⟨by simpa using h1, fun k y hy => ?_⟩
          rcases h2 (k + 1) y (by simpa using hy) with h3 | ⟨h3, h4, h5⟩
          · exact .inl h3
          · exact .inr ⟨by simpa using h3, h4, fun h6 => h5 (by simp [h6])⟩
        · rintro ⟨h1, h2⟩
          refine ⟨by simpa using h1, fun k y hy => ?_⟩
          cases k with
          | zero => simp at hy; omega
          | succ k =>
            rcases h2 k y (by simpa using hy) with h3 | ⟨h3, h4, h5⟩
            · exact .inl h3
            · by_cases h0 : y < 0
              · exact .inl h0
              · refine .inr ⟨by simpa using h3, h4, ?_⟩
                simp only [List.take_succ_cons, List.mem_cons, not_or]
                exact ⟨fun e => by omega, h5⟩
      · rw [if_neg hx, Bool.and_eq_true, Bool.and_eq_true, decide_eq_true_eq, Bool.not_eq_true', ← ih _ r]
        constructor
        · rintro ⟨h1, h2⟩
          have h0 := h2 0 x (by simp)
          rcases h0 with h0 | ⟨h0, h0', _⟩
          · exact absurd h0 hx
          refine ⟨⟨by simpa using h0, h0'⟩, by simpa using h1, fun k y hy => ?_⟩
          rcases h2 (k + 1) y (by simpa using hy) with h3 | ⟨h3, h4, h5⟩
          · exact .inl h3
          · simp only [List.take_succ_cons, List.mem_cons, not_or] at h5
            by_cases hy0 : y < 0
            · exact .inl hy0
            · refine .inr ⟨by simpa using h3, ?_, h5.2⟩
              unfold updP
              rw [h4]
              have : y.toNat ≠ x.toNat := fun e => h5.1 (by omega)
              simp [this]
        · rintro ⟨⟨g1, g2⟩, h1, h2⟩
          refine ⟨by simpa using h1, fun k y hy => ?_⟩
          cases k with
          | zero =>
            simp at hy
            subst hy
            exact .inr ⟨by simpa using g1, g2, by simp⟩
          | succ k =>
            rcases h2 k y (by simpa using hy) with h3 | ⟨h3, h4, h5⟩
            · exact .inl h3
            · unfold updP at h4
              simp only [Bool.or_eq_false_iff, decide_eq_false_iff_not] at h4
              refine .inr ⟨by simpa using h3, h4.1, ?_⟩
              simp only [List.take_succ_cons, List.mem_cons, not_or]
              exact ⟨fun e => h4.2 (by rw [e]), h5⟩
theorem pt_good {ls : List (List Int)} {r : List Int} {f : Nat} (hb : ∀ l ∈ ls, ∀ x ∈ l, 0 ≤ x ∧ x < (f : Int)) (hm : ∀ x ∈ r, -1 ≤ x) (h : PtR ls noneP r) : goodOn f ls.length r = true ∧ fillW ls r = true := by
  obtain ⟨h1, h2⟩ := h
  unfold goodOn fillW
  rw [Bool.and_eq_true, decide_eq_true_eq, List.all_eq_true, List.all_eq_true]
  refine ⟨⟨h1, fun k hk => ?_⟩, fun k hk => ?_⟩
  · rw [List.mem_range] at hk
    have hg := List.getElem?_eq_getElem hk
    obtain ⟨x, hx⟩ : ∃ x, r[k] = x := ⟨_, rfl⟩
    rw [hx] at hg
    have hmx := hm x (List.mem_of_getElem? hg)
    unfold onceAt
    rw [hg]
    simp only [Bool.and_eq_true, Bool.or_eq_true, decide_eq_true_eq, Bool.not_eq_true', decide_eq_false_iff_not]
    rcases h2 k x hg with h3 | ⟨h3, h4, h5⟩
    · exact ⟨by unfold inB; simp; omega, .inl h3⟩
    · rw [List.getD, List.getElem?_eq_getElem (by omega)] at h3
      have := hb _ (List.getElem_mem (by omega : k < ls.length)) x (by simpa using h3)
      exact ⟨by unfold inB; simp; omega, .inr h5⟩
  · rw [List.mem_range] at hk
    have hg := List.getElem?_eq_getElem hk
    unfold fillAt
    rw [show r.getD k 0 = r[k] by simp [List.getD, hg], Bool.or_eq_true, decide_eq_true_eq, decide_eq_true_eq]
    rcases h2 k _ hg with h3 | ⟨h3, _, _⟩
    · exact .inl h3
    · exact .inr h3
theorem good_pt {ls : List (List Int)} {r : List Int} {f : Nat} (h : goodOn f ls.length r = true) (hf : fillW ls r = true) : PtR ls noneP r := by
  unfold goodOn at h
  unfold fillW at hf
  rw [Bool.and_eq_true, decide_eq_true_eq, List.all_eq_true] at h
  rw [List.all_eq_true] at hf
  refine ⟨h.1, fun k x hg => ?_⟩
  have hk := (List.getElem?_eq_some_iff.1 hg).1
  have h1 := h.2 k (List.mem_range.2 hk)
  have h2 := hf k (List.mem_range.2 hk)
  unfold onceAt at h1
  unfold fillAt at h2
  rw [hg] at h1
  rw [show r.getD k 0 = x by simp [List.getD, hg], Bool.or_eq_true, decide_eq_true_eq, decide_eq_true_eq] at h2
  simp only [Bool.and_eq_true, Bool.or_eq_true, decide_eq_true_eq, Bool.not_eq_true', decide_eq_false_iff_not] at h1
  by_cases hx : x < 0
  · exact .inl hx
  · refine .inr ⟨h2.resolve_left hx, rfl, h1.2.resolve_left hx⟩
theorem fillR_ge : ∀ (ls : List (List Int)) (P : Nat → Bool) (left : Nat), ∀ x ∈ fillR ls P left, -1 ≤ x := by
  intro ls
  induction ls with
  | nil => intro P left x h; simp [fillR] at h
  | cons l ls ih =>
    intro P left x h
    unfold fillR at h
    split at h
    · rcases List.mem_cons.1 h with rfl | h
      · omega
      · exact ih _ _ x h
    · rcases List.mem_cons.1 h with rfl | h
      · omega
      · exact ih _ _ x h
theorem cntR_len {r : List Int} (h : ∀ x ∈ r, 0 ≤ x) : cntR r = r.length := by
  unfold cntR
  rw [List.filter_eq_self.2 (fun x hx => decide_eq_true (h x hx))]
theorem cntR_full : ∀ {r : List Int}, r.length ≤ cntR r → ∀ x ∈ r, 0 ≤ x := by
  intro r
  induction r with
  | nil => intro _ x h; cases h
  | cons y r ih =>
    intro h x hx
    rw [cntR_cons, List.length_cons] at h
    have : cntR r ≤ r.length := List.length_filter_le _ _
    by_cases hy : 0 ≤ y
    · rw [if_pos hy] at h
      rcases List.mem_cons.1 hx with rfl | hx
      · exact hy
      · exact ih (by omega) x hx
    · rw [if_neg hy] at h; omega

/-- The table as a relation. -/
def relB (ls : List (List Int)) (i m : Nat) : Bool := decide ((m : Int) ∈ ls.getD i [])
def Mov7 (ls : List (List Int)) : Prop := ∀ l ∈ ls, ∀ x ∈ l, 0 ≤ x ∧ x < 7
theorem full_sdr {ls : List (List Int)} (hb : Mov7 ls) (h : mostR ls noneP = ls.length) : ∃ f : Nat → Nat, (∀ i, i < ls.length → f i < 7 ∧ relB ls i (f i) = true) ∧ ∀ i j, i < ls.length → j < ls.length → f i = f j → i = j := by
  obtain ⟨h1, h2⟩ := fill_asg ls noneP _ (fun l hl x hx => (hb l hl x hx).1) rfl
  obtain ⟨r, hr⟩ : ∃ r, fillR ls noneP (mostR ls noneP) = r := ⟨_, rfl⟩
  rw [hr] at h1 h2
  obtain ⟨p1, p2⟩ := (pt_asg ls noneP r).2 h1
  have hpos := cntR_full (r := r) (by omega)
  have at_ : ∀ i, i < ls.length → ∃ x, r[i]? = some x ∧ 0 ≤ x ∧ x ∈ ls.getD i [] ∧ x ∉ r.take i := by
    intro i hi
    have hg := List.getElem?_eq_getElem (show i < r.length by omega)
    refine ⟨r[i], hg, hpos _ (List.mem_of_getElem? hg), ?_⟩
    rcases p2 i _ hg with h3 | ⟨h3, _, h5⟩
    · have := hpos _ (List.mem_of_getElem? hg); omega
    · exact ⟨h3, h5⟩
  refine ⟨fun i => (r.getD i 0).toNat, fun i hi => ?_, ?_⟩
  · obtain ⟨x, hg, hx, hm, _⟩ := at_ i hi
    have e : r.getD i 0 = x := by simp [List.getD, hg]
    have hrow : ls.getD i [] ∈ ls := by rw [List.getD, List.getElem?_eq_getElem hi]; exact List.getElem_mem hi
    have := hb _ hrow x hm
    simp only [e]
    refine ⟨by omega, ?_⟩
    unfold relB
    rw [show ((x.toNat : Nat) : Int) = x by omega]
    exact decide_eq_true hm
  · have key : ∀ i j, i < j → j < ls.length → (r.getD i 0).toNat ≠ (r.getD j 0).toNat := by
      intro i j hij hj e
      obtain ⟨x, hg, hx, _, _⟩ := at_ i (by omega)
      obtain ⟨y, hg', hy, _, hn⟩ := at_ j hj
      rw [show r.getD i 0 = x by simp [List.getD, hg], show r.getD j 0 = y by simp [List.getD, hg']] at e
      have : x = y := by omega
      subst this
      refine hn (List.mem_of_getElem? (i := i) ?_)
      rw [List.getElem?_take, if_pos hij]; exact hg
    intro i j hi hj e
    rcases Nat.lt_trichotomy i j with h3 | h3 | h3
    · exact absurd e (key i j h3 hj)
    · exact h3
    · exact absurd e.symm (key j i h3 hi)
theorem sdr_full {ls : List (List Int)} {f : Nat → Nat} (f1 : ∀ i, i < ls.length → f i < 7 ∧ relB ls i (f i) = true) (f2 : ∀ i j, i < ls.length → j < ls.length → f i = f j → i = j) : mostR ls noneP = ls.length := by
  have hlen : ((List.range ls.length).map fun i => (f i : Int)).length = ls.length := by simp
  have hpt : PtR ls noneP ((List.range ls.length).map fun i => (f i : Int)) := by
    refine ⟨hlen, fun k x hg => .inr ?_⟩
    have hk := (List.getElem?_eq_some_iff.1 hg).1
    rw [hlen] at hk
    simp only [List.getElem?_map, List.getElem?_range hk, Option.map_some, Option.some.injEq] at hg
    subst hg
    refine ⟨of_decide_eq_true (f1 k hk).2, rfl, fun hm => ?_⟩
    obtain ⟨i, hi⟩ := List.mem_iff_getElem?.1 hm
    rw [List.getElem?_take] at hi
    split at hi
    · rename_i hik
      simp only [List.getElem?_map, List.getElem?_range (by omega : i < ls.length), Option.map_some, Option.some.injEq] at hi
      have := f2 i k (by omega) hk (by omega)
      omega
    · cases hi
  have h1 := asg_le ls noneP _ ((pt_asg ls noneP _).1 hpt)
  rw [cntR_len (fun x hx => by obtain ⟨i, _, rfl⟩ := List.mem_map.1 hx; omega), hlen] at h1
  exact Nat.le_antisymm (mostR_le _ _) h1
theorem selI_cn (p : Nat → Bool) : ∀ n, (selI p n).length = cn p n := by
  intro n
  induction n with
  | zero => rfl
  | succ n ih =>
    simp only [cn]
    cases h : p n with
    | true => rw [selI_yes h, List.length_append, ih]; simp
    | false => rw [selI_no h, ih]; simp
theorem hit_nb (ls : List (List Int)) (S : Nat → Bool) (m : Nat) : hitL ls (selI S ls.length) m = nbB (relB ls) ls.length S m := by
  rw [Bool.eq_iff_iff, nbB_iff]
  unfold hitL relB
  simp only [List.any_eq_true, decide_eq_true_eq]
  constructor
  · rintro ⟨k, hk, h⟩
    obtain ⟨i, rfl, hi, hs⟩ := selI_mem.1 hk
    exact ⟨i, hi, hs, by simpa using h⟩
  · rintro ⟨i, hi, hs, h⟩
    exact ⟨(i : Int), selI_mem.2 ⟨i, rfl, hi, hs⟩, by simpa using h⟩
theorem blk_cn (ls : List (List Int)) (S : Nat → Bool) : blkS ls (selI S ls.length) = decide (cn (nbB (relB ls) ls.length S) 7 < cn S ls.length) := by
  unfold blkS cntP
  rw [selI_cn, selI_cn]
  congr 1
  rw [cn_congr 7 (fun m _ => hit_nb ls S m)]
/-- Blocked stations there are just where not all can be filled. -/
theorem blocked_iff {ls : List (List Int)} (hb : Mov7 ls) : blockedR ls ≠ [] ↔ mostR ls noneP < ls.length := by
  constructor
  · intro h
    obtain ⟨⟨s, _, _, hs⟩, hk, _⟩ := (bestS_spec ls _).2 h
    rw [hs, blk_cn] at hk
    have hk := of_decide_eq_true hk
    rcases Nat.lt_or_ge (mostR ls noneP) ls.length with h1 | h1
    · exact h1
    · obtain ⟨f, f1, f2⟩ := full_sdr hb (Nat.le_antisymm (mostR_le _ _) h1)
      have := sdr_count f1 f2 s.testBit
      omega
  · intro h hn
    have hH : HallB (relB ls) ls.length 7 := by
      intro S
      rcases Nat.lt_or_ge (cn (nbB (relB ls) ls.length S) 7) (cn S ls.length) with h1 | h1
      · exfalso
        have hne : selI S ls.length ≠ [] := by
          intro e
          have := selI_cn S ls.length
          rw [e] at this
          simp at this
          omega
        obtain ⟨s, s1, s2, s3⟩ := inc_bits (selI_Inc S ls.length) hne
        have h2 := (bestS_spec ls _).1 hn s s1 s2
        rw [s3, blk_cn, decide_eq_false_iff_not] at h2
        exact h2 h1
      · exact h1
    obtain ⟨f, f1, f2⟩ := rado ls.length 7 _ (relB ls) (Nat.le_refl _) hH
    have := sdr_full f1 f2
    omega
end Go.Proofs.YtahehdgkbhjpoaaGreatDoor

namespace Go.Proofs.YtahehdgkbhjpoaaGreatDoor
set_option linter.unusedVariables false
set_option linter.unusedSimpArgs false
open Go.RowKit

theorem reach_row {m : Nat} {ar : List Arc} {p q : List Int} {a : Int} {k : Nat} {y : Int} (h : q[k]? = some y) : (reachL m ar p q a).getD k [] = selI (reachP m ar p a y) p.length := by
  unfold reachL
  simp [List.getD, h]
theorem reach_lt (m : Nat) (ar : List Arc) (p q : List Int) (a : Int) : ∀ l ∈ reachL m ar p q a, ∀ x ∈ l, 0 ≤ x ∧ x < (p.length : Int) := by
  intro l hl x hx
  unfold reachL at hl
  obtain ⟨y, _, rfl⟩ := List.mem_map.1 hl
  obtain ⟨i, rfl, hi, _⟩ := selI_mem.1 hx
  omega
theorem reach_mov7 {m : Nat} {ar : List Arc} {p q : List Int} {a : Int} (h : p.length ≤ 7) : Mov7 (reachL m ar p q a) := fun l hl x hx => by
  have := reach_lt m ar p q a l hl x hx
  omega
/-- A filling keeps its limit. -/
theorem slow_le {m : Nat} {l : List St} {p q : List Int} {a : Int} {r : List Int} (hg : goodMv (m : Int) l p q = true) (ha : 0 ≤ a) (hf : fillB m (arcs l) p q a r = true) :
    ∃ z, slowK m (arcs l) p q r r.length = some z ∧ 0 ≤ z ∧ z ≤ a := by
  obtain ⟨g1, g2, g3, g4, g5⟩ := goodMv_true hg
  have hA := arcs_good g1
  rw [Int.toNat_natCast] at hA
  unfold fillB at hf
  rw [Bool.and_eq_true] at hf
  obtain ⟨h1, h2⟩ := hf
  obtain ⟨h3, h4⟩ := goodOn_true h1
  unfold fillW at h2
  rw [List.all_eq_true] at h2
  have key : ∀ k, k ≤ r.length → ∃ z, slowK m (arcs l) p q r k = some z ∧ 0 ≤ z ∧ z ≤ a := by
    intro k
    induction k with
    | zero => intro _; exact ⟨0, rfl, Int.le_refl _, ha⟩
    | succ k ih =>
      intro hk
      obtain ⟨z, hz, z0, z1⟩ := ih (by omega)
      by_cases hx : r.getD k 0 < 0
      · exact ⟨z, slowK_skip hz hx, z0, z1⟩
      · have hfa := h2 k (List.mem_range.2 (by omega))
        unfold fillAt at hfa
        rw [Bool.or_eq_true, decide_eq_true_eq, decide_eq_true_eq] at hfa
        have hfa := hfa.resolve_left hx
        obtain ⟨y, hy⟩ : ∃ y, q[k]? = some y := ⟨_, List.getElem?_eq_getElem (show k < q.length by omega)⟩
        rw [reach_row hy] at hfa
        obtain ⟨i, hi, hip, hb⟩ := selI_mem.1 hfa
        unfold reachP at hb
        obtain ⟨b0, b1⟩ := inB_true hb
        have hmv : moveT m (arcs l) p q r k = (distT m (arcs l) y.toNat).getD (p.getD i 0).toNat 0 := by
          unfold moveT
          rw [hi, Int.toNat_natCast, getD_of hy]
          have e1 := g2 y (List.mem_of_getElem? hy)
          have e2 := g5 (p.getD i 0) (by rw [List.getD, List.getElem?_eq_getElem hip]; exact List.getElem_mem hip)
          exact dist_sym hA (by omega) (by omega)
        rw [slowK_max hz hx (by rw [hmv]; omega)]
        refine ⟨_, rfl, ?_, ?_⟩ <;> rw [hmv] <;> unfold maxI <;> split <;> omega
  exact key _ (Nat.le_refl _)
theorem covered_snd {n : Int} {l : List St} {p q : List Int} {a : Int} {r : List Int} (h : askF n l p q a r = true) : (coveredAfterV n l p q a r).2 = true := by
  unfold coveredAfterV; rw [if_pos h]; rfl
theorem slow_is {m : Nat} {l : List St} {p q : List Int} {a : Int} {r : List Int} (hg : goodMv (m : Int) l p q = true) (ha : 0 ≤ a) (hf : fillB m (arcs l) p q a r = true) : ∃ z, slowestMoveV m l p q r = (z, true) ∧ z ≤ a := by
  obtain ⟨z, h1, _, h2⟩ := slow_le hg ha hf
  refine ⟨z, ?_, h2⟩
  unfold slowestMoveV askO
  have : goodOn p.length q.length r = true := by unfold fillB at hf; rw [Bool.and_eq_true] at hf; exact hf.1
  rw [hg, this, if_pos (by rfl), Int.toNat_natCast, h1]
  rfl
/-- What FnMoves asks of the filling. -/
theorem moves_is {m : Nat} {l : List St} {p q : List Int} {a : Int} (h : askM (m : Int) l p q a = true) :
    isFillingV m l p q a (fillStationsV m l p q a).1 = (true, true) ∧ (∃ z, slowestMoveV m l p q (fillStationsV m l p q a).1 = (z, true) ∧ z ≤ a) ∧ (coveredAfterV m l p q a (fillStationsV m l p q a).1).2 = true ∧ ((cntR (fillStationsV m l p q a).1 : Nat) : Int) = (mostFilledV m l p q a).1 := by
  obtain ⟨hg, hb⟩ := askM_true h
  obtain ⟨a0, a1⟩ := inB_true hb
  have e : (fillStationsV m l p q a).1 = fillR (reachL m (arcs l) p q a) noneP (mostR (reachL m (arcs l) p q a) noneP) := by unfold fillStationsV; rw [if_pos h]; rfl
  obtain ⟨f1, f2⟩ := fill_asg (reachL m (arcs l) p q a) noneP _ (fun r hr x hx => (reach_lt m (arcs l) p q a r hr x hx).1) rfl
  obtain ⟨k1, k2⟩ := pt_good (reach_lt m (arcs l) p q a) (fillR_ge _ _ _) ((pt_asg _ _ _).2 f1)
  rw [reachL_len] at k1
  have hf : fillB m (arcs l) p q a (fillStationsV m l p q a).1 = true := by unfold fillB; rw [e, k1, k2]; rfl
  refine ⟨?_, slow_is hg a0 hf, covered_snd (by unfold askF; rw [h, Int.toNat_natCast, hf]; rfl), ?_⟩
  · unfold isFillingV; rw [if_pos h, Int.toNat_natCast, hf]
  · rw [e, f2]; unfold mostFilledV; rw [if_pos h]; rfl
/-- Blocked stations are told just where not all can be filled. -/
theorem blocked_is {m : Nat} {l : List St} {p q : List Int} {a : Int} (h : askM (m : Int) l p q a = true) : (blockedStationsV m l p q a).2 = decide ((mostFilledV m l p q a).1 < (q.length : Int)) := by
  obtain ⟨hg, _⟩ := askM_true h
  obtain ⟨_, _, _, g4, _⟩ := goodMv_true hg
  unfold blockedStationsV mostFilledV
  rw [if_pos h, if_pos h]
  simp only [Int.toNat_natCast]
  rw [decide_eq_decide, blocked_iff (reach_mov7 g4), reachL_len]
  omega

/-- The movers of some stations, each once. -/
def addU (M : List Int) (x : Int) : List Int := if x ∈ M then M else M ++ [x]
theorem addU_yes {M : List Int} {x : Int} (h : decide (x ∈ M) = true) : addU M x = M := by unfold addU; rw [if_pos (of_decide_eq_true h)]
theorem addU_no {M : List Int} {x : Int} (h : decide (x ∈ M) = false) : addU M x = M ++ [x] := by unfold addU; rw [if_neg (of_decide_eq_false h)]
theorem nodup_cn : ∀ (M : List Int) (P : Nat → Bool), M.Nodup → (∀ x ∈ M, ∃ i : Nat, x = (i : Int) ∧ i < 7 ∧ P i = true) → M.length ≤ cn P 7 := by
  intro M
  induction M with
  | nil => intro P _ _; simp
  | cons x M ih =>
    intro P hn h
    rw [List.nodup_cons] at hn
    obtain ⟨i, rfl, h7, hP⟩ := h x (by simp)
    rw [cn_off hP h7, List.length_cons]
    have := ih (offB P i) hn.2 (fun y hy => by
      obtain ⟨j, rfl, j7, hj⟩ := h y (List.mem_cons_of_mem _ hy)
      refine ⟨j, rfl, j7, ?_⟩
      have : j ≠ i := by rintro rfl; exact hn.1 hy
      unfold offB; simp [hj, this])
    omega
theorem addU_foldl (F : List Int) : ∀ M : List Int, M.Nodup → (F.foldl addU M).Nodup ∧ ∀ x, x ∈ F.foldl addU M ↔ x ∈ M ∨ x ∈ F := by
  induction F with
  | nil => intro M h; exact ⟨h, by simp⟩
  | cons y F ih =>
    intro M h
    have h1 : (addU M y).Nodup ∧ ∀ x, x ∈ addU M y ↔ x ∈ M ∨ x = y := by
      unfold addU
      split
      · rename_i hm
        exact ⟨h, fun x => ⟨.inl, fun hx => by rcases hx with hx | rfl <;> assumption⟩⟩
      · rename_i hm
        refine ⟨List.nodup_append.2 ⟨h, by simp, fun x hx z hz => ?_⟩, by simp⟩
        simp at hz
        subst hz
        rintro rfl
        exact hm hx
    obtain ⟨i1, i2⟩ := ih _ h1.1
    refine ⟨i1, fun x => ?_⟩
    rw [List.foldl_cons, i2, h1.2, List.mem_cons, or_assoc]
def movL (TB : List (List Int)) (bl : List Int) : List Int := (bl.flatMap fun k => TB.getD k.toNat []).foldl addU []
theorem movL_less {m : Nat} {l : List St} {p q : List Int} {a : Int} (h : (blockedStationsV m l p q a).2 = true) :
    (movL (reachTableV m l p q a).1 (blockedStationsV m l p q a).1).length < (blockedStationsV m l p q a).1.length ∧ (movL (reachTableV m l p q a).1 (blockedStationsV m l p q a).1).length ≤ 7 := by
  have hask : askM (m : Int) l p q a = true := by
    unfold blockedStationsV at h
    split at h
    · assumption
    · cases h
  obtain ⟨hg, _⟩ := askM_true hask
  obtain ⟨_, _, _, g4, _⟩ := goodMv_true hg
  have e1 : (reachTableV m l p q a).1 = reachL m (arcs l) p q a := by unfold reachTableV; rw [if_pos hask]; rfl
  have e2 : blockedStationsV m l p q a = (blockedR (reachL m (arcs l) p q a), decide (blockedR (reachL m (arcs l) p q a) ≠ [])) := by unfold blockedStationsV; rw [if_pos hask]; rfl
  rw [e2] at h ⊢
  rw [e1]
  obtain ⟨TB, hTB⟩ : ∃ TB, reachL m (arcs l) p q a = TB := ⟨_, rfl⟩
  have hb := reach_mov7 (m := m) (ar := arcs l) (p := p) (q := q) (a := a) g4
  rw [hTB] at h hb ⊢
  have hne : blockedR TB ≠ [] := of_decide_eq_true h
  have hk := of_decide_eq_true (show decide (cntP (hitL TB (blockedR TB)) < (blockedR TB).length) = true from ((bestS_spec TB _).2 hne).2.1)
  unfold cntP at hk
  rw [selI_cn] at hk
  obtain ⟨n1, n2⟩ := addU_foldl ((blockedR TB).flatMap fun k => TB.getD k.toNat []) [] (by simp)
  have := nodup_cn _ (hitL TB (blockedR TB)) n1 (fun x hx => by
    rcases (n2 x).1 hx with hx | hx
    · cases hx
    · obtain ⟨k, hk, hm⟩ := List.mem_flatMap.1 hx
      have hrow : TB.getD k.toNat [] ∈ TB := by
        rcases Nat.lt_or_ge k.toNat TB.length with h1 | h1
        · rw [List.getD, List.getElem?_eq_getElem h1]; exact List.getElem_mem h1
        · rw [List.getD, List.getElem?_eq_none h1] at hm; cases hm
      obtain ⟨x0, x1⟩ := hb _ hrow x hm
      refine ⟨x.toNat, by omega, by omega, ?_⟩
      unfold hitL
      rw [List.any_eq_true]
      exact ⟨k, hk, decide_eq_true (by rw [show ((x.toNat : Nat) : Int) = x by omega]; exact hm)⟩)
  have h7 : cn (hitL TB (blockedR TB)) 7 ≤ 7 := by rw [← selI_cn]; exact selI_len _ _
  unfold movL
  dsimp only
  omega
theorem cntR_snoc {r : List Int} {k : Nat} {x : Int} (h : r[k]? = some x) : cntR (r.take (k + 1)) = cntR (r.take k) + if 0 ≤ x then 1 else 0 := by
  rw [take_succ_of h]
  unfold cntR
  rw [List.filter_append, List.length_append]
  by_cases hx : 0 ≤ x <;> simp [hx]
theorem addU_len7 {G : List Int} (h : ∀ x ∈ G, 0 ≤ x ∧ x < 7) : (G.foldl addU []).length ≤ 7 := by
  obtain ⟨n1, n2⟩ := addU_foldl G [] (by simp)
  have := nodup_cn _ (fun _ => true) n1 (fun x hx => by
    rcases (n2 x).1 hx with hx | hx
    · cases hx
    · have := h x hx
      exact ⟨x.toNat, by omega, by omega, rfl⟩)
  have h7 : cn (fun _ => true) 7 ≤ 7 := by rw [← selI_cn]; exact selI_len _ _
  omega
theorem mov_flat {TB : List (List Int)} (hb : Mov7 TB) (bl : List Int) : ∀ x ∈ bl.flatMap (fun k => TB.getD k.toNat []), 0 ≤ x ∧ x < 7 := by
  intro x hx
  obtain ⟨k, _, hm⟩ := List.mem_flatMap.1 hx
  rcases Nat.lt_or_ge k.toNat TB.length with h1 | h1
  · rw [List.getD, List.getElem?_eq_getElem h1] at hm
    exact hb _ (List.getElem_mem h1) x hm
  · rw [List.getD, List.getElem?_eq_none h1] at hm; cases hm
theorem mov_len {TB : List (List Int)} (hb : Mov7 TB) (bl row : List Int) (hrow : row ∈ TB) (j : Nat) : ((row.take j).foldl addU (movL TB bl)).length ≤ 7 := by
  unfold movL
  rw [← List.foldl_append]
  refine addU_len7 (fun x hx => ?_)
  rcases List.mem_append.1 hx with hx | hx
  · exact mov_flat hb bl x hx
  · exact hb row hrow x (List.mem_of_mem_take hx)
theorem mov_snoc {TB : List (List Int)} {bl row : List Int} {k i : Nat} (h : bl[k]? = some (i : Int)) (hr : TB[i]? = some row) : movL TB (bl.take (k + 1)) = row.foldl addU (movL TB (bl.take k)) := by
  unfold movL
  rw [take_succ_of h, List.flatMap_append, List.foldl_append]
  simp [List.getD, hr]
theorem blk_in {n : Int} {l : List St} {p q : List Int} {a : Int} : ∀ x ∈ (blockedStationsV n l p q a).1, ∃ i : Nat, x = (i : Int) ∧ i < (reachTableV n l p q a).1.length := by
  unfold blockedStationsV reachTableV
  split
  · intro x hx
    dsimp only at hx ⊢
    rcases Decidable.em (blockedR (reachL n.toNat (arcs l) p q a) = []) with h0 | h0
    · rw [h0] at hx; cases hx
    · obtain ⟨⟨s, _, _, hs⟩, _⟩ := (bestS_spec _ _).2 h0
      rw [show blockedR (reachL n.toNat (arcs l) p q a) = _ from hs] at hx
      obtain ⟨i, hi, h1, _⟩ := selI_mem.1 hx
      exact ⟨i, hi, h1⟩
  · intro x hx; cases hx
theorem mov7_V {n : Int} {l : List St} {p q : List Int} {a : Int} : Mov7 (reachTableV n l p q a).1 := by
  unfold reachTableV
  split
  · rename_i h
    obtain ⟨hg, _⟩ := askM_true h
    exact reach_mov7 (goodMv_true hg).2.2.2.1
  · intro l hl; cases hl
theorem fill_snd (n : Int) (l : List St) (p q : List Int) (a : Int) : (fillStationsV n l p q a).2 = askM n l p q a := by
  unfold fillStationsV; split <;> rename_i h
  · rw [h]
  · simp at h; rw [h]
theorem most_snd (n : Int) (l : List St) (p q : List Int) (a : Int) : (mostFilledV n l p q a).2 = askM n l p q a := by
  unfold mostFilledV; split <;> rename_i h
  · rw [h]
  · simp at h; rw [h]
theorem table_snd (n : Int) (l : List St) (p q : List Int) (a : Int) : (reachTableV n l p q a).2 = askM n l p q a := by
  unfold reachTableV; split <;> rename_i h
  · rw [h]
  · simp at h; rw [h]
theorem blk_no {n : Int} {l : List St} {p q : List Int} {a : Int} (h : askM n l p q a = false) : (blockedStationsV n l p q a).2 = false := by
  unfold blockedStationsV; rw [h]; rfl
theorem cntR_le (r : List Int) : cntR r ≤ r.length := List.length_filter_le _ _
end Go.Proofs.YtahehdgkbhjpoaaGreatDoor

namespace Go.Proofs.YtahehdgkbhjpoaaGreatDoor
set_option linter.unusedVariables false
set_option linter.unusedSimpArgs false
open Go.RowKit

theorem most_at {m : Nat} {l : List St} {p q : List Int} {a : Int} (h : askM (m : Int) l p q a = true) : (mostFilledV m l p q a).1 = ((mostR (reachL m (arcs l) p q a) noneP : Nat) : Int) := by
  unfold mostFilledV; rw [if_pos h]; rfl
theorem fleast_is {m : Nat} {l : List St} {p q : List Int} {x : Int} (h : leastFillLimitV m l p q = (x, true)) :
    askM (m : Int) l p q x = true ∧ (mostFilledV m l p q x).1 = (q.length : Int) ∧ 0 ≤ x ∧ x ≤ 36000 ∧ (0 < x → askM (m : Int) l p q (x - 1) = true ∧ (mostFilledV m l p q (x - 1)).1 < (q.length : Int)) := by
  unfold leastFillLimitV at h
  split at h
  case isFalse => cases h
  case isTrue hg =>
    rw [Int.toNat_natCast] at h
    cases hf : (limS m (arcs l) p q).find? (gOK m (arcs l) p q) with
    | none => rw [hf] at h; cases h
    | some y =>
      rw [hf] at h
      simp only [Prod.mk.injEq, and_true] at h
      subst h
      have hpw : (limS m (arcs l) p q).Pairwise (· ≤ ·) := by
        have := List.pairwise_mergeSort (le := fun (x y : Int) => decide (x ≤ y)) (fun a b c h1 h2 => by simp at h1 h2 ⊢; omega) (fun a b => by simp; omega) (limF m (arcs l) p q)
        exact this.imp (fun h => by simpa using h)
      obtain ⟨_, hok, hmin⟩ := find_min hpw hf
      have hok2 := hok
      unfold gOK at hok2
      rw [Bool.and_eq_true, decide_eq_true_eq] at hok2
      obtain ⟨hb, hm⟩ := hok2
      obtain ⟨y0, y1⟩ := inB_true hb
      have hask : askM (m : Int) l p q y = true := by unfold askM; rw [hg, hb]; rfl
      refine ⟨hask, by rw [most_at hask, hm], y0, y1, fun hy => ?_⟩
      have hask2 : askM (m : Int) l p q (y - 1) = true := by unfold askM; rw [hg]; unfold inB; simp; omega
      refine ⟨hask2, ?_⟩
      rw [most_at hask2]
      have hle := mostR_le (reachL m (arcs l) p q (y - 1)) noneP
      rw [reachL_len] at hle
      rcases Nat.lt_or_ge (mostR (reachL m (arcs l) p q (y - 1)) noneP) q.length with h1 | h1
      · omega
      · exfalso
        obtain ⟨_, _, _, g4, _⟩ := goodMv_true hg
        have hlen := reachL_len m (arcs l) p q (y - 1)
        obtain ⟨f, f1, f2⟩ := full_sdr (reach_mov7 (q := q) (a := y - 1) g4) (show mostR (reachL m (arcs l) p q (y - 1)) noneP = (reachL m (arcs l) p q (y - 1)).length by omega)
        rw [hlen] at f1 f2
        have at_ : ∀ i, i < q.length → ∃ s, q[i]? = some s ∧ f i < p.length ∧ inB ((distT m (arcs l) s.toNat).getD (p.getD (f i) 0).toNat 0) 0 (y - 1) = true := by
          intro i hi
          obtain ⟨s, hs⟩ : ∃ s, q[i]? = some s := ⟨_, List.getElem?_eq_getElem hi⟩
          have h2 := (f1 i hi).2
          unfold relB at h2
          have h2 := of_decide_eq_true h2
          rw [reach_row hs] at h2
          obtain ⟨j, hj, hjp, hr⟩ := selI_mem.1 h2
          have : f i = j := by omega
          subst this
          exact ⟨s, hs, hjp, hr⟩
        have top : ∀ k, k ≤ q.length → ∃ z, 0 ≤ z ∧ z ≤ y - 1 ∧ z ∈ limF m (arcs l) p q ∧ ∀ i, i < k → ∀ s, q[i]? = some s → (distT m (arcs l) s.toNat).getD (p.getD (f i) 0).toNat 0 ≤ z := by
          intro k
          induction k with
          | zero => intro _; exact ⟨0, Int.le_refl _, by omega, by simp [limF], fun i hi => by omega⟩
          | succ k ih =>
            intro hk
            obtain ⟨z, z0, z1, z2, z3⟩ := ih (by omega)
            obtain ⟨s, hs, hfp, hin⟩ := at_ k (by omega)
            obtain ⟨d0, d1⟩ := inB_true hin
            obtain ⟨D, hD⟩ : ∃ D, (distT m (arcs l) s.toNat).getD (p.getD (f k) 0).toNat 0 = D := ⟨_, rfl⟩
            rw [hD] at d0 d1
            have hmem : D ∈ limF m (arcs l) p q := by
              unfold limF
              refine List.mem_cons_of_mem _ (List.mem_flatMap.2 ⟨s, List.mem_of_getElem? hs, ?_⟩)
              unfold rowT
              refine List.mem_map.2 ⟨p.getD (f k) 0, ?_, hD⟩
              rw [List.getD, List.getElem?_eq_getElem hfp]; exact List.getElem_mem hfp
            by_cases hz : D ≤ z
            · refine ⟨z, z0, z1, z2, fun i hi t ht => ?_⟩
              by_cases e : i = k
              · subst e; rw [hs] at ht; injection ht with ht; subst ht; rw [hD]; exact hz
              · exact z3 i (by omega) t ht
            · refine ⟨D, d0, d1, hmem, fun i hi t ht => ?_⟩
              by_cases e : i = k
              · subst e; rw [hs] at ht; injection ht with ht; subst ht; rw [hD]; exact Int.le_refl _
              · have := z3 i (by omega) t ht; omega
        obtain ⟨z, z0, z1, z2, z3⟩ := top q.length (Nat.le_refl _)
        have hfull : mostR (reachL m (arcs l) p q z) noneP = q.length := by
          have hlz := reachL_len m (arcs l) p q z
          have h5 := sdr_full (ls := reachL m (arcs l) p q z) (f := f) (fun i hi => by
            rw [hlz] at hi
            obtain ⟨s, hs, hfp, hin⟩ := at_ i hi
            refine ⟨(f1 i hi).1, ?_⟩
            unfold relB
            rw [reach_row hs]
            refine decide_eq_true (selI_mem.2 ⟨f i, rfl, hfp, ?_⟩)
            unfold reachP
            have h6 := (inB_true hin).1
            have h7 := z3 i hi s hs
            unfold inB; simp only [Bool.and_eq_true, decide_eq_true_eq]; exact ⟨h6, h7⟩) (fun i j hi hj e => f2 i j (by rw [hlz] at hi; exact hi) (by rw [hlz] at hj; exact hj) e)
          rw [hlz] at h5; exact h5
        have hzz := hmin z (by unfold limS; rw [List.mem_mergeSort]; exact z2) (by unfold gOK; rw [hfull]; unfold inB; simp; omega)
        omega
/-- A filling keeps its limit, and fills no more than can be. -/
theorem fil_is {m : Nat} {l : List St} {p q : List Int} {a : Int} {r : List Int} (h : askM (m : Int) l p q a = true) (hf : fillB m (arcs l) p q a r = true) :
    (∃ z, slowestMoveV m l p q r = (z, true) ∧ z ≤ a) ∧ ((cntR r : Nat) : Int) ≤ (mostFilledV m l p q a).1 := by
  obtain ⟨hg, hb⟩ := askM_true h
  refine ⟨slow_is hg (inB_true hb).1 hf, ?_⟩
  rw [most_at h]
  unfold fillB at hf
  rw [Bool.and_eq_true] at hf
  have h1 := hf.1
  rw [← reachL_len m (arcs l) p q a] at h1
  have := asg_le _ _ _ ((pt_asg _ _ _).1 (good_pt h1 hf.2))
  omega
theorem filling_snd (n : Int) (l : List St) (p q : List Int) (a : Int) (r : List Int) : (isFillingV n l p q a r).2 = askM n l p q a := by
  unfold isFillingV; split <;> rename_i h
  · rw [h]
  · simp at h; rw [h]
theorem after_snd (n : Int) (l : List St) (p q : List Int) (a : Int) (r : List Int) : (coveredAfterV n l p q a r).2 = ((isFillingV n l p q a r).2 && (isFillingV n l p q a r).1) := by
  unfold coveredAfterV isFillingV askF
  by_cases h : askM n l p q a = true
  · rw [if_pos h, h]
    cases hf : fillB n.toNat (arcs l) p q a r with
    | true => rw [if_pos (by rfl)]; rfl
    | false => rw [if_neg (by simp)]; rfl
  · have h2 : askM n l p q a = false := by simpa using h
    rw [if_neg h, h2]; rfl
theorem filling_true {m : Nat} {l : List St} {p q : List Int} {a : Int} {r : List Int} (h : (isFillingV m l p q a r).1 = true) : askM (m : Int) l p q a = true ∧ fillB m (arcs l) p q a r = true := by
  unfold isFillingV at h
  split at h
  · rename_i hk; exact ⟨hk, by simpa using h⟩
  · cases h
theorem cntK_snoc {r : List Int} {k : Nat} {x : Int} (h : r[k]? = some x) : cntR (r.take (k + 1)) = cntR (r.take k) + if 0 ≤ x then 1 else 0 := cntR_snoc h
end Go.Proofs.YtahehdgkbhjpoaaGreatDoor
