/-
  Windows: the plain law of FnWindows.
-/
import Derived.Test.YtibkadkodblefaaDoorLadFw
import Derived.Test.YtibkadkodblefaaDoorLadZ
import Derived.Test.YtibkadkodblefaaDoorLadY
namespace Go.Proofs.YtibkadkodblefaaDoor
open Go.RowKit

theorem bpF_is {s0 : Int} {cnt : Nat → Int} {blk : Nat → Bool} (hc : ∀ k, 0 ≤ cnt k) : ∀ k, ((∀ j, j < k → blk j = true) ∧ bpF s0 cnt blk k = (s0, -1)) ∨ ∃ j, j < k ∧ blk j = false ∧ bpF s0 cnt blk k = (10 * (j : Int), cnt j) ∧ ∀ i, i < k → blk i = false → cnt i ≤ cnt j := by
  intro k
  induction k with
  | zero => exact .inl ⟨fun j hj => by omega, rfl⟩
  | succ k ih =>
    cases hb : blk k with
    | true =>
      have e : bpF s0 cnt blk (k + 1) = bpF s0 cnt blk k := by simp only [bpF]; rw [if_pos hb]
      rw [e]
      rcases ih with ⟨h1, h2⟩ | ⟨j, h1, h2, h3, h4⟩
      · refine .inl ⟨fun j hj => ?_, h2⟩
        rcases (show j < k ∨ j = k by omega) with h | rfl
        · exact h1 j h
        · exact hb
      · refine .inr ⟨j, by omega, h2, h3, fun i hi hbi => ?_⟩
        rcases (show i < k ∨ i = k by omega) with h | rfl
        · exact h4 i h hbi
        · rw [hb] at hbi; cases hbi
    | false =>
      have hnb : ¬ blk k = true := by rw [hb]; simp
      have e : bpF s0 cnt blk (k + 1) = if (bpF s0 cnt blk k).2 < cnt k then (10 * (k : Int), cnt k) else bpF s0 cnt blk k := by
        show (if blk k = true then _ else _) = _
        rw [if_neg hnb]
      rw [e]
      rcases ih with ⟨h1, h2⟩ | ⟨j, h1, h2, h3, h4⟩
      · rw [h2]
        have := hc k
        rw [if_pos (show (-1 : Int) < cnt k by omega)]
        refine .inr ⟨k, by omega, hb, rfl, fun i hi hbi => ?_⟩
        rcases (show i < k ∨ i = k by omega) with h | rfl
        · rw [h1 i h] at hbi; cases hbi
        · exact Int.le_refl _
      · rw [h3]
        by_cases hlt : cnt j < cnt k
        · rw [if_pos hlt]
          refine .inr ⟨k, by omega, hb, rfl, fun i hi hbi => ?_⟩
          rcases (show i < k ∨ i = k by omega) with h | rfl
          · have := h4 i h hbi; omega
          · exact Int.le_refl _
        · rw [if_neg hlt]
          refine .inr ⟨j, by omega, h2, rfl, fun i hi hbi => ?_⟩
          rcases (show i < k ∨ i = k by omega) with h | rfl
          · exact h4 i h hbi
          · omega
theorem reach_at {b l o s m wall : Int} {ws : List Wn} (h0 : ladOk b l o s m = true) (h1 : inB wall 0 200 = true) (h2 : wnOk ws = true) {x : Int} (hx : 0 ≤ x ∧ x ≤ 600) :
    reachedFromV b l o s m wall x ws = (selD (winP (ptAll b o l.toNat s.toNat m.toNat) wall x ws) ws.length, true) := by
  unfold reachedFromV
  rw [if_pos ⟨h0, h1, by unfold inB; simp; omega, h2⟩]
theorem reach_in {b l o s m wall x : Int} {ws : List Wn} (h : (reachedFromV b l o s m wall x ws).2 = true) : ∀ i ∈ (reachedFromV b l o s m wall x ws).1, 0 ≤ i ∧ i < (ws.length : Int) := by
  intro i hi
  unfold reachedFromV at h hi
  split at h
  · rename_i hk
    rw [if_pos hk] at hi
    obtain ⟨j, rfl, hj, _⟩ := selD_mem hi
    omega
  · cases h
theorem best_is {b l o s m wall : Int} {ws : List Wn} {q : List Int} (h : (bestPlaceV b l o s m wall ws q).2.2 = true) :
    (0 ≤ (bestPlaceV b l o s m wall ws q).1 ∧ (bestPlaceV b l o s m wall ws q).1 ≤ 600 ∧ (bestPlaceV b l o s m wall ws q).1.tmod 10 = 0 ∧ (bestPlaceV b l o s m wall ws q).1 ∉ q) ∧
    ((reachedFromV b l o s m wall (bestPlaceV b l o s m wall ws q).1 ws).2 = true ∧ ((reachedFromV b l o s m wall (bestPlaceV b l o s m wall ws q).1 ws).1.length : Int) = (bestPlaceV b l o s m wall ws q).2.1) ∧
    ∀ k : Nat, k < 61 → (reachedFromV b l o s m wall (10 * (k : Int)) ws).2 = true ∧ (10 * (k : Int) ∉ q → ((reachedFromV b l o s m wall (10 * (k : Int)) ws).1.length : Int) ≤ (bestPlaceV b l o s m wall ws q).2.1) := by
  unfold bestPlaceV at h ⊢
  split at h
  · rename_i hk
    rw [if_pos hk]
    obtain ⟨h0, h1, h2, h3, h4⟩ := hk
    simp only [b3]
    have hcn : ∀ k, 0 ≤ cntF (ptAll b o l.toNat s.toNat m.toNat) wall ws k := fun k => by unfold cntF; omega
    rcases bpF_is (s0 := -1) (blk := blkF q) hcn 61 with ⟨e, _⟩ | ⟨j, hj, hb, he, hm⟩
    · obtain ⟨j, hj, hb⟩ := some_free h3
      rw [e j hj] at hb; cases hb
    · rw [he]
      have hnq : 10 * (j : Int) ∉ q := by unfold blkF at hb; exact of_decide_eq_false hb
      refine ⟨⟨by simp only []; omega, by simp only []; omega, ?_, hnq⟩, ⟨?_, ?_⟩, fun k hk => ?_⟩
      · simp only []; rw [Int.tmod_eq_emod_of_nonneg (by omega)]; omega
      · rw [reach_at h0 h1 h2 (by simp only []; omega)]
      · rw [reach_at h0 h1 h2 (by simp only []; omega)]; rfl
      · rw [reach_at h0 h1 h2 (by omega)]
        refine ⟨rfl, fun hq => ?_⟩
        exact hm k hk (by unfold blkF; exact decide_eq_false hq)
  · cases h
theorem gof_some {f : Nat → Option (List Int)} : ∀ (j k : Nat) (T : List Int), gof f k j = some T → ∃ k' T', k ≤ k' ∧ k' < k + j ∧ f k' = some T' ∧ T = 50 * (k' : Int) :: T' := by
  intro j
  induction j with
  | zero => intro k T h; cases h
  | succ j ih =>
    intro k T h
    cases hf : f k with
    | some T' =>
      rw [gof_yes hf] at h
      cases h
      exact ⟨k, T', Nat.le_refl _, by omega, hf, rfl⟩
    | none =>
      rw [gof_no hf] at h
      obtain ⟨k', T', h1, h2, h3, h4⟩ := ih (k + 1) T h
      exact ⟨k', T', by omega, by omega, h3, h4⟩
theorem srchS_is {h : Nat → Nat → Bool} {nW : Nat} {M : List Nat} (hM : ∀ k, k < M.length → MaskOf nW (h k) (M.getD k 0)) : ∀ (n k r : Nat) (P : Nat → Bool) (T : List Int), MaskOf nW P r → srchS M (2 ^ nW - 1) n k r = some T →
    ∃ ks : List Nat, T = ks.map (fun k : Nat => 50 * (k : Int)) ∧ ks.length = n ∧ ks.Pairwise (· < ·) ∧ (∀ x ∈ ks, k ≤ x ∧ x < M.length) ∧ ∀ i, i < nW → P i = true ∨ ∃ x ∈ ks, h x i = true := by
  intro n
  induction n with
  | zero =>
    intro k r P T hr he
    simp only [srchS] at he
    split at he
    · rename_i e
      cases he
      exact ⟨[], rfl, rfl, List.Pairwise.nil, fun x hx => (by cases hx), fun i hi => .inl ((mask_all hr).1 e i hi)⟩
    · cases he
  | succ n ih =>
    intro k r P T hr he
    simp only [srchS] at he
    obtain ⟨k', T', h1, h2, h3, rfl⟩ := gof_some _ _ _ he
    have hk : k' < M.length := by omega
    obtain ⟨ks, rfl, q1, q2, q3, q4⟩ := ih (k' + 1) _ _ _ (mask_or hr (hM k' hk)) h3
    refine ⟨k' :: ks, rfl, by simp [q1], List.Pairwise.cons (fun x hx => by have := (q3 x hx).1; omega) q2, fun x hx => ?_, fun i hi => ?_⟩
    · rcases List.mem_cons.1 hx with rfl | hx
      · exact ⟨h1, hk⟩
      · have := q3 x hx; omega
    · rcases q4 i hi with e | ⟨x, hx, e⟩
      · simp only [Bool.or_eq_true] at e
        rcases e with e | e
        · exact .inl e
        · exact .inr ⟨k', List.mem_cons_self, e⟩
      · exact .inr ⟨x, List.mem_cons_of_mem _ hx, e⟩
theorem firstSome_is {f : Nat → Option (List Int)} {T : List Int} : ∀ {n : Nat}, firstSome f n = some T → ∃ j, j < n ∧ f j = some T := by
  intro n
  induction n with
  | zero => intro h; cases h
  | succ n ih =>
    intro h
    simp only [firstSome] at h
    cases hf : firstSome f n with
    | some T' =>
      rw [hf] at h
      cases h
      obtain ⟨j, h1, h2⟩ := ih hf
      exact ⟨j, by omega, h2⟩
    | none => rw [hf] at h; exact ⟨n, by omega, h⟩
/-- What is reached from the first k places of a list. -/
noncomputable def allF (b l o s m wall : Int) (ws : List Wn) (T : List Int) : List Int := T.flatMap fun x => (reachedFromV b l o s m wall x ws).1
theorem few_is {b l o s m wall : Int} {ws : List Wn} (h : (fewestPlacesV b l o s m wall ws).2 = true) :
    (fewestPlacesV b l o s m wall ws).1.length ≤ 3 ∧
    (∀ (i : Nat) (x : Int), (fewestPlacesV b l o s m wall ws).1[i]? = some x → 0 ≤ x ∧ x ≤ 600 ∧ x.tmod 50 = 0 ∧ (reachedFromV b l o s m wall x ws).2 = true ∧ (reachedFromV b l o s m wall x ws).1.length ≤ 12) ∧
    (∀ (i : Nat) (x y : Int), (fewestPlacesV b l o s m wall ws).1[i]? = some x → (fewestPlacesV b l o s m wall ws).1[i + 1]? = some y → x < y) ∧
    (∀ i : Nat, i < ws.length → (i : Int) ∈ allF b l o s m wall ws (fewestPlacesV b l o s m wall ws).1) ∧ ws.length ≤ 12 := by
  unfold fewestPlacesV at h ⊢
  split at h
  · rename_i hk
    rw [if_pos hk]
    obtain ⟨h0, h1, h2⟩ := hk
    cases hf : firstSome (fun n => srchS (mskL (ptAll b o l.toNat s.toNat m.toNat) wall ws 13) (2 ^ ws.length - 1) n 0 0) 4 with
    | none => rw [hf] at h; cases h
    | some T =>
      simp only [optL]
      obtain ⟨n, hn, he⟩ := firstSome_is hf
      obtain ⟨ks, rfl, q1, q2, q3, q4⟩ := srchS_is (h := fun k => winP (ptAll b o l.toNat s.toNat m.toNat) wall (50 * (k : Int)) ws) (nW := ws.length) (M := mskL (ptAll b o l.toNat s.toNat m.toNat) wall ws 13) (fun k hk => by
        rw [mskL_len] at hk
        rw [mskL_get hk]
        exact maskL_of _ _) n 0 0 (fun _ => false) T (fun i => by simp) he
      have hw := (wnOk_true h2).2
      rw [mskL_len] at q3
      have hat : ∀ k ∈ ks, reachedFromV b l o s m wall (50 * (k : Int)) ws = (selD (winP (ptAll b o l.toNat s.toNat m.toNat) wall (50 * (k : Int)) ws) ws.length, true) := fun k hk => reach_at h0 h1 h2 (by have := q3 k hk; omega)
      refine ⟨by simp; omega, fun i x hx => ?_, fun i x y hx hy => ?_, fun i hi => ?_, hw⟩
      · rw [List.getElem?_map] at hx
        obtain ⟨k, hk, rfl⟩ := Option.map_eq_some_iff.1 hx
        have hm := List.mem_of_getElem? hk
        have := q3 k hm
        refine ⟨by omega, by omega, ?_, ?_, ?_⟩
        · rw [Int.tmod_eq_emod_of_nonneg (by omega)]; omega
        · rw [hat k hm]
        · rw [hat k hm]; exact Nat.le_trans (selD_len _ _) hw
      · rw [List.getElem?_map] at hx hy
        obtain ⟨k, hk, rfl⟩ := Option.map_eq_some_iff.1 hx
        obtain ⟨k', hk', rfl⟩ := Option.map_eq_some_iff.1 hy
        obtain ⟨hl, e⟩ := List.getElem?_eq_some_iff.1 hk
        obtain ⟨hl', e'⟩ := List.getElem?_eq_some_iff.1 hk'
        have := List.pairwise_iff_getElem.1 q2 i (i + 1) hl hl' (by omega)
        rw [e, e'] at this
        omega
      · rcases q4 i hi with e | ⟨x, hx, e⟩
        · cases e
        · refine List.mem_flatMap.2 ⟨50 * (x : Int), List.mem_map.2 ⟨x, hx, rfl⟩, ?_⟩
          rw [hat x hx]
          exact selD_in.2 ⟨hi, e⟩
  · cases h
theorem allF_snoc (b l o s m wall : Int) (ws : List Wn) (T : List Int) {k : Nat} {x : Int} (h : T[k]? = some x) : allF b l o s m wall ws (T.take (k + 1)) = allF b l o s m wall ws (T.take k) ++ (reachedFromV b l o s m wall x ws).1 := by
  unfold allF; rw [take_succ_of h, List.flatMap_append]; simp
end Go.Proofs.YtibkadkodblefaaDoor
