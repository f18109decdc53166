/-
  LeastFillLimit: the plain law.
-/
import Derived.Test.YtgdigcnpjkkmfaaMvN
import Derived.Test.YtgdigcnpjkkmfaaPut
namespace Go.Proofs.Ytgdigcnpjkkmfaa
open Go.RowKit

theorem find_min {G : Int → Bool} : ∀ {a : List Int}, a.Pairwise (· ≤ ·) → ∀ {x : Int}, a.find? G = some x → x ∈ a ∧ G x = true ∧ ∀ y ∈ a, G y = true → x ≤ y := by
  intro a
  induction a with
  | nil => intro _ x h; simp at h
  | cons z a ih =>
    intro hp x h
    rw [List.pairwise_cons] at hp
    cases hz : G z with
    | true =>
      rw [List.find?_cons_of_pos hz] at h
      obtain rfl := Option.some.inj h
      refine ⟨by simp, hz, fun y hy _ => ?_⟩
      rcases List.mem_cons.1 hy with rfl | hy
      · exact Int.le_refl _
      · exact hp.1 y hy
    | false =>
      rw [List.find?_cons_of_neg (by rw [hz]; simp)] at h
      obtain ⟨h1, h2, h3⟩ := ih hp.2 h
      refine ⟨List.mem_cons_of_mem _ h1, h2, fun y hy hg => ?_⟩
      rcases List.mem_cons.1 hy with rfl | hy
      · rw [hz] at hg; cases hg
      · exact h3 y hy hg
theorem find_same {G : Int → Bool} {a b : List Int} (ha : a.Pairwise (· ≤ ·)) (hb : b.Pairwise (· ≤ ·)) (h : ∀ x, G x = true → (x ∈ a ↔ x ∈ b)) : a.find? G = b.find? G := by
  cases h1 : a.find? G with
  | none =>
    rw [List.find?_eq_none] at h1
    refine (List.find?_eq_none.2 (fun x hx hg => ?_)).symm
    exact h1 x ((h x hg).2 hx) hg
  | some x =>
    obtain ⟨a1, a2, a3⟩ := find_min ha h1
    cases h2 : b.find? G with
    | none => exact absurd a2 (List.find?_eq_none.1 h2 x ((h x a2).1 a1))
    | some y =>
      obtain ⟨b1, b2, b3⟩ := find_min hb h2
      have e1 := a3 y ((h y b2).2 b1) b2
      have e2 := b3 x ((h x a2).1 a1) a2
      rw [show x = y by omega]
theorem find_drop_yes {G : Int → Bool} {l : List Int} {k : Nat} {x : Int} (h : l[k]? = some x) (hg : G x = true) : (l.drop k).find? G = some x := by
  have hk := (List.getElem?_eq_some_iff.1 h).1
  rw [List.drop_eq_getElem_cons hk]
  rw [List.getElem?_eq_getElem hk] at h
  rw [Option.some.inj h, List.find?_cons_of_pos hg]
theorem find_drop_no {G : Int → Bool} {l : List Int} {k : Nat} {x : Int} (h : l[k]? = some x) (hg : G x = false) : (l.drop k).find? G = (l.drop (k + 1)).find? G := by
  have hk := (List.getElem?_eq_some_iff.1 h).1
  rw [List.drop_eq_getElem_cons hk]
  rw [List.getElem?_eq_getElem hk] at h
  rw [Option.some.inj h, List.find?_cons_of_neg (by rw [hg]; simp)]

def gOK (n : Nat) (ar : List Arc) (p q : List Int) (x : Int) : Bool := inB x 0 36000 && decide (mostR (reachL n ar p q x) noneP = q.length)
/-- The times from a station to the movers. -/
def rowT (n : Nat) (ar : List Arc) (p : List Int) (s : Int) : List Int := p.map fun y => (distT n ar s.toNat).getD y.toNat 0
def limF (n : Nat) (ar : List Arc) (p q : List Int) : List Int := 0 :: q.flatMap (rowT n ar p)
def limS (n : Nat) (ar : List Arc) (p q : List Int) : List Int := (limF n ar p q).mergeSort fun x y => decide (x ≤ y)
def putAll (F : List Int) : List Int := F.foldl (fun r x => if inB x 0 36000 = true then putI r x else r) [0]
theorem putAll_snoc (F : List Int) (x : Int) : putAll (F ++ [x]) = if inB x 0 36000 = true then putI (putAll F) x else putAll F := by
  unfold putAll; rw [List.foldl_append]; rfl
theorem foldPut (F : List Int) : ∀ r : List Int, r.Pairwise (· < ·) → (F.foldl (fun r x => if inB x 0 36000 = true then putI r x else r) r).Pairwise (· < ·) ∧ ∀ y, y ∈ F.foldl (fun r x => if inB x 0 36000 = true then putI r x else r) r ↔ y ∈ r ∨ (inB y 0 36000 = true ∧ y ∈ F) := by
  induction F with
  | nil => intro r h; exact ⟨h, fun y => by simp⟩
  | cons x F ih =>
    intro r h
    rw [List.foldl_cons]
    by_cases hx : inB x 0 36000 = true
    · rw [if_pos hx]
      obtain ⟨h1, h2⟩ := ih _ (putI_inc r x h)
      refine ⟨h1, fun y => ?_⟩
      rw [h2, putI_mem, List.mem_cons]
      constructor
      · rintro ((rfl | h) | ⟨h3, h4⟩)
        · exact .inr ⟨hx, .inl rfl⟩
        · exact .inl h
        · exact .inr ⟨h3, .inr h4⟩
      · rintro (h | ⟨h3, rfl | h4⟩)
        · exact .inl (.inr h)
        · exact .inl (.inl rfl)
        · exact .inr ⟨h3, h4⟩
    · rw [if_neg hx]
      obtain ⟨h1, h2⟩ := ih r h
      refine ⟨h1, fun y => ?_⟩
      rw [h2, List.mem_cons]
      constructor
      · rintro (h | ⟨h3, h4⟩)
        · exact .inl h
        · exact .inr ⟨h3, .inr h4⟩
      · rintro (h | ⟨h3, rfl | h4⟩)
        · exact .inl h
        · exact absurd h3 hx
        · exact .inr ⟨h3, h4⟩
theorem putAll_spec (F : List Int) : (putAll F).Pairwise (· < ·) ∧ ∀ y, y ∈ putAll F ↔ y = 0 ∨ (inB y 0 36000 = true ∧ y ∈ F) := by
  obtain ⟨h1, h2⟩ := foldPut F [0] (by simp)
  exact ⟨h1, fun y => (h2 y).trans (by rw [List.mem_singleton])⟩
theorem lim_same {n : Nat} {l : List St} {p q : List Int} (hg : goodTown n l = true) (hp : ∀ x ∈ p, 0 ≤ x ∧ x ≤ (n : Int) - 1) (hq : ∀ x ∈ q, 0 ≤ x ∧ x ≤ (n : Int) - 1) :
    (limS n (arcs l) p q).find? (gOK n (arcs l) p q) = (putAll (timesL n (arcs l) p q).flatten).find? (gOK n (arcs l) p q) := by
  have hA := arcs_good hg
  rw [Int.toNat_natCast] at hA
  obtain ⟨h1, h2⟩ := putAll_spec (timesL n (arcs l) p q).flatten
  refine find_same ?_ (h1.imp (fun h => Int.le_of_lt h)) (fun x hx => ?_)
  · have := List.pairwise_mergeSort (le := fun (x y : Int) => decide (x ≤ y)) (fun a b c h1 h2 => by simp at h1 h2 ⊢; omega) (fun a b => by simp; omega) (limF n (arcs l) p q)
    exact this.imp (fun h => by simpa using h)
  · have hb : inB x 0 36000 = true := by unfold gOK at hx; rw [Bool.and_eq_true] at hx; exact hx.1
    rw [h2]
    unfold limS limF
    rw [List.mem_mergeSort, List.mem_cons, List.mem_flatMap, List.mem_flatten]
    constructor
    · rintro (h | ⟨s, hs, hm⟩)
      · exact .inl h
      · refine .inr ⟨hb, ?_⟩
        obtain ⟨y, hy, rfl⟩ := List.mem_map.1 hm
        refine ⟨q.map fun s => (distT n (arcs l) y.toNat).getD s.toNat 0, List.mem_map.2 ⟨y, hy, rfl⟩, List.mem_map.2 ⟨s, hs, ?_⟩⟩
        have a1 := hp y hy
        have a2 := hq s hs
        exact dist_sym hA (by omega) (by omega)
    · rintro (h | ⟨_, r, hr, hm⟩)
      · exact .inl h
      · refine .inr ?_
        obtain ⟨y, hy, rfl⟩ := List.mem_map.1 hr
        obtain ⟨s, hs, rfl⟩ := List.mem_map.1 hm
        refine ⟨s, hs, List.mem_map.2 ⟨y, hy, ?_⟩⟩
        have a1 := hp y hy
        have a2 := hq s hs
        exact dist_sym hA (by omega) (by omega)
def leastFillLimitV (n : Int) (l : List St) (p q : List Int) : Int × Bool := if goodMv n l p q = true then (match (limS n.toNat (arcs l) p q).find? (gOK n.toNat (arcs l) p q) with | some x => (x, true) | none => (0, false)) else (0, false)
theorem leastV_some {n : Nat} {l : List St} {p q : List Int} {x : Int} (h : goodMv n l p q = true) (e : (limS n (arcs l) p q).find? (gOK n (arcs l) p q) = some x) : leastFillLimitV n l p q = (x, true) := by unfold leastFillLimitV; rw [if_pos h, Int.toNat_natCast, e]
theorem leastV_none {n : Nat} {l : List St} {p q : List Int} (h : goodMv n l p q = true) (e : (limS n (arcs l) p q).find? (gOK n (arcs l) p q) = none) : leastFillLimitV n l p q = (0, false) := by unfold leastFillLimitV; rw [if_pos h, Int.toNat_natCast, e]
/-- A row of one element that the call has just laid. -/
theorem own_one (w : World) (x : Int) : (w.alloc (.cells #[.int .i64 x] 3)).ownsRow w.heap.size 3 1 (.slice (some ⟨w.heap.size, 0, none⟩) 1 1) 1 (ints [x]) :=
  ⟨rfl, .inr ⟨w.heap.size, 1, #[.int .i64 x], rfl, Nat.le_refl _, heap_alloc_new w _, Nat.le_refl _, by rw [maxLen_eq]; omega, rfl, rfl⟩⟩
theorem flat_take_succ {f : Int → List Int} {q : List Int} {k : Nat} {s : Int} (h : q[k]? = some s) : (q.take (k + 1)).flatMap f = (q.take k).flatMap f ++ f s := by
  rw [take_succ_of h, List.flatMap_append]; simp
theorem flatten_take_succ {t : List (List Int)} {k : Nat} {r : List Int} (h : t[k]? = some r) : (t.take (k + 1)).flatten = (t.take k).flatten ++ r := by
  rw [take_succ_of h, List.flatten_append]; simp
end Go.Proofs.Ytgdigcnpjkkmfaa
