/-
  CoveredAfter: the stations that a filling fills.
-/
import Derived.Test.YtgdigcnpjkkmfaaMvF
import Derived.Test.YtgdigcnpjkkmfaaCovC
namespace Go.Proofs.Ytgdigcnpjkkmfaa
open Go.RowKit

/-- The stations below k that have a mover. -/
def filledK (q r : List Int) : Nat → List Int
  | 0 => []
  | k + 1 => if r.getD k 0 < 0 then filledK q r k else filledK q r k ++ [q.getD k 0]
theorem filledK_skip {q r : List Int} {k : Nat} {x : Int} (h : r[k]? = some x) (h1 : x < 0) : filledK q r (k + 1) = filledK q r k := by
  simp only [filledK]; rw [if_pos (by rw [show r.getD k 0 = x by simp [List.getD_eq_getElem?_getD, h]]; exact h1)]
theorem filledK_put {q r : List Int} {k : Nat} {x y : Int} (h : r[k]? = some x) (h1 : ¬ x < 0) (hq : q[k]? = some y) : filledK q r (k + 1) = filledK q r k ++ [y] := by
  simp only [filledK]; rw [if_neg (by rw [show r.getD k 0 = x by simp [List.getD_eq_getElem?_getD, h]]; exact h1), show q.getD k 0 = y by simp [List.getD_eq_getElem?_getD, hq]]
theorem filledK_len (q r : List Int) (k : Nat) : (filledK q r k).length ≤ k := by
  induction k with
  | zero => simp [filledK]
  | succ k ih =>
    simp only [filledK]
    split
    · omega
    · rw [List.length_append]; simp; omega
theorem filledK_sub (q r : List Int) : ∀ k, k ≤ q.length → (filledK q r k).Sublist (q.take k) := by
  intro k
  induction k with
  | zero => intro _; simp [filledK]
  | succ k ih =>
    intro h
    have hk : q[k]? = some (q[k]'(by omega)) := List.getElem?_eq_getElem (by omega)
    rw [take_succ_of hk]
    simp only [filledK]
    split
    · exact (ih (by omega)).trans (List.sublist_append_left _ _)
    · rw [show q.getD k 0 = q[k]'(by omega) by simp [List.getD_eq_getElem?_getD, hk]]
      exact (ih (by omega)).append (List.Sublist.refl _)
theorem rising_pair {lo hi : Int} {q : List Int} (h : rising lo hi q = true) : q.Pairwise (· < ·) := by
  rw [List.pairwise_iff_getElem]
  have step : ∀ k (hk : k + 1 < q.length), q[k]'(by omega) < q[k + 1] := fun k hk => by
    have h1 := List.all_eq_true.1 h (k + 1) (List.mem_range.2 hk)
    unfold risAt at h1
    rw [List.getElem?_eq_getElem hk, Nat.add_sub_cancel, List.getElem?_eq_getElem (show k < q.length by omega)] at h1
    simp at h1
    exact h1.2
  intro i j hi' hj hij
  obtain ⟨d, rfl⟩ : ∃ d, j = i + 1 + d := ⟨j - (i + 1), by omega⟩
  induction d with
  | zero => exact step i hj
  | succ d ih => exact Int.lt_trans (ih (by omega) (by omega)) (step (i + 1 + d) hj)
theorem rising_of {lo hi : Int} {q : List Int} (hp : q.Pairwise (· < ·)) (hb : ∀ x ∈ q, lo ≤ x ∧ x ≤ hi) : rising lo hi q = true := by
  unfold rising
  refine List.all_eq_true.2 (fun k hk => ?_)
  have hk := List.mem_range.1 hk
  unfold risAt
  rw [List.getElem?_eq_getElem hk]
  have h1 := hb _ (List.getElem_mem hk)
  have h2 : inB q[k] lo hi = true := by unfold inB; simp; exact h1
  simp only [h2, Bool.true_and]
  rcases k with _ | k
  · simp
  · rw [Nat.add_sub_cancel, List.getElem?_eq_getElem (show k < q.length by omega)]
    have := (List.pairwise_iff_getElem.1 hp) k (k + 1) (by omega) hk (by omega)
    simp [this]
theorem goodSta_sub {n : Int} {l : List St} {q q' : List Int} (h : goodSta n l q = true) (hs : q'.Sublist q) : goodSta n l q' = true := by
  unfold goodSta at h ⊢
  simp only [Bool.and_eq_true, decide_eq_true_eq] at h ⊢
  exact ⟨h.1, rising_of ((rising_pair h.2.1).sublist hs) (fun x hx => rising_mem h.2.1 x (hs.subset hx)), Nat.le_trans hs.length_le h.2.2⟩

def askF (n : Int) (l : List St) (p q : List Int) (a : Int) (r : List Int) : Bool := askM n l p q a && fillB n.toNat (arcs l) p q a r
def coveredAfterV (n : Int) (l : List St) (p q : List Int) (a : Int) (r : List Int) : List Int × Bool := if askF n l p q a r = true then coveredNodesW n.toNat l (filledK q r r.length) a else ([], false)
theorem coveredAfterV_len (n : Int) (l : List St) (p q : List Int) (a : Int) (r : List Int) : (coveredAfterV n l p q a r).1.length ≤ 1000000 := by
  unfold coveredAfterV
  split
  · rename_i h
    unfold askF at h
    rw [Bool.and_eq_true] at h
    obtain ⟨g1, _⟩ := goodMv_true (askM_true h.1).1
    have h1 := goodTown_true g1
    unfold coveredNodesW
    have := covIdx_len (coverL n.toNat (arcs l) (filledK q r r.length)) a true n.toNat
    dsimp only
    omega
  · simp
end Go.Proofs.Ytgdigcnpjkkmfaa
