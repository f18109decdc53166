/-
  slices.Clone, slices.Delete (one element), slices.IndexFunc, slices.ContainsFunc and slices.DeleteFunc at ints. (joined by pack.py: Del)
-/
import Derived.Test.YtahehdgkbhjpoaaGreatDoorK5
import Derived.Test.YtahehdgkbhjpoaaGreatDoorK7
import Derived.Lib.SliceRun
import Derived.Laws.IdiomCopy
import Derived.Deep.RegionLaw
import Derived.Deep.LoopGhost
import Derived.Outline
namespace Go.Proofs.YtahehdgkbhjpoaaGreatDoor
set_option linter.unusedVariables false
set_option linter.unusedSimpArgs false
open Go.RowKit

theorem setCells_many (g : Nat) : ∀ (us : List Value) (w : World) (j : Nat), w.setCells g j us = setMany w g j us := by
  intro us
  induction us with
  | nil => intro w j; rfl
  | cons u us ih => intro w j; exact ih _ _
theorem own_setCells {w : World} {base : Nat} {e : TypeId} {sz g n cap : Nat} {xs : List Value} (h : w.ownsRow base e sz (.slice (some ⟨g, 0, none⟩) n cap) n xs) (j : Nat) (us : List Value) : (w.setCells g j us).ownsRow base e sz (.slice (some ⟨g, 0, none⟩) n cap) n (putAt xs j us) := by
  rw [setCells_many]; exact own_put us w xs j h
theorem only_setCells {a w : World} {g : Nat} (h : a.grownBy w (some g)) (j : Nat) (us : List Value) : a.grownBy (w.setCells g j us) (some g) := by
  rw [setCells_many]; exact only_put us w j h
/-- An owned row cut to its first elements. -/
theorem own_cut {w : World} {base : Nat} {e : TypeId} {g n cap : Nat} {xs : List Value} (h : w.ownsRow base e 1 (.slice (some ⟨g, 0, none⟩) n cap) n xs) {k : Nat} (hk : k ≤ n) : w.ownsRow base e 1 (.slice (some ⟨g, 0, none⟩) k cap) k (xs.take k) := by
  have hl := h.1
  rcases h.2 with ⟨h1, _⟩ | ⟨g', cap', cur, h1, h2, h3, h4, h5, h6, h7⟩
  · cases h1
  · injection h1 with h1 _ h8
    injection h1 with h1
    injection h1 with h1
    subst h1; subst h8
    refine ⟨by rw [List.length_take]; omega, .inr ⟨g, cap, cur, rfl, h2, h3, by omega, h5, h6, ?_⟩⟩
    rw [← h7, List.take_take]
    congr 1
    omega


/-! ### A predicate that is handed over as a function value -/
/-- The function value g (with what it captured) answers p, and leaves the world as it is. -/
def Says (g : Nat) (lb : Array Value) (p : Int → Bool) (l : List Int) (w : World) : Prop := ∀ x ∈ l, Calls Tryz.prog g (#[.int .i64 x] ++ lb) w fun e w' => e = .returned (.bool (p x)) ∧ w = w'
def idxP (p : Int → Bool) : List Int → Int
  | [] => -1
  | y :: l => if p y = true then 0 else if idxP p l < 0 then -1 else idxP p l + 1
theorem idxP_none {p : Int → Bool} {l : List Int} (h : ∀ x ∈ l, p x = false) : idxP p l = -1 := by
  induction l with
  | nil => rfl
  | cons y l ih =>
    simp only [idxP]
    rw [if_neg (by rw [h y (by simp)]; simp), ih (fun x hx => h x (by simp [hx]))]; rfl
theorem idxP_at {p : Int → Bool} : ∀ {l : List Int} {x : Int} {k : Nat}, l[k]? = some x → p x = true → (∀ y ∈ l.take k, p y = false) → idxP p l = (k : Int) := by
  intro l
  induction l with
  | nil => intro x k h; simp at h
  | cons y l ih =>
    intro x k h hp hn
    cases k with
    | zero => simp at h; subst h; simp only [idxP]; rw [if_pos hp]; rfl
    | succ k =>
      simp at h
      have e := ih h hp (fun z hz => hn z (by simp [hz]))
      simp only [idxP]
      rw [if_neg (by rw [hn y (by simp)]; simp), e, if_neg (by omega)]
      omega
/-- Either no element is picked, or there is a first one. -/
theorem idxP_cases (p : Int → Bool) (l : List Int) : (idxP p l = -1 ∧ ∀ x ∈ l, p x = false) ∨ ∃ k x, l[k]? = some x ∧ p x = true ∧ (∀ y ∈ l.take k, p y = false) ∧ idxP p l = (k : Int) := by
  by_cases h : ∀ x ∈ l, p x = false
  · exact Or.inl ⟨idxP_none h, h⟩
  · right
    have : ∃ k, ∃ x, l[k]? = some x ∧ p x = true ∧ (∀ y ∈ l.take k, p y = false) := by
      induction l with
      | nil => exact absurd (by simp) h
      | cons y l ih =>
        by_cases hy : p y = true
        · exact ⟨0, y, rfl, hy, by simp⟩
        · have hy' : p y = false := by simpa using hy
          obtain ⟨k, x, h1, h2, h3⟩ := ih (fun hall => h (fun x hx => by
            rcases List.mem_cons.1 hx with rfl | hx
            · exact hy'
            · exact hall x hx))
          exact ⟨k + 1, x, by simpa using h1, h2, fun z hz => by
            rw [List.take_succ_cons] at hz
            rcases List.mem_cons.1 hz with rfl | hz
            · exact hy'
            · exact h3 z hz⟩
    obtain ⟨k, x, h1, h2, h3⟩ := this
    exact ⟨k, x, h1, h2, h3, idxP_at h1 h2 h3⟩

theorem idxP_any (p : Int → Bool) (l : List Int) : decide (0 ≤ idxP p l) = l.any p := by
  rcases idxP_cases p l with ⟨h1, h2⟩ | ⟨k, x, h1, h2, _, h4⟩
  · have e : l.any p = false := List.any_eq_false.2 (fun x hx => by rw [h2 x hx]; simp)
    rw [h1, e]; rfl
  · have e : l.any p = true := List.any_eq_true.2 ⟨x, List.mem_of_getElem? h1, h2⟩
    rw [h4, e]; exact decide_eq_true (by omega)

set_option maxRecDepth 100000 in
set_option maxHeartbeats 1000000 in
theorem indexFunc_c (g : Nat) (lb : Array Value) (eg : ∀ args w, (callFunc g args).run Tryz.prog w = .ok (.enter g args) w) (p : Int → Bool) (v : Value) (l : List Int) (w : World) (hp : Says g lb p l w) (hr : RdI w v l) :
    Calls Tryz.prog 76 #[v, .func (.func g) #[] lb] w fun e w' => e = .returned (.int .i64 (idxP p l)) ∧ w = w' := by
  obtain ⟨A, c, rfl, hc, hm, hr⟩ := hr
  rw [maxLen_eq] at hm
  have HP := Lib.hid hp
  clear hp
  go_enter Tryz.func76, Tryz.ntmps76
  go_wp2
  go_loopw [8] (fun i wr => ∃ k : Nat, k ≤ l.length ∧ i = .int .i64 k ∧ Hid (∀ y ∈ l.take k, p y = false) ∧ wr = w) (fun i _ => l.length - (intOf i).toNat)
  case atStart => exact ⟨0, Nat.zero_le _, rfl, Lib.hid (by simp), rfl⟩
  case round =>
    obtain ⟨k, hk, rfl, HN, rfl⟩ := hrel
    by_cases hlt : k < l.length
    · obtain ⟨b, off, rfl, hbl, hcell⟩ := hr (by omega)
      obtain ⟨y, hy⟩ : ∃ y, l[k]? = some y := ⟨_, List.getElem?_eq_getElem hlt⟩
      have c0 := hcell _ _ (ints_get hy)
      have HY := Lib.hid hy
      have hcall := HP.out y (List.mem_of_getElem? hy)
      clear hcell hy hr
      by_cases hpy : p y = true
      · rw [hpy] at hcall
        have HPY := Lib.hid hpy
        clear hpy
        go_wp2_with fail
        refine hcall.mono ?_; rintro e w' ⟨rfl, rfl⟩
        go_wp2
        go_ret
        exact ⟨ret_int1 (idxP_at HY.out HPY.out HN.out).symm, (by first | rfl | trivial)⟩
      · have hpy' : p y = false := by simpa using hpy
        rw [hpy'] at hcall
        have HPY := Lib.hid hpy'
        clear hpy hpy'
        go_wp2_with fail
        refine hcall.mono ?_; rintro e w' ⟨rfl, rfl⟩
        go_wp2
        refine ⟨⟨k + 1, by omega, by go_num, Lib.hid ?_, (by first | rfl | trivial)⟩, by simp [intOf]; omega⟩
        intro z hz
        rw [take_succ_of HY.out] at hz
        rcases List.mem_append.1 hz with h | h
        · exact HN.out z h
        · simp at h; subst h; exact HPY.out
    · obtain rfl : k = l.length := by omega
      have h := HN.out
      rw [List.take_length] at h
      have H := Lib.hid h
      clear h
      go_wp2
      go_ret
      exact ⟨ret_int1 (idxP_none H.out).symm, (by first | rfl | trivial)⟩
set_option maxHeartbeats 400000 in
theorem containsFunc_c (g : Nat) (lb : Array Value) (eg : ∀ args w, (callFunc g args).run Tryz.prog w = .ok (.enter g args) w) (p : Int → Bool) (v : Value) (l : List Int) (w : World) (hp : Says g lb p l w) (hr : RdI w v l) :
    Calls Tryz.prog 52 #[v, .func (.func g) #[] lb] w fun e w' => e = .returned (.bool (l.any p)) ∧ w = w' := by
  have HR := Lib.hid hr
  have HP := Lib.hid hp
  clear hr hp
  rw [← idxP_any]
  go_enter Tryz.func52, Tryz.ntmps52
  go_wp2_with (go_at_call 76; refine (indexFunc_c g lb eg p _ l _ HP.out HR.out).mono ?_; rintro e w' ⟨rfl, rfl⟩)
  go_ret
  exact ⟨rfl, rfl⟩

end Go.Proofs.YtahehdgkbhjpoaaGreatDoor
