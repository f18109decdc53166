/-
  Looks into slices of ints: the first index of a value, whether it is there, the greatest and the least.
-/
import Derived.Test.YtibkadkodblefaaDoorInts
import Derived.Test.YtibkadkodblefaaDoorGro
namespace Go.Proofs.YtibkadkodblefaaDoor
open Go.RowKit

def idxI : List Int → Int → Int
  | [], _ => -1
  | y :: l, x => if y = x then 0 else if idxI l x < 0 then -1 else idxI l x + 1
theorem idxI_none {l : List Int} {x : Int} (h : x ∉ l) : idxI l x = -1 := by
  induction l with
  | nil => rfl
  | cons y l ih =>
    simp at h
    have h1 : ¬ (y = x) := fun e => h.1 e.symm
    simp only [idxI]
    rw [if_neg h1, ih h.2]; rfl
theorem idxI_at : ∀ {l : List Int} {x : Int} {k : Nat}, l[k]? = some x → x ∉ l.take k → idxI l x = (k : Int) := by
  intro l
  induction l with
  | nil => intro x k h; simp at h
  | cons y l ih =>
    intro x k h hn
    cases k with
    | zero => simp at h; subst h; simp [idxI]
    | succ k =>
      simp at h hn
      have e := ih h hn.2
      simp only [idxI]
      rw [if_neg (fun e => hn.1 e.symm), e, if_neg (by omega)]
      omega
theorem idxI_bd (l : List Int) (x : Int) : -1 ≤ idxI l x ∧ idxI l x < (l.length : Int) := by
  induction l with
  | nil => simp [idxI]
  | cons y l ih =>
    simp only [idxI, List.length_cons]
    split
    · omega
    · split <;> omega
theorem idxI_mem {l : List Int} {x : Int} (h : x ∈ l) : 0 ≤ idxI l x := by
  induction l with
  | nil => simp at h
  | cons y l ih =>
    simp only [idxI]
    split
    · omega
    · rename_i hne
      have : x ∈ l := by
        rcases List.mem_cons.1 h with e | e
        · exact absurd e.symm hne
        · exact e
      have := ih this
      rw [if_neg (by omega)]; omega
theorem idxI_iff (l : List Int) (x : Int) : decide (0 ≤ idxI l x) = decide (x ∈ l) := by
  by_cases h : x ∈ l
  · rw [decide_eq_true h, decide_eq_true (idxI_mem h)]
  · rw [decide_eq_false h, idxI_none h]; rfl

theorem ret_b {a b : Bool} (h : a = b) : Ending.returned (.bool a) = .returned (.bool b) := by rw [h]
theorem max_if (m x : Int) : max m x = if m < x then x else m := by rw [Int.max_def]; split <;> split <;> omega
theorem min_if (m x : Int) : min m x = if x < m then x else m := by rw [Int.min_def]; split <;> split <;> omega
set_option maxRecDepth 100000 in
set_option maxHeartbeats 1000000 in
theorem index_c (v : Value) (x : Int) (l : List Int) (w : World) (hr : RdI w v l) :
    Calls Tryd.prog 92 #[v, .int .i64 x] w fun e w' => e = .returned (.int .i64 (idxI l x)) ∧ w = w' := by
  obtain ⟨A, c, rfl, hc, hm, hr⟩ := hr
  rw [maxLen_eq] at hm
  go_enter Tryd.func92, Tryd.ntmps92
  go_wp2
  go_loopw [8] (fun i wr => ∃ k : Nat, k ≤ l.length ∧ i = .int .i64 k ∧ Hid (x ∉ l.take k) ∧ wr = w) (fun i _ => l.length - (intOf i).toNat)
  case atStart => exact ⟨0, Nat.zero_le _, rfl, Lib.hid (by simp), rfl⟩
  case round =>
    obtain ⟨k, hk, rfl, HN, rfl⟩ := hrel
    by_cases hlt : k < l.length
    · obtain ⟨b, off, rfl, hbl, hcell⟩ := hr (by omega)
      obtain ⟨y, hy⟩ : ∃ y, l[k]? = some y := ⟨_, List.getElem?_eq_getElem hlt⟩
      have c0 := hcell _ _ (ints_get hy)
      have HY := Lib.hid hy
      clear hcell hy hr
      by_cases hxy : x = y
      · have HXY := Lib.hid hxy
        have e0 : ((x : Int) == y) = true := by simp [hxy]
        clear hxy
        go_wp2
        go_ret
        exact ⟨ret_int1 (idxI_at (by rw [HY.out, HXY.out]) HN.out).symm, (by first | rfl | trivial)⟩
      · have e0 : ((x : Int) == y) = false := by simp [hxy]
        have HXY := Lib.hid hxy
        clear hxy
        go_wp2
        refine ⟨⟨k + 1, by omega, by go_num, Lib.hid ?_, (by first | rfl | trivial)⟩, by simp [intOf]; omega⟩
        rw [take_succ_of HY.out]
        intro hmem
        rcases List.mem_append.1 hmem with h | h
        · exact HN.out h
        · simp at h; exact HXY.out h
    · obtain rfl : k = l.length := by omega
      have h := HN.out
      rw [List.take_length] at h
      have H := Lib.hid h
      clear h
      go_wp2
      go_ret
      exact ⟨ret_int1 (idxI_none H.out).symm, (by first | rfl | trivial)⟩

set_option maxHeartbeats 400000 in
theorem contains_c (v : Value) (x : Int) (l : List Int) (w : World) (hr : RdI w v l) :
    Calls Tryd.prog 75 #[v, .int .i64 x] w fun e w' => e = .returned (.bool (decide (x ∈ l))) ∧ w = w' := by
  have HR := Lib.hid hr
  clear hr
  rw [← idxI_iff]
  go_enter Tryd.func75, Tryd.ntmps75
  go_wp2_with (go_at_call 92; refine (index_c _ x l _ HR.out).mono ?_; rintro e w' ⟨rfl, rfl⟩)
  go_ret
  exact ⟨rfl, rfl⟩

set_option maxRecDepth 100000 in
set_option maxHeartbeats 1000000 in
theorem l1Has_c (v : Value) (x : Int) (l : List Int) (w : World) (hr : RdI w v l) :
    Calls Tryd.prog 72 #[v, .int .i64 x] w fun e w' => e = .returned (.bool (decide (x ∈ l))) ∧ w = w' := by
  obtain ⟨A, c, rfl, hc, hm, hr⟩ := hr
  rw [maxLen_eq] at hm
  go_enter Tryd.func72, Tryd.ntmps72
  go_wp2
  go_loopw [9] (fun i wr => ∃ k : Nat, k ≤ l.length ∧ i = .int .i64 k ∧ Hid (x ∉ l.take k) ∧ wr = w) (fun i _ => l.length - (intOf i).toNat)
  case atStart => exact ⟨0, Nat.zero_le _, rfl, Lib.hid (by simp), rfl⟩
  case round =>
    obtain ⟨k, hk, rfl, HN, rfl⟩ := hrel
    by_cases hlt : k < l.length
    · obtain ⟨b, off, rfl, hbl, hcell⟩ := hr (by omega)
      obtain ⟨y, hy⟩ : ∃ y, l[k]? = some y := ⟨_, List.getElem?_eq_getElem hlt⟩
      have c0 := hcell _ _ (ints_get hy)
      have HY := Lib.hid hy
      clear hcell hy hr
      by_cases hxy : x = y
      · have HXY := Lib.hid hxy
        have e0 : ((y : Int) == x) = true := by simp [hxy]
        clear hxy
        go_wp2
        go_ret
        exact ⟨ret_b (decide_eq_true (show x ∈ l from by rw [HXY.out]; exact List.mem_of_getElem? HY.out)).symm, (by first | rfl | trivial)⟩
      · have e0 : ((y : Int) == x) = false := by simp; omega
        have HXY := Lib.hid hxy
        clear hxy
        go_wp2
        refine ⟨⟨k + 1, by omega, by go_num, Lib.hid ?_, (by first | rfl | trivial)⟩, by simp [intOf]; omega⟩
        rw [take_succ_of HY.out]
        intro hmem
        rcases List.mem_append.1 hmem with h | h
        · exact HN.out h
        · simp at h; exact HXY.out h
    · obtain rfl : k = l.length := by omega
      have h := HN.out
      rw [List.take_length] at h
      have H := Lib.hid h
      clear h
      go_wp2
      go_ret
      exact ⟨ret_b (decide_eq_false H.out).symm, (by first | rfl | trivial)⟩

def maxL : List Int → Int
  | [] => 0
  | x :: l => l.foldl max x
def minL : List Int → Int
  | [] => 0
  | x :: l => l.foldl min x
end Go.Proofs.YtibkadkodblefaaDoor
