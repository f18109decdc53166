/-
  Deliveries: the plain law: rows put in by their seconds, and rows sorted as lists, are the same.
-/
import Derived.Test.YtbjiipicbcamnaaTankI
import Derived.Test.YtbjiipicbcamnaaSS
namespace Go.Proofs.Ytbjiipicbcamnaa
open Go.RowKit

/-! lists of ints, compared from the left -/
def cmpZ (a b : Int) : Int := if a < b then -1 else if b < a then 1 else 0
def cmpL : List Int → List Int → Int
  | [], [] => 0
  | [], _ :: _ => -1
  | _ :: _, [] => 1
  | x :: a, y :: b => if cmpZ x y = 0 then cmpL a b else cmpZ x y
theorem cmpZ_lt {a b : Int} : cmpZ a b < 0 ↔ a < b := by unfold cmpZ; split <;> (try split) <;> omega
theorem cmpZ_zero {a b : Int} : cmpZ a b = 0 ↔ a = b := by unfold cmpZ; split <;> (try split) <;> omega
theorem cmpZ_gt {a b : Int} : 0 < cmpZ a b ↔ b < a := by unfold cmpZ; split <;> (try split) <;> omega
theorem cmpL_cons (x y : Int) (a b : List Int) : cmpL (x :: a) (y :: b) = if cmpZ x y = 0 then cmpL a b else cmpZ x y := rfl
/-- Which of two heads is less, or else which of the tails. -/
theorem cmpL_lt (x y : Int) (a b : List Int) : cmpL (x :: a) (y :: b) < 0 ↔ x < y ∨ (x = y ∧ cmpL a b < 0) := by
  rw [cmpL_cons]
  have h1 := cmpZ_lt (a := x) (b := y); have h2 := cmpZ_zero (a := x) (b := y)
  split
  · rename_i h; have := h2.1 h; subst this; constructor
    · exact fun h => .inr ⟨rfl, h⟩
    · rintro (h | ⟨_, h⟩)
      · omega
      · exact h
  · rename_i h; constructor
    · exact fun k => .inl (h1.1 k)
    · rintro (k | ⟨k, _⟩)
      · exact h1.2 k
      · exact absurd (h2.2 k) h
theorem cmpL_anti : ∀ a b : List Int, cmpL a b = - cmpL b a := by
  intro a
  induction a with
  | nil => intro b; cases b <;> rfl
  | cons x a ih =>
    intro b
    cases b with
    | nil => rfl
    | cons y b =>
      rw [cmpL_cons, cmpL_cons, ih b]
      have e : cmpZ x y = - cmpZ y x := by unfold cmpZ; split <;> split <;> (try split) <;> omega
      by_cases h : cmpZ x y = 0
      · rw [if_pos h, if_pos (by omega)]
      · rw [if_neg h, if_neg (by omega)]; exact e
theorem cmpL_zero : ∀ a b : List Int, cmpL a b = 0 → a = b := by
  intro a
  induction a with
  | nil => intro b h; cases b with
    | nil => rfl
    | cons _ _ => simp [cmpL] at h
  | cons x a ih =>
    intro b h
    cases b with
    | nil => simp [cmpL] at h
    | cons y b =>
      rw [cmpL_cons] at h
      by_cases hz : cmpZ x y = 0
      · rw [if_pos hz] at h
        rw [cmpZ_zero.1 hz, ih b h]
      · rw [if_neg hz] at h; exact absurd h hz
theorem cmpL_self : ∀ a : List Int, cmpL a a = 0 := by
  intro a; have := cmpL_anti a a; omega
theorem cmpL_trans : ∀ a b c : List Int, cmpL a b < 0 → cmpL b c < 0 → cmpL a c < 0 := by
  intro a
  induction a with
  | nil =>
    intro b c h1 h2
    cases c with
    | nil => cases b <;> simp [cmpL] at h1 h2
    | cons _ _ => simp [cmpL]
  | cons x a ih =>
    intro b c h1 h2
    cases b with
    | nil => simp [cmpL] at h1
    | cons y b =>
      cases c with
      | nil => simp [cmpL] at h2
      | cons z c =>
        rw [cmpL_lt] at *
        rcases h1 with h1 | ⟨h1, k1⟩ <;> rcases h2 with h2 | ⟨h2, k2⟩
        · left; omega
        · left; omega
        · left; omega
        · exact .inr ⟨by omega, ih b c k1 k2⟩
/-- Two lists that rise strictly in one order and hold the same are one. -/
theorem rise_eq {α : Type} (r : α → α → Prop) (hi : ∀ a, ¬ r a a) (ht : ∀ a b, r a b → ¬ r b a) : ∀ (a b : List α), a.Pairwise r → b.Pairwise r → (∀ x, x ∈ a ↔ x ∈ b) → a = b := by
  intro a
  induction a with
  | nil =>
    intro b _ _ h
    cases b with
    | nil => rfl
    | cons y b => exact absurd ((h y).2 (by simp)) (by simp)
  | cons x a ih =>
    intro b ha hb h
    cases b with
    | nil => exact absurd ((h x).1 (by simp)) (by simp)
    | cons y b =>
      obtain ⟨ha1, ha2⟩ := List.pairwise_cons.1 ha
      obtain ⟨hb1, hb2⟩ := List.pairwise_cons.1 hb
      have hxy : x = y := by
        rcases List.mem_cons.1 ((h x).1 (by simp)) with e | e
        · exact e
        · rcases List.mem_cons.1 ((h y).2 (by simp)) with e' | e'
          · exact e'.symm
          · exact absurd (ha1 y e') (ht _ _ (hb1 x e))
      subst hxy
      rw [ih b ha2 hb2 (fun z => ?_)]
      constructor
      · intro hz
        rcases List.mem_cons.1 ((h z).1 (by simp [hz])) with e | e
        · subst e; exact absurd (ha1 _ hz) (hi _)
        · exact e
      · intro hz
        rcases List.mem_cons.1 ((h z).2 (by simp [hz])) with e | e
        · subst e; exact absurd (hb1 _ hz) (hi _)
        · exact e

/-! the rows of the deliveries -/
def dRow (t : Tk) (i n : Nat) : List Int := [t.e + n * t.cyc, (i : Int), t.l]
def dBlk (t : Tk) (i k : Nat) : List (List Int) := (List.range k).map (dRow t i)
def rowsUp (l : List Tk) (s : Int) : Nat → List (List Int)
  | 0 => []
  | i + 1 => rowsUp l s i ++ (match l[i]? with | some t => dBlk t i (t.times s).toNat | none => [])
theorem dBlk_succ (t : Tk) (i k : Nat) : dBlk t i (k + 1) = dBlk t i k ++ [dRow t i k] := by unfold dBlk; rw [List.range_succ, List.map_append]; rfl
theorem rowsUp_succ {l : List Tk} {s : Int} {i : Nat} {t : Tk} (h : l[i]? = some t) : rowsUp l s (i + 1) = rowsUp l s i ++ dBlk t i (t.times s).toNat := by
  show rowsUp l s i ++ _ = _
  rw [h]
theorem dBlk_len (t : Tk) (i k : Nat) : (dBlk t i k).length = k := by simp [dBlk]
theorem rowsUp_len (l : List Tk) (s : Int) (h : ∀ t ∈ l, 0 ≤ t.times s) : ∀ i, ((rowsUp l s i).length : Int) = sumTo (fun t => t.times s) l i := by
  intro i
  induction i with
  | zero => rfl
  | succ i ih =>
    cases hx : l[i]? with
    | none =>
      have e : rowsUp l s (i + 1) = rowsUp l s i := by show rowsUp l s i ++ _ = _; rw [hx]; simp
      rw [e, ih]
      unfold sumTo
      rw [List.take_of_length_le (by have := List.getElem?_eq_none_iff.1 hx; omega), List.take_of_length_le (by have := List.getElem?_eq_none_iff.1 hx; omega)]
    | some t =>
      rw [rowsUp_succ hx, List.length_append, dBlk_len, sumTo_succ hx]
      have := h t (List.mem_of_getElem? hx)
      omega
/-- One more delivery comes in time. -/
theorem times_iff {t : Tk} (h : t.ok = true) {s : Int} (k : Nat) : t.e + k * t.cyc ≤ s ↔ k < (t.times s).toNat := by
  have hc := Tk.cyc_bd h
  unfold Tk.times
  by_cases hs : s < t.e
  · rw [if_pos hs]
    have : (0 : Int) ≤ (k : Int) * t.cyc := Int.mul_nonneg (by omega) (by omega)
    constructor
    · intro h; omega
    · intro h; simp at h
  · rw [if_neg hs]
    have h0 : 0 ≤ (s - t.e) / t.cyc := Int.ediv_nonneg (by omega) (by omega)
    have h1 : (k : Int) ≤ (s - t.e) / t.cyc ↔ (k : Int) * t.cyc ≤ s - t.e := Int.le_ediv_iff_mul_le (by omega)
    omega
def aOf (x : List Int) : Int := x.getD 0 0
def iOf (x : List Int) : Int := x.getD 1 0
/-- First by the second, then by the tanker. -/
def dLt (x y : List Int) : Prop := aOf x < aOf y ∨ (aOf x = aOf y ∧ iOf x < iOf y)
/-- First by the tanker, then by the second. -/
def dPre (x y : List Int) : Prop := iOf x < iOf y ∨ (iOf x = iOf y ∧ aOf x < aOf y)
theorem aOf_row (t : Tk) (i n : Nat) : aOf (dRow t i n) = t.e + n * t.cyc := rfl
theorem iOf_row (t : Tk) (i n : Nat) : iOf (dRow t i n) = (i : Int) := rfl
theorem mem_rowsUp {l : List Tk} {s : Int} {x : List Int} : ∀ {i : Nat}, x ∈ rowsUp l s i → ∃ (j n : Nat) (t : Tk), j < i ∧ l[j]? = some t ∧ n < (t.times s).toNat ∧ x = dRow t j n := by
  intro i
  induction i with
  | zero => intro h; simp [rowsUp] at h
  | succ i ih =>
    intro h
    rcases List.mem_append.1 h with h | h
    · obtain ⟨j, n, t, h1, h2⟩ := ih h
      exact ⟨j, n, t, by omega, h2⟩
    · cases hx : l[i]? with
      | none => rw [hx] at h; simp at h
      | some t =>
        rw [hx] at h
        obtain ⟨n, hn, rfl⟩ := List.mem_map.1 h
        exact ⟨i, n, t, by omega, hx, List.mem_range.1 hn, rfl⟩
theorem dBlk_pre {t : Tk} (h : t.ok = true) (i k : Nat) : (dBlk t i k).Pairwise dPre := by
  have hc := Tk.cyc_bd h
  unfold dBlk
  rw [List.pairwise_map]
  refine List.Pairwise.imp (R := fun a b : Nat => a < b) (fun {a b} hab => .inr ⟨rfl, ?_⟩) List.pairwise_lt_range
  rw [aOf_row, aOf_row]
  have : (a : Int) * t.cyc < (b : Int) * t.cyc := Int.mul_lt_mul_of_pos_right (by omega) (by omega)
  omega
theorem rows_pre {l : List Tk} {s : Int} (h : ∀ t ∈ l, t.ok = true) : ∀ i, (rowsUp l s i).Pairwise dPre := by
  intro i
  induction i with
  | zero => exact List.Pairwise.nil
  | succ i ih =>
    cases hx : l[i]? with
    | none =>
      have e : rowsUp l s (i + 1) = rowsUp l s i := by show rowsUp l s i ++ _ = _; rw [hx]; simp
      rw [e]; exact ih
    | some t =>
      rw [rowsUp_succ hx]
      refine List.pairwise_append.2 ⟨ih, dBlk_pre (h t (List.mem_of_getElem? hx)) i _, fun x hxm y hy => .inl ?_⟩
      obtain ⟨j, n, t', hj, _, _, rfl⟩ := mem_rowsUp hxm
      obtain ⟨m, _, rfl⟩ := List.mem_map.1 hy
      rw [iOf_row, iOf_row]; omega

/-! put in by the second, behind its like -/
def posD (out : List (List Int)) (a : Int) : Nat → Nat
  | 0 => 0
  | k + 1 => if a < aOf (out.getD k []) then posD out a k else k + 1
def insD (out : List (List Int)) (r : List Int) : List (List Int) := out.take (posD out (aOf r) out.length) ++ r :: out.drop (posD out (aOf r) out.length)
def insAll (R : List (List Int)) : List (List Int) := R.foldl insD []
theorem posD_le (out : List (List Int)) (a : Int) : ∀ k, posD out a k ≤ k := by
  intro k
  induction k with
  | zero => exact Nat.le_refl _
  | succ k ih => unfold posD; split <;> omega
theorem posD_gt (out : List (List Int)) (a : Int) : ∀ k j, posD out a k ≤ j → j < k → a < aOf (out.getD j []) := by
  intro k
  induction k with
  | zero => intro j _ h; omega
  | succ k ih =>
    intro j h1 h2
    unfold posD at h1
    split at h1
    · rename_i hg
      rcases Nat.lt_or_eq_of_le (Nat.le_of_lt_succ h2) with h | h
      · exact ih j h1 h
      · rw [h]; exact hg
    · omega
theorem posD_last (out : List (List Int)) (a : Int) : ∀ k, 0 < posD out a k → aOf (out.getD (posD out a k - 1) []) ≤ a := by
  intro k
  induction k with
  | zero => intro h; simp [posD] at h
  | succ k ih =>
    intro h
    unfold posD at h ⊢
    split at h
    · rename_i hg; rw [if_pos hg]; exact ih h
    · rename_i hg
      rw [if_neg hg, Nat.add_sub_cancel]
      omega
theorem mem_insD {out : List (List Int)} {r x : List Int} : x ∈ insD out r ↔ x ∈ out ∨ x = r := by
  unfold insD
  rw [List.mem_append, List.mem_cons]
  conv => rhs; rw [← List.take_append_drop (posD out (aOf r) out.length) out, List.mem_append]
  constructor
  · rintro (h | h | h)
    · exact .inl (.inl h)
    · exact .inr h
    · exact .inl (.inr h)
  · rintro ((h | h) | h)
    · exact .inl h
    · exact .inr (.inr h)
    · exact .inr (.inl h)
theorem insD_len (out : List (List Int)) (r : List Int) : (insD out r).length = out.length + 1 := by
  have := posD_le out (aOf r) out.length
  unfold insD
  simp; omega
theorem insD_sorted {out : List (List Int)} {r : List Int} (h : out.Pairwise dLt) (hr : ∀ x ∈ out, dPre x r) : (insD out r).Pairwise dLt := by
  have hp := posD_le out (aOf r) out.length
  have at' : ∀ j (hj : j < out.length), out.getD j [] = out[j] := fun j hj => by simp [List.getD, List.getElem?_eq_getElem hj]
  have mono : ∀ i j (hi : i < out.length) (hj : j < out.length), i ≤ j → aOf out[i] ≤ aOf out[j] := fun i j hi hj hij => by
    rcases Nat.lt_or_eq_of_le hij with hlt | e
    · rcases List.pairwise_iff_getElem.1 h i j hi hj hlt with k | ⟨k, _⟩ <;> omega
    · subst e; exact Int.le_refl _
  unfold insD
  obtain ⟨p, hpe⟩ : ∃ p, posD out (aOf r) out.length = p := ⟨_, rfl⟩
  have hlast := posD_last out (aOf r) out.length
  have hgt := posD_gt out (aOf r) out.length
  rw [hpe] at hp hlast hgt ⊢
  have lo : ∀ x ∈ out.take p, dLt x r := fun x hx => by
    obtain ⟨j, hj, rfl⟩ := List.getElem_of_mem hx
    rw [List.length_take] at hj
    rw [List.getElem_take]
    have h1 := hlast (by omega)
    rw [at' (p - 1) (by omega)] at h1
    have h2 := mono j (p - 1) (by omega) (by omega) (by omega)
    rcases hr out[j] (List.getElem_mem _) with k | ⟨k, k2⟩
    · unfold dLt; omega
    · left; exact k2
  have hi : ∀ x ∈ out.drop p, dLt r x := fun x hx => by
    obtain ⟨j, hj, rfl⟩ := List.getElem_of_mem hx
    rw [List.length_drop] at hj
    rw [List.getElem_drop]
    have h1 := hgt (p + j) (by omega) (by omega)
    rw [at' (p + j) (by omega)] at h1
    exact .inl h1
  have tr : ∀ x y z, dLt x y → dLt y z → dLt x z := fun x y z h1 h2 => by unfold dLt at *; omega
  refine List.pairwise_append.2 ⟨List.Pairwise.sublist (List.take_sublist _ _) h, List.pairwise_cons.2 ⟨hi, List.Pairwise.sublist (List.drop_sublist _ _) h⟩, fun x hx y hy => ?_⟩
  rcases List.mem_cons.1 hy with rfl | hy
  · exact lo x hx
  · exact tr _ _ _ (lo x hx) (hi y hy)
theorem insAll_spec_aux : ∀ (R out : List (List Int)), out.Pairwise dLt → R.Pairwise dPre → (∀ x ∈ out, ∀ y ∈ R, dPre x y) → (R.foldl insD out).Pairwise dLt ∧ (∀ x, x ∈ R.foldl insD out ↔ x ∈ out ∨ x ∈ R) ∧ (R.foldl insD out).length = out.length + R.length := by
  intro R
  induction R with
  | nil => intro out h _ _; exact ⟨h, by simp, by simp⟩
  | cons r R ih =>
    intro out h hR hx
    obtain ⟨h1, h2⟩ := List.pairwise_cons.1 hR
    obtain ⟨a, b, c⟩ := ih (insD out r) (insD_sorted h (fun x hxo => hx x hxo r (by simp))) h2 (fun x hxo y hy => by
      rcases mem_insD.1 hxo with k | rfl
      · exact hx x k y (by simp [hy])
      · exact h1 y hy)
    refine ⟨a, fun x => ?_, by rw [List.foldl_cons, c, insD_len, List.length_cons]; omega⟩
    rw [List.foldl_cons, b x, mem_insD, List.mem_cons]
    constructor
    · rintro ((k | k) | k)
      · exact .inl k
      · exact .inr (.inl k)
      · exact .inr (.inr k)
    · rintro (k | k | k)
      · exact .inl (.inl k)
      · exact .inl (.inr k)
      · exact .inr k
theorem insAll_spec {R : List (List Int)} (h : R.Pairwise dPre) : (insAll R).Pairwise dLt ∧ (∀ x, x ∈ insAll R ↔ x ∈ R) ∧ (insAll R).length = R.length := by
  obtain ⟨a, b, c⟩ := insAll_spec_aux R [] List.Pairwise.nil h (fun x hx => by simp at hx)
  exact ⟨a, fun x => by rw [insAll, b x]; simp, by rw [insAll, c]; simp⟩
theorem insAll_snoc (R : List (List Int)) (r : List Int) : insAll (R ++ [r]) = insD (insAll R) r := by unfold insAll; rw [List.foldl_append]; rfl
/-- In the order of the seconds and the tankers, rows of three rise as lists. -/
theorem dLt_cmp {x y : List Int} (hx : x.length = 3) (hy : y.length = 3) (h : dLt x y) : cmpL x y < 0 := by
  match x, hx with
  | [x0, x1, x2], _ =>
    match y, hy with
    | [y0, y1, y2], _ =>
      rw [cmpL_lt, cmpL_lt]
      rcases h with h | ⟨h, h2⟩
      · left; exact h
      · right; exact ⟨h, .inl h2⟩
theorem rows_nodup {l : List Tk} {s : Int} (h : ∀ t ∈ l, t.ok = true) (i : Nat) : (rowsUp l s i).Nodup := by
  rw [List.nodup_iff_pairwise_ne]
  refine List.Pairwise.imp ?_ (rows_pre h i)
  rintro a b hab rfl
  unfold dPre at hab; omega
theorem rows_three {l : List Tk} {s : Int} {i : Nat} {x : List Int} (h : x ∈ rowsUp l s i) : x.length = 3 := by
  obtain ⟨_, _, _, _, _, _, rfl⟩ := mem_rowsUp h; rfl
theorem ins_cmp {l : List Tk} {s : Int} (h : ∀ t ∈ l, t.ok = true) (i : Nat) : (insAll (rowsUp l s i)).Pairwise (fun x y => cmpL x y < 0) := by
  obtain ⟨a, b, _⟩ := insAll_spec (rows_pre (s := s) h i)
  refine List.Pairwise.imp_of_mem ?_ a
  intro x y hx hy hxy
  exact dLt_cmp (rows_three ((b x).1 hx)) (rows_three ((b y).1 hy)) hxy
def deliveriesV (l : List Tk) (s : Int) : List (List Int) × Bool :=
  if okL l = true ∧ inB s 0 36000 = true ∧ (rowsUp l s l.length).length ≤ 200 then (insAll (rowsUp l s l.length), true) else ([], false)
theorem del_no1 {l : List Tk} {s : Int} (h : okL l = false) : deliveriesV l s = ([], false) := by unfold deliveriesV; rw [if_neg (by rw [h]; simp)]
theorem del_no2 {l : List Tk} {s : Int} (h : inB s 0 36000 = false) : deliveriesV l s = ([], false) := by unfold deliveriesV; rw [if_neg (by rw [h]; simp)]
theorem del_no3 {l : List Tk} {s : Int} (h : ¬ (rowsUp l s l.length).length ≤ 200) : deliveriesV l s = ([], false) := by unfold deliveriesV; rw [if_neg (fun k => h k.2.2)]
theorem del_yes {l : List Tk} {s : Int} (h : okL l = true) (h2 : inB s 0 36000 = true) (h3 : (rowsUp l s l.length).length ≤ 200) : deliveriesV l s = (insAll (rowsUp l s l.length), true) := by unfold deliveriesV; rw [if_pos ⟨h, h2, h3⟩]
theorem deliveriesV_len (l : List Tk) (s : Int) : totL (deliveriesV l s).1 ≤ 1000000 := by
  unfold deliveriesV
  split
  · rename_i h
    dsimp only
    obtain ⟨_, b, c⟩ := insAll_spec (rows_pre (s := s) (okL_true h.1).2 l.length)
    have : ∀ L : List (List Int), (∀ x ∈ L, x.length = 3) → totL L = 3 * L.length := by
      intro L
      induction L with
      | nil => intro _; rfl
      | cons x L ih =>
        intro hL
        have e : totL (x :: L) = x.length + totL L := by unfold totL; simp
        rw [e, ih (fun y hy => hL y (by simp [hy])), hL x (by simp), List.length_cons]; omega
    rw [this _ (fun x hx => rows_three ((b x).1 hx)), c]
    omega
  · simp [totL]
end Go.Proofs.Ytbjiipicbcamnaa
