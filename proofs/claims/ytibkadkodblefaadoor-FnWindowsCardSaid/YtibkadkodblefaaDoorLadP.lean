/-
  Ladders: the plain law. What the program's table of points holds, what the reference's search for an angle gives, and that both are the same.
-/
import Derived.Test.YtibkadkodblefaaDoorNum
namespace Go.Proofs.YtibkadkodblefaaDoor
open Go.RowKit

def sinL : List Int := [0, 175, 349, 523, 698, 872, 1045, 1219, 1392, 1564, 1736, 1908, 2079,
    2250, 2419, 2588, 2756, 2924, 3090, 3256, 3420, 3584, 3746, 3907, 4067, 4226,
    4384, 4540, 4695, 4848, 5000, 5150, 5299, 5446, 5592, 5736, 5878, 6018, 6157,
    6293, 6428, 6561, 6691, 6820, 6947, 7071, 7193, 7314, 7431, 7547, 7660, 7771,
    7880, 7986, 8090, 8192, 8290, 8387, 8480, 8572, 8660, 8746, 8829, 8910, 8988,
    9063, 9135, 9205, 9272, 9336, 9397, 9455, 9511, 9563, 9613, 9659, 9703, 9744,
    9781, 9816, 9848, 9877, 9903, 9925, 9945, 9962, 9976, 9986, 9994, 9998, 10000]
def sn (a : Nat) : Int := (sinL[a]?).getD 0
theorem sn_get {a : Nat} (h : a ≤ 90) : sinL[a]? = some (sn a) := by
  have : a < sinL.length := by show a < 91; omega
  unfold sn
  rw [List.getElem?_eq_getElem this]; rfl
theorem sn_bd_all : ∀ a < 91, 0 ≤ sn a ∧ sn a ≤ 10000 := by decide
theorem sn_bd {a : Nat} (h : a ≤ 90) : 0 ≤ sn a ∧ sn a ≤ 10000 := sn_bd_all a (by omega)
theorem sn_wide_all : ∀ a < 86, 1 ≤ sn (90 - a) := by decide
theorem sn_wide {a : Nat} (h : a ≤ 85) : 1 ≤ sn (90 - a) := sn_wide_all a (by omega)

/-- How far the tip is out and up (above the base), at a length and a direction's sine. -/
def tipL (n : Nat) (s : Int) : Int := (n : Int) * s / 10000
theorem tipL_mono {n k : Nat} {s : Int} (hs : 0 ≤ s) (h : n ≤ k) : tipL n s ≤ tipL k s := by
  unfold tipL
  exact Int.ediv_le_ediv (by omega) (Int.mul_le_mul_of_nonneg_right (by omega) hs)
theorem tipL_bd {n : Nat} {s : Int} (h0 : 0 ≤ s) (h1 : s ≤ 10000) (hn : n ≤ 600) : 0 ≤ tipL n s ∧ tipL n s ≤ 600 := by
  have := (mul_bd (a := (n : Int)) (b := s) (A := 600) (B := 10000) (by omega) (by omega) h0 h1)
  unfold tipL
  omega
theorem tipL_zero (n : Nat) : tipL n 0 = 0 := by unfold tipL; simp

/-- The point is one of the four that the tip at this angle and length reaches. -/
def hitB (b o x y : Int) (a n : Nat) : Bool :=
  decide (tipL n (sn (90 - a)) ≤ o) && (decide (x = tipL n (sn (90 - a))) || decide (x = tipL n (sn (90 - a)) - 1)) && (decide (y = b + tipL n (sn a)) || decide (y = b + tipL n (sn a) - 1))
def reachB (b o : Int) (L : Nat) (x y : Int) (a : Nat) : Bool := (List.range (L + 1)).any fun n => hitB b o x y a n
theorem hitB_iff {b o x y : Int} {a n : Nat} : hitB b o x y a n = true ↔ tipL n (sn (90 - a)) ≤ o ∧ x ≤ tipL n (sn (90 - a)) ∧ tipL n (sn (90 - a)) ≤ x + 1 ∧ y ≤ b + tipL n (sn a) ∧ b + tipL n (sn a) ≤ y + 1 := by
  unfold hitB
  simp only [Bool.and_eq_true, Bool.or_eq_true, decide_eq_true_eq]
  omega
theorem reachB_iff {b o : Int} {L : Nat} {x y : Int} {a : Nat} : reachB b o L x y a = true ↔ ∃ n, n ≤ L ∧ hitB b o x y a n = true := by
  unfold reachB
  rw [List.any_eq_true]
  constructor
  · rintro ⟨n, hn, h⟩; exact ⟨n, by have := List.mem_range.1 hn; omega, h⟩
  · rintro ⟨n, hn, h⟩; exact ⟨n, List.mem_range.2 (by omega), h⟩

/-! ### The program's table -/
abbrev Pts := Int → Int → Int
def Pts.put (F : Pts) (x y v : Int) : Pts := fun x' y' => if x' = x ∧ y' = y then v else F x' y'
def ptStep (v : Int) (F : Pts) (c : Int × Int) : Pts := if F c.1 c.2 = 0 then F.put c.1 c.2 v else F
def fourC (x y : Int) : List (Int × Int) := [(x, y), (x - 1, y), (x, y - 1), (x - 1, y - 1)]
def ptLen (b o : Int) (a : Nat) (F : Pts) (n : Nat) : Pts :=
  if tipL n (sn (90 - a)) ≤ o then (fourC (tipL n (sn (90 - a))) (b + tipL n (sn a))).foldl (ptStep ((a : Int) + 1)) F else F
def ptAng (b o : Int) (L : Nat) (F : Pts) (a : Nat) : Pts := (List.range (L + 1)).foldl (ptLen b o a) F
def ptAll (b o : Int) (L s m : Nat) : Pts := (List.range (m + 1 - s)).foldl (fun F i => ptAng b o L F (s + i)) (fun _ _ => 0)

theorem ptSteps {v : Int} : ∀ (l : List (Int × Int)) (F : Pts) (x y : Int), l.foldl (ptStep v) F x y = if F x y ≠ 0 then F x y else if l.any (fun c => decide (x = c.1) && decide (y = c.2)) then v else 0 := by
  intro l
  induction l with
  | nil => intro F x y; simp
  | cons c l ih =>
    intro F x y
    obtain ⟨cx, cy⟩ := c
    rw [List.foldl_cons, ih, List.any_cons]
    unfold ptStep Pts.put
    dsimp only
    by_cases h0 : F cx cy = 0
    · rw [if_pos h0]
      by_cases e : x = cx ∧ y = cy
      · obtain ⟨rfl, rfl⟩ := e
        simp [h0]
        intro h
        simp [h]
      · have e' : (decide (x = cx) && decide (y = cy)) = false := by simpa using e
        simp only [e, if_false, e', Bool.false_or]
    · rw [if_neg h0]
      by_cases e : x = cx ∧ y = cy
      · obtain ⟨rfl, rfl⟩ := e
        simp [h0]
      · have e' : (decide (x = cx) && decide (y = cy)) = false := by simpa using e
        simp only [e', Bool.false_or]
theorem ptLen_at {b o : Int} {a n : Nat} {F : Pts} {x y : Int} : ptLen b o a F n x y = if F x y ≠ 0 then F x y else if hitB b o x y a n then (a : Int) + 1 else 0 := by
  unfold ptLen
  by_cases h : tipL n (sn (90 - a)) ≤ o
  · rw [if_pos h, ptSteps]
    have : (fourC (tipL n (sn (90 - a))) (b + tipL n (sn a))).any (fun c => decide (x = c.1) && decide (y = c.2)) = hitB b o x y a n := by
      unfold fourC hitB
      simp only [List.any_cons, List.any_nil, h, decide_true, Bool.true_and, Bool.or_false]
      cases decide (x = tipL n (sn (90 - a))) <;> cases decide (x = tipL n (sn (90 - a)) - 1) <;> cases decide (y = b + tipL n (sn a)) <;> cases decide (y = b + tipL n (sn a) - 1) <;> rfl
    rw [this]
  · rw [if_neg h]
    have : hitB b o x y a n = false := by unfold hitB; rw [decide_eq_false h]; rfl
    rw [this]
    simp
theorem ptLens {b o : Int} {a : Nat} {x y : Int} : ∀ (l : List Nat) (F : Pts), l.foldl (ptLen b o a) F x y = if F x y ≠ 0 then F x y else if l.any (fun n => hitB b o x y a n) then (a : Int) + 1 else 0 := by
  intro l
  induction l with
  | nil => intro F; simp
  | cons n l ih =>
    intro F
    rw [List.foldl_cons, ih, ptLen_at, List.any_cons]
    by_cases h0 : F x y = 0
    · simp only [h0, ne_eq, not_true, if_false]
      cases hb : hitB b o x y a n with
      | true => simp; omega
      | false => simp
    · simp [h0]
theorem ptAng_at {b o : Int} {L a : Nat} {F : Pts} {x y : Int} : ptAng b o L F a x y = if F x y ≠ 0 then F x y else if reachB b o L x y a then (a : Int) + 1 else 0 := ptLens _ _
/-- The least angle with which the point is reached. -/
def angF (b o : Int) (L s m : Nat) (x y : Int) : Option Nat := ((List.range (m + 1 - s)).map (s + ·)).find? (reachB b o L x y)
def ptV (r : Option Nat) : Int := match r with | some a => (a : Int) + 1 | none => 0
theorem ptAngs {b o : Int} {L s : Nat} {x y : Int} : ∀ (l : List Nat) (F : Pts), l.foldl (fun F i => ptAng b o L F (s + i)) F x y = if F x y ≠ 0 then F x y else ptV ((l.map (s + ·)).find? (reachB b o L x y)) := by
  intro l
  induction l with
  | nil => intro F; simp [ptV]
  | cons i l ih =>
    intro F
    rw [List.foldl_cons, ih, ptAng_at, List.map_cons, List.find?_cons]
    by_cases h0 : F x y = 0
    · simp only [h0, ne_eq, not_true, if_false]
      cases hb : reachB b o L x y (s + i) with
      | true => simp [ptV]; omega
      | false => simp
    · simp [h0]
theorem ptAll_at (b o : Int) (L s m : Nat) (x y : Int) : ptAll b o L s m x y = ptV (angF b o L s m x y) := by
  unfold ptAll angF
  rw [ptAngs, if_neg (by simp)]
theorem ptV_pos (r : Option Nat) : 0 < ptV r ↔ r.isSome = true := by cases r <;> simp [ptV]
theorem ptV_lt {b o : Int} {L s m : Nat} {x y : Int} (hm : m ≤ 85) : ptV (angF b o L s m x y) ≤ 86 := by
  cases h : angF b o L s m x y with
  | none => simp [ptV]
  | some a =>
    have := List.mem_of_find?_eq_some h
    obtain ⟨i, hi, rfl⟩ := List.mem_map.1 this
    have := List.mem_range.1 hi
    simp only [ptV]; omega

/-! ### The reference's search -/
def needsL (want s : Int) : Int := if want ≤ 0 then 0 else (want * 10000 + s - 1) / s
theorem needsL_le {want s : Int} (hs : 1 ≤ s) (n : Nat) : needsL want s ≤ (n : Int) ↔ want ≤ tipL n s := by
  unfold needsL tipL
  by_cases h : want ≤ 0
  · rw [if_pos h]
    have : 0 ≤ (n : Int) * s := Int.mul_nonneg (by omega) (by omega)
    omega
  · rw [if_neg h]
    rw [Int.le_ediv_iff_mul_le (by omega), ← Int.lt_add_one_iff, Int.ediv_lt_iff_lt_mul (by omega), Int.add_mul, Int.one_mul]
    omega
theorem needsL_nn {want s : Int} (hs : 1 ≤ s) : 0 ≤ needsL want s := by
  unfold needsL
  split
  · omega
  · exact Int.ediv_nonneg (by omega) (by omega)
theorem needsL_bd {want s : Int} (hs : 1 ≤ s) (hw : want ≤ 600) : needsL want s ≤ 6000000 := by
  unfold needsL
  split
  · omega
  · rw [← Int.lt_add_one_iff, Int.ediv_lt_iff_lt_mul (by omega)]
    have : (6000000 + 1) * s = 6000000 * s + s := by rw [Int.add_mul]; omega
    have h2 : 6000000 ≤ 6000000 * s := by omega
    omega
/-- The length that is tried at an angle. -/
def lenL (b out up : Int) (a : Nat) : Int := if 0 < sn a then max (needsL out (sn (90 - a))) (needsL (up - b) (sn a)) else needsL out (sn (90 - a))
def okL2 (b o : Int) (L : Nat) (out up : Int) (a : Nat) : Bool :=
  !(decide (sn a = 0) && decide (b < up)) && (decide (lenL b out up a ≤ L) && decide (lenL b out up a * sn (90 - a) / 10000 ≤ out + 1) && decide (b + lenL b out up a * sn a / 10000 ≤ up + 1) && decide (lenL b out up a * sn (90 - a) / 10000 ≤ o))
theorem lenL_le {b out up : Int} {a n : Nat} (ha : a ≤ 85) : lenL b out up a ≤ (n : Int) ↔ out ≤ tipL n (sn (90 - a)) ∧ (0 < sn a → up ≤ b + tipL n (sn a)) := by
  have hw := sn_wide ha
  unfold lenL
  by_cases h : 0 < sn a
  · rw [if_pos h, ← needsL_le hw n]
    have := needsL_le (want := up - b) (s := sn a) (by omega) n
    constructor
    · intro h1; exact ⟨by omega, fun _ => by have := this.1 (by omega); omega⟩
    · rintro ⟨h1, h2⟩; have h3 := this.2 (by have := h2 h; omega); omega
  · rw [if_neg h, ← needsL_le hw n]
    exact ⟨fun h1 => ⟨h1, fun h2 => absurd h2 h⟩, fun h1 => h1.1⟩
theorem lenL_nn {b out up : Int} {a : Nat} (ha : a ≤ 85) : 0 ≤ lenL b out up a := by
  have hw := needsL_nn (want := out) (sn_wide ha)
  unfold lenL
  split <;> omega
theorem okL2_iff {b o : Int} {L : Nat} {out up : Int} {a : Nat} (ha : a ≤ 85) : okL2 b o L out up a = reachB b o L out up a := by
  obtain ⟨n, hn⟩ : ∃ n : Nat, lenL b out up a = (n : Int) := ⟨(lenL b out up a).toNat, by have := lenL_nn (b := b) (out := out) (up := up) ha; omega⟩
  have s0 := (sn_bd (a := a) (by omega)).1
  have s1 := (sn_bd (a := 90 - a) (by omega)).1
  have hself := (lenL_le (b := b) (out := out) (up := up) (n := n) ha).1 (by omega)
  rw [Bool.eq_iff_iff, reachB_iff]
  unfold okL2
  rw [hn]
  have e1 : (n : Int) * sn (90 - a) / 10000 = tipL n (sn (90 - a)) := rfl
  have e2 : (n : Int) * sn a / 10000 = tipL n (sn a) := rfl
  rw [e1, e2]
  simp only [Bool.and_eq_true, decide_eq_true_eq, Bool.not_eq_true', Bool.and_eq_false_iff, decide_eq_false_iff_not]
  constructor
  · rintro ⟨h0, ⟨⟨h1, h2⟩, h3⟩, h4⟩
    refine ⟨n, by omega, hitB_iff.2 ⟨h4, hself.1, h2, ?_, h3⟩⟩
    by_cases hp : 0 < sn a
    · exact hself.2 hp
    · have hz : sn a = 0 := by omega
      rw [hz, tipL_zero]
      rcases h0 with h0 | h0
      · exact absurd hz h0
      · omega
  · rintro ⟨k, hk, h⟩
    obtain ⟨h1, h2, h3, h4, h5⟩ := hitB_iff.1 h
    have hnk : (n : Int) ≤ (k : Int) := by rw [← hn]; exact (lenL_le ha).2 ⟨h2, fun _ => h4⟩
    have m1 := tipL_mono (n := n) (k := k) s1 (by omega)
    have m2 := tipL_mono (n := n) (k := k) s0 (by omega)
    refine ⟨?_, ⟨⟨by omega, by omega⟩, by omega⟩, by omega⟩
    by_cases hz : sn a = 0
    · rw [hz, tipL_zero] at h4
      exact .inr (by omega)
    · exact .inl hz
end Go.Proofs.YtibkadkodblefaaDoor
