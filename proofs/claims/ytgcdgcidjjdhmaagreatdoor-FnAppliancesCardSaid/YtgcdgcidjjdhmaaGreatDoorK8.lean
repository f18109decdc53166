/-
  l1Own: a copy of a slice of ints in memory of the call's own. spec.l1Put: a number put into an increasing list (printed by gen_put.py). (joined by pack.py: Own Put)
-/
import Derived.Test.YtgcdgcidjjdhmaaGreatDoorK6
import Derived.Test.YtgcdgcidjjdhmaaGreatDoorK7
namespace Go.Proofs.YtgcdgcidjjdhmaaGreatDoor
set_option linter.unusedVariables false
set_option linter.unusedSimpArgs false
open Go.RowKit

theorem ints_one (l : List Int) : ∀ u ∈ ints l, u.oneCell' = true := by
  intro u hu
  obtain ⟨x, _, rfl⟩ := List.mem_map.1 hu
  rfl
/-- A new slice of ints that holds l, alone. -/
def OwnI (l : List Int) (w : World) (e : Ending) (w' : World) : Prop :=
  ∃ v, e = .returned v ∧ w'.ownsRow w.heap.size 3 1 v l.length (ints l) ∧ Below w.heap.size w w'
/-- A result: a slice of ints of the call's own and a bool. -/
def OwnIB (r : List Int × Bool) (w : World) (e : Ending) (w' : World) : Prop :=
  ∃ v, e = .returned (.tuple #[v, .bool r.2]) ∧ w'.ownsRow w.heap.size 3 1 v r.1.length (ints r.1) ∧ Below w.heap.size w w'

end Go.Proofs.YtgcdgcidjjdhmaaGreatDoor

namespace Go.Proofs.YtgcdgcidjjdhmaaGreatDoor
set_option linter.unusedVariables false
set_option linter.unusedSimpArgs false
open Go.RowKit

def putI : List Int → Int → List Int
  | [], n => [n]
  | x :: l, n => if x < n then x :: putI l n else if x = n then x :: l else n :: x :: l
theorem rd_front {w : World} {A : Option Addr} {l : List Int} {c k : Nat} (h : RdI w (.slice A l.length c) l) (hk : k ≤ l.length) : Rd w (.slice A k c) k (ints (l.take k)) := by
  obtain ⟨A', c', hv, h1, h2, h3⟩ := h
  injection hv with hA _ hcc
  subst hA; subst hcc
  refine ⟨_, _, rfl, by omega, h2, fun hn => ?_⟩
  obtain ⟨b, off, e, hb, hcell⟩ := h3 (by omega)
  refine ⟨b, off, e, hb, fun q u hu => hcell q u ?_⟩
  rw [ints, List.map_take, List.getElem?_take] at hu
  split at hu
  · exact hu
  · cases hu
theorem rd_back {w : World} {b off : Nat} {l : List Int} {c k : Nat} (h : RdI w (.slice (some ⟨b, off, none⟩) l.length c) l) (hk : k ≤ l.length) : Rd w (.slice (some ⟨b, off + k, none⟩) (l.length - k) (c - k)) (l.length - k) (ints (l.drop k)) := by
  obtain ⟨A', c', hv, h1, h2, h3⟩ := h
  injection hv with hA _ hcc
  subst hA; subst hcc
  refine ⟨_, _, rfl, by omega, by omega, fun hn => ?_⟩
  obtain ⟨b', off', e, hb, hcell⟩ := h3 (by omega)
  injection e with e
  injection e with e1 e2
  subst e1; subst e2
  refine ⟨b, off + k, rfl, hb, fun q u hu => ?_⟩
  have := hcell (k + q) u (by rw [ints, List.map_drop, List.getElem?_drop] at hu; exact hu)
  rw [Nat.add_assoc]; exact this
theorem putI_mem : ∀ (l : List Int) (n y : Int), y ∈ putI l n ↔ y = n ∨ y ∈ l := by
  intro l
  induction l with
  | nil => intro n y; simp [putI]
  | cons x l ih =>
    intro n y
    simp only [putI]
    split
    · rw [List.mem_cons, ih, List.mem_cons]
      constructor
      · rintro (h | h | h)
        · exact .inr (.inl h)
        · exact .inl h
        · exact .inr (.inr h)
      · rintro (h | h | h)
        · exact .inr (.inl h)
        · exact .inl h
        · exact .inr (.inr h)
    · split
      · rename_i h1 h2
        subst h2
        rw [List.mem_cons]
        constructor
        · exact .inr
        · rintro (h | h)
          · exact .inl h
          · exact h
      · rw [List.mem_cons]
theorem putI_len (l : List Int) (n : Int) : (putI l n).length ≤ l.length + 1 := by
  induction l with
  | nil => simp [putI]
  | cons x l ih =>
    simp only [putI]
    split
    · simp; omega
    · split <;> simp
theorem putI_inc : ∀ (l : List Int) (n : Int), l.Pairwise (· < ·) → (putI l n).Pairwise (· < ·) := by
  intro l
  induction l with
  | nil => intro n _; simp [putI]
  | cons x l ih =>
    intro n h
    rw [List.pairwise_cons] at h
    simp only [putI]
    split
    · rename_i hx
      rw [List.pairwise_cons]
      refine ⟨fun y hy => ?_, ih n h.2⟩
      rcases (putI_mem l n y).1 hy with rfl | hy
      · exact hx
      · exact h.1 y hy
    · split
      · exact List.pairwise_cons.2 h
      · rename_i h1 h2
        rw [List.pairwise_cons]
        refine ⟨fun y hy => ?_, List.pairwise_cons.2 h⟩
        rcases List.mem_cons.1 hy with rfl | hy
        · omega
        · have := h.1 y hy; omega
theorem putI_go {l : List Int} {n x : Int} {k : Nat} (hx : l[k]? = some x) (h : x < n) (e : putI l n = l.take k ++ putI (l.drop k) n) : putI l n = l.take (k + 1) ++ putI (l.drop (k + 1)) n := by
  have hk := (List.getElem?_eq_some_iff.1 hx).1
  have hd : l.drop k = x :: l.drop (k + 1) := by
    rw [List.drop_eq_getElem_cons hk]
    rw [List.getElem?_eq_getElem hk] at hx
    rw [Option.some.inj hx]
  rw [e, hd, take_succ_of hx]
  simp only [putI]
  rw [if_pos h]; simp
theorem putI_in {l : List Int} {n : Int} {k : Nat} (hx : l[k]? = some n) (e : putI l n = l.take k ++ putI (l.drop k) n) : putI l n = l := by
  have hk := (List.getElem?_eq_some_iff.1 hx).1
  have hd : l.drop k = n :: l.drop (k + 1) := by
    rw [List.drop_eq_getElem_cons hk]
    rw [List.getElem?_eq_getElem hk] at hx
    rw [Option.some.inj hx]
  have h2 : putI (n :: l.drop (k + 1)) n = n :: l.drop (k + 1) := by simp [putI]
  rw [e, hd, h2, ← hd, List.take_append_drop]
theorem putI_new {l : List Int} {n x : Int} {k : Nat} (hx : l[k]? = some x) (h : n < x) (e : putI l n = l.take k ++ putI (l.drop k) n) : putI l n = l.take k ++ n :: l.drop k := by
  have hk := (List.getElem?_eq_some_iff.1 hx).1
  have hd : l.drop k = x :: l.drop (k + 1) := by
    rw [List.drop_eq_getElem_cons hk]
    rw [List.getElem?_eq_getElem hk] at hx
    rw [Option.some.inj hx]
  rw [e, hd]
  simp only [putI]
  rw [if_neg (by omega), if_neg (by omega)]
theorem putI_end {l : List Int} {n : Int} (e : putI l n = l.take l.length ++ putI (l.drop l.length) n) : putI l n = l.take l.length ++ n :: l.drop l.length := by
  rw [e]; simp [putI]

/-- A slice of ints that reads as l. -/
def PutPost (l : List Int) (w : World) (e : Ending) (w' : World) : Prop := ∃ v, e = .returned v ∧ RdI w' v l ∧ Below w.heap.size w w'
/-- A slice of ints of its own that reads as l, or the one that came in. -/
def PutOwn (v0 : Value) (l0 l : List Int) (w : World) (e : Ending) (w' : World) : Prop := ∃ v, e = .returned v ∧ (w'.ownsRow w.heap.size 3 1 v l.length (ints l) ∨ (v = v0 ∧ l = l0)) ∧ Below w.heap.size w w'
theorem own_len {w : World} {base n : Nat} {v : Value} {l : List Int} (h : w.ownsRow base 3 1 v n (ints l)) : w.ownsRow base 3 1 v l.length (ints l) := by
  have e : l.length = n := by have := h.1; rw [ints_len] at this; omega
  rw [e]; exact h
end Go.Proofs.YtgcdgcidjjdhmaaGreatDoor
