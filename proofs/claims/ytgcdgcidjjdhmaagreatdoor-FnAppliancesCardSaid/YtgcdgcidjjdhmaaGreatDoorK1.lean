/-
  Words for memory that is read: a slice value that reads as a list of cells. No program in sight. (joined by pack.py: Mem)
-/
import Derived.WalkKit
import Derived.WalkSpells
import Derived.WalkLawsBesides
import Derived.BigGuardPart
import Derived.Lib.Hide
namespace Go.Proofs.YtgcdgcidjjdhmaaGreatDoor
set_option linter.unusedVariables false
set_option linter.unusedSimpArgs false
open Go.RowKit

/-- The slice value v has n elements and reads as the cells xs (all elements' cells, one behind the other). -/
def Rd (w : World) (v : Value) (n : Nat) (xs : List Value) : Prop :=
  ∃ A c, v = .slice A n c ∧ n ≤ c ∧ c ≤ maxLen ∧ (0 < n → ∃ b off, A = some ⟨b, off, none⟩ ∧ b < w.heap.size ∧ ∀ j u, xs[j]? = some u → w.cell? ⟨b, off + j, none⟩ = some u)

theorem rd_below {w w' : World} {v : Value} {n : Nat} {xs : List Value} (h : Rd w v n xs) (hb : Below w.heap.size w w') : Rd w' v n xs := by
  obtain ⟨A, c, hv, h1, h2, h3⟩ := h
  refine ⟨A, c, hv, h1, h2, fun hn => ?_⟩
  obtain ⟨b, off, hA, hlt, hc⟩ := h3 hn
  exact ⟨b, off, hA, Nat.lt_of_lt_of_le hlt hb.size, fun j u hu => (hb.cell (p := ⟨b, off + j, none⟩) hlt).trans (hc j u hu)⟩

theorem flat_get {α : Type} {enc : α → List Value} {sz : Nat} (hs : ∀ x, (enc x).length = sz) : ∀ (l : List α) (i : Nat) (x : α), l[i]? = some x → ∀ j, j < sz → (l.flatMap enc)[i * sz + j]? = (enc x)[j]? := by
  intro l
  induction l with
  | nil => intro i x h; simp at h
  | cons y l ih =>
    intro i x h j hj
    rw [List.flatMap_cons]
    cases i with
    | zero =>
      simp at h; subst h
      rw [List.getElem?_append_left (by rw [hs]; omega)]; simp
    | succ i =>
      simp at h
      rw [List.getElem?_append_right (by rw [hs]; have := Nat.add_one_mul i sz; omega), hs]
      have e : (i + 1) * sz + j - sz = i * sz + j := by have := Nat.add_one_mul i sz; omega
      rw [e]
      exact ih i x h j hj

/-- A cell of the read slice, in a later world. -/
theorem cell_at {w wr : World} {b off : Nat} {xs : List Value} (hc : ∀ j u, xs[j]? = some u → w.cell? ⟨b, off + j, none⟩ = some u) (hb : Below w.heap.size w wr) (hbl : b < w.heap.size) {j : Nat} {u : Value} (h : xs[j]? = some u) :
    wr.cell? ⟨b, off + j, none⟩ = some u := ((hb.cell (p := ⟨b, off + j, none⟩) hbl)).trans (hc _ _ h)

theorem rd_of_block {w : World} {b n c : Nat} {xs : List Value} {t : TypeId} {fr : Nat × Nat} (hn : n ≤ c) (hc : c ≤ maxLen) (hh : w.heap[b]? = some (.cells xs.toArray t fr)) : Rd w (.slice (some ⟨b, 0, none⟩) n c) n xs := by
  refine ⟨_, _, rfl, hn, hc, fun _ => ⟨b, 0, rfl, ?_, fun j u hu => ?_⟩⟩
  · rcases Nat.lt_or_ge b w.heap.size with h | h
    · exact h
    · rw [Array.getElem?_eq_none h] at hh; cases hh
  · simp [World.cell?, hh, hu]

theorem rd_new (w0 : World) {xs : List Value} {t : TypeId} {n c k : Nat} (hk : k = w0.heap.size) (hn : n ≤ c) (hc : c ≤ maxLen) : Rd (w0.alloc (.cells xs.toArray t)) (.slice (some ⟨k, 0, none⟩) n c) n xs := by
  subst hk
  exact rd_of_block hn hc (heap_alloc_new w0 _)

theorem bel_al {a b : World} (h : Below a.heap.size a b) (o : Obj) : Below a.heap.size a (b.alloc o) := h.alloc h.size o
theorem bel_dr {B : Nat} {a b : World} (h : Below B a b) : Below B a b.drew := h.drew
theorem below_drewN {B : Nat} {a w : World} (h : Below B a w) (n : Nat) : Below B a (w.drewN n) := ⟨h.os, h.tape, h.output, h.size, h.block⟩
/-- Behind a call that made memory: a second 'Below' from the first world on. -/
theorem bel_then {a b c : World} (h : Below a.heap.size a b) (k : Below b.heap.size b c) : Below a.heap.size a c := h.trans (k.mono h.size)
/-- All old cells and marks read as before. -/
theorem bel_facts {B : Nat} {W w1 : World} (hb : Below B W w1) : (∀ b o, b < B → w1.cell? ⟨b, o, none⟩ = W.cell? ⟨b, o, none⟩) ∧ (∀ b o, b < B → w1.frozen? ⟨b, o, none⟩ = W.frozen? ⟨b, o, none⟩) :=
  ⟨fun b o h => hb.cell (p := ⟨b, o, none⟩) h, fun b o h => hb.frozen (p := ⟨b, o, none⟩) h⟩
theorem own_rd {w : World} {base : Nat} {e : TypeId} {sz : Nat} {v : Value} {n : Nat} {xs : List Value} (h : w.ownsRow base e sz v n xs) : Rd w v n xs := by
  rcases h.2 with ⟨rfl, rfl⟩ | ⟨g, cap, cur, rfl, hb, hg, hn, hc, hs, ht⟩
  · exact ⟨none, 0, rfl, Nat.le_refl _, Nat.zero_le _, fun h => absurd h (by omega)⟩
  · refine ⟨_, cap, rfl, hn, hc, fun _ => ⟨g, 0, rfl, (Array.getElem?_eq_some_iff.1 hg).1, fun j u hu => ?_⟩⟩
    have := h.cells (g := g) rfl j u hu
    rwa [Addr.add_lit] at this

/-- A row that the call owns, in a later world that has left all up to here as it was. -/
theorem own_below {a b : World} {base : Nat} {e : TypeId} {sz : Nat} {v : Value} {n : Nat} {xs : List Value} (h : a.ownsRow base e sz v n xs) (hb : Below a.heap.size a b) : b.ownsRow base e sz v n xs := by
  refine h.kept (row := none) ⟨hb.os, hb.tape, hb.output, hb.size, fun k hk _ => hb.block k hk⟩ ?_
  cases hv : v.ownBlock <;> simp

/-- A later base: what is owned from base on is owned from a smaller one on. -/
theorem own_base {a : World} {base base' : Nat} {e : TypeId} {sz : Nat} {v : Value} {n : Nat} {xs : List Value} (h : a.ownsRow base e sz v n xs) (hb : base' ≤ base) : a.ownsRow base' e sz v n xs := by
  refine ⟨h.1, ?_⟩
  rcases h.2 with h | ⟨g, cap, cur, h1, h2, h3⟩
  · exact .inl h
  · exact .inr ⟨g, cap, cur, h1, Nat.le_trans hb h2, h3⟩

theorem bel_grown {a b c : World} {row : Option Nat} (h : Below a.heap.size a b) (hg : b.grownBy c row) (hr : ∀ k, row = some k → a.heap.size ≤ k) : Below a.heap.size a c := h.grown hg h.size hr

/-! ### Several cells stored one behind the other into an owned row; a row that is filled element by element -/
def putAt (xs : List Value) (i : Nat) : List Value → List Value
  | [] => xs
  | u :: us => putAt (xs.set i u) (i + 1) us
def setMany (w : World) (g j : Nat) : List Value → World
  | [] => w
  | u :: us => setMany (w.setCell ⟨g, j, none⟩ u) g (j + 1) us

theorem putAt_block : ∀ (us zs A R : List Value), us.length = zs.length → ∀ i, i = A.length → putAt (A ++ (zs ++ R)) i us = A ++ (us ++ R) := by
  intro us
  induction us with
  | nil => intro zs A R h i _; cases zs with | nil => rfl | cons _ _ => simp at h
  | cons u us ih =>
    intro zs A R h i hi
    subst hi
    cases zs with
    | nil => simp at h
    | cons z zs =>
      simp at h
      have e : (A ++ ((z :: zs) ++ R)).set A.length u = (A ++ [u]) ++ (zs ++ R) := by
        rw [List.set_append_right (h := Nat.le_refl _)]; simp
      unfold putAt
      rw [e, ih zs (A ++ [u]) R h _ (by simp)]
      simp

theorem own_put {base : Nat} {e : TypeId} {sz g n cap : Nat} : ∀ (us : List Value) (w : World) (xs : List Value) (j : Nat),
    w.ownsRow base e sz (.slice (some ⟨g, 0, none⟩) n cap) n xs → (setMany w g j us).ownsRow base e sz (.slice (some ⟨g, 0, none⟩) n cap) n (putAt xs j us) := by
  intro us
  induction us with
  | nil => intro w xs j h; exact h
  | cons u us ih => intro w xs j h; exact ih _ _ _ (h.stored j u).1

theorem bel_put {a : World} {g : Nat} (hg : a.heap.size ≤ g) : ∀ (us : List Value) (w : World) (j : Nat), Below a.heap.size a w → Below a.heap.size a (setMany w g j us) := by
  intro us
  induction us with
  | nil => intro w j h; exact h
  | cons u us ih => intro w j h; exact ih _ _ (h.setCell hg u)

theorem only_setCell {a w : World} {g : Nat} (h : a.grownBy w (some g)) (j : Nat) (u : Value) : a.grownBy (w.setCell ⟨g, j, none⟩ u) (some g) :=
  ⟨h.os, h.tape, h.output, by simpa [World.setCell] using h.size, fun i hi hne => (Below.heap_setCell w ⟨g, j, none⟩ u i (fun e => hne (by rw [e]))).trans (h.block i hi hne)⟩
theorem only_put {a : World} {g : Nat} : ∀ (us : List Value) (w : World) (j : Nat), a.grownBy w (some g) → a.grownBy (setMany w g j us) (some g) := by
  intro us
  induction us with
  | nil => intro w j h; exact h
  | cons u us ih => intro w j h; exact ih _ _ (only_setCell h j u)
/-- A store into an older block leaves an owned row as it is. -/
theorem own_other {w : World} {base : Nat} {e : TypeId} {sz : Nat} {v : Value} {n : Nat} {xs : List Value} (h : w.ownsRow base e sz v n xs) {g : Nat} (hg : g < base) (j : Nat) (u : Value) : (w.setCell ⟨g, j, none⟩ u).ownsRow base e sz v n xs :=
  h.kept (only_setCell (World.grownBy.refl w (some g)) j u) (by
    cases hb : v.ownBlock with
    | none => exact .inl rfl
    | some q => exact .inr (fun k => by have h1 := Option.some.inj k; have h2 := (h.lt q hb).1; omega))
theorem some_at {xs : List Value} {j : Nat} (h : j < xs.length) : ∃ u, xs[j]? = some u := ⟨_, List.getElem?_eq_getElem h⟩

/-- The first k elements are written, behind them stand zero elements. -/
def part {α : Type} (enc : α → List Value) (zs : List Value) (l : List α) (k : Nat) : List Value := (l.take k).flatMap enc ++ (List.replicate (l.length - k) zs).flatten

theorem len_flat {α : Type} {enc : α → List Value} {sz : Nat} (hs : ∀ x, (enc x).length = sz) (l : List α) : (l.flatMap enc).length = l.length * sz := by
  induction l with
  | nil => simp
  | cons x l ih => rw [List.flatMap_cons, List.length_append, hs, ih, List.length_cons, Nat.add_one_mul]; omega

theorem part_split {α : Type} {enc : α → List Value} {zs : List Value} {l : List α} {k : Nat} (hk : k < l.length) :
    part enc zs l k = (l.take k).flatMap enc ++ (zs ++ (List.replicate (l.length - (k + 1)) zs).flatten) := by
  unfold part
  have e : l.length - k = (l.length - (k + 1)) + 1 := by omega
  rw [e, List.replicate_succ, List.flatten_cons]

theorem part_get {α : Type} {enc : α → List Value} {zs : List Value} {sz : Nat} (hs : ∀ x, (enc x).length = sz) (hz : zs.length = sz) {l : List α} {k j : Nat} (hk : k < l.length) (hj : j < sz) : (part enc zs l k)[k * sz + j]? = zs[j]? := by
  rw [part_split hk, List.getElem?_append_right (by rw [len_flat hs, List.length_take, Nat.min_eq_left (by omega)]; omega), len_flat hs, List.length_take, Nat.min_eq_left (by omega),
    List.getElem?_append_left (by omega)]
  congr 1; omega

theorem part_put {α : Type} {enc : α → List Value} {zs : List Value} {sz : Nat} (hs : ∀ x, (enc x).length = sz) (hz : zs.length = sz) {l : List α} {k : Nat} {x : α} (hx : l[k]? = some x) : putAt (part enc zs l k) (k * sz) (enc x) = part enc zs l (k + 1) := by
  have hk : k < l.length := (List.getElem?_eq_some_iff.1 hx).1
  rw [part_split hk, putAt_block (enc x) zs _ _ (by rw [hs, hz]) _ (by rw [len_flat hs, List.length_take, Nat.min_eq_left (by omega)])]
  unfold part
  rw [List.take_add_one, hx, List.flatMap_append]
  simp

theorem part_zero {α : Type} {enc : α → List Value} {zs : List Value} {l : List α} : part enc zs l 0 = (List.replicate l.length zs).flatten := by simp [part]
theorem part_full {α : Type} {enc : α → List Value} {zs : List Value} {l : List α} : part enc zs l l.length = l.flatMap enc := by simp [part]

theorem rep_get {zs : List Value} {sz : Nat} (hz : zs.length = sz) (hp : 0 < sz) : ∀ (n j : Nat), (List.replicate n zs).flatten[j]? = if j < n * sz then zs[j % sz]? else none := by
  intro n
  induction n with
  | zero => intro j; simp
  | succ n ih =>
    intro j
    rw [List.replicate_succ, List.flatten_cons]
    have e := Nat.add_one_mul n sz
    by_cases h : j < sz
    · rw [List.getElem?_append_left (by omega), if_pos (by omega), Nat.mod_eq_of_lt h]
    · rw [List.getElem?_append_right (by omega), ih, hz, ← Nat.mod_eq_sub_mod (by omega)]
      by_cases h2 : j < (n + 1) * sz
      · rw [if_pos (by omega), if_pos h2]
      · rw [if_neg (by omega), if_neg h2]

theorem made_eq {z : Array Value} {sz : Nat} (hz : z.size = sz) (hp : 0 < sz) (n : Nat) : (madeCells z (n * sz)).toList = (List.replicate n z.toList).flatten := by
  apply List.ext_getElem?
  intro j
  rw [rep_get (by simpa using hz) hp]
  by_cases hj : j < n * sz
  · have hm : j % sz < sz := Nat.mod_lt _ hp
    rw [if_pos hj]
    simp [madeCells, hj, hz, hm]
  · rw [if_neg hj]
    simp [madeCells]; omega

theorem arr_get {α : Type} {xs : List α} {i : Nat} {o : α} (h : xs[i]? = some o) : xs.toArray[i]? = some o := by simpa using h
theorem g_z {α : Type} {x : α} {xs : List α} : (x :: xs)[0]? = some x := rfl
theorem g_s {α : Type} {x o : α} {xs : List α} {n : Nat} (h : xs[n]? = some o) : (x :: xs)[n + 1]? = some o := by simpa using h
theorem maxLen_eq : maxLen = 9223372036854775807 := rfl
end Go.Proofs.YtgcdgcidjjdhmaaGreatDoor
