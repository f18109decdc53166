/-
  Slices of slices of ints: words, and the three looks of the laws.
-/
import Derived.Test.YtbjiipicbcamnaaLaw
import Derived.Test.YtbjiipicbcamnaaApp
namespace Go.Proofs.Ytbjiipicbcamnaa
open Go.RowKit

/-- Two slice values lie in different blocks. -/
def Sep (u v : Value) : Prop := ∀ q q', u.ownBlock = some q → v.ownBlock = some q' → q ≠ q'
theorem Sep.symm {u v : Value} (h : Sep u v) : Sep v u := fun q q' h1 h2 e => h q' q h2 h1 e.symm
/-- v is a row of the call's own whose elements are the rows vs, each alone, that hold ls. -/
structure SSv (w : World) (base : Nat) (v : Value) (vs : List Value) (ls : List (List Int)) : Prop where
  len : vs.length = ls.length
  outer : w.ownsRow base 48 1 v ls.length vs
  inner : ∀ (i : Nat) (u : Value) (l : List Int), vs[i]? = some u → ls[i]? = some l → w.ownsRow base 3 1 u l.length (ints l)
  sep : ∀ (i : Nat) (u : Value), vs[i]? = some u → Sep v u
  apart : ∀ (i j : Nat) (u u' : Value), i ≠ j → vs[i]? = some u → vs[j]? = some u' → Sep u u'
def SS (w : World) (base : Nat) (v : Value) (ls : List (List Int)) : Prop := ∃ vs, SSv w base v vs ls
/-- A slice of slices that reads as ls. -/
structure RdSv (w : World) (v : Value) (vs : List Value) (ls : List (List Int)) : Prop where
  len : vs.length = ls.length
  outer : Rd w v ls.length vs
  inner : ∀ (i : Nat) (u : Value) (l : List Int), vs[i]? = some u → ls[i]? = some l → RdI w u l
def RdSS (w : World) (v : Value) (ls : List (List Int)) : Prop := ∃ vs, RdSv w v vs ls

theorem SSv.has {w : World} {base : Nat} {v : Value} {vs : List Value} {ls : List (List Int)} (h : SSv w base v vs ls) {i : Nat} {u : Value} (hu : vs[i]? = some u) : ∃ l, ls[i]? = some l :=
  ⟨_, List.getElem?_eq_getElem (by have := (List.getElem?_eq_some_iff.1 hu).1; have := h.len; omega)⟩
theorem SSv.below {w w' : World} {base : Nat} {v : Value} {vs : List Value} {ls : List (List Int)} (h : SSv w base v vs ls) (hb : Below w.heap.size w w') : SSv w' base v vs ls :=
  ⟨h.len, own_below h.outer hb, fun i u l hu hl => own_below (h.inner i u l hu hl) hb, h.sep, h.apart⟩
theorem SSv.base {w : World} {base base' : Nat} {v : Value} {vs : List Value} {ls : List (List Int)} (h : SSv w base v vs ls) (hb : base' ≤ base) : SSv w base' v vs ls :=
  ⟨h.len, own_base h.outer hb, fun i u l hu hl => own_base (h.inner i u l hu hl) hb, h.sep, h.apart⟩
theorem SSv.rd {w : World} {base : Nat} {v : Value} {vs : List Value} {ls : List (List Int)} (h : SSv w base v vs ls) : RdSv w v vs ls :=
  ⟨h.len, own_rd h.outer, fun i u l hu hl => rdi_own (h.inner i u l hu hl)⟩
theorem SS.rd {w : World} {base : Nat} {v : Value} {ls : List (List Int)} (h : SS w base v ls) : RdSS w v ls := h.imp fun _ k => k.rd
theorem SS.below {w w' : World} {base : Nat} {v : Value} {ls : List (List Int)} (h : SS w base v ls) (hb : Below w.heap.size w w') : SS w' base v ls := h.imp fun _ k => k.below hb
theorem SS.base {w : World} {base base' : Nat} {v : Value} {ls : List (List Int)} (h : SS w base v ls) (hb : base' ≤ base) : SS w base' v ls := h.imp fun _ k => k.base hb
theorem RdSv.below {w w' : World} {v : Value} {vs : List Value} {ls : List (List Int)} (h : RdSv w v vs ls) (hb : Below w.heap.size w w') : RdSv w' v vs ls :=
  ⟨h.len, rd_below h.outer hb, fun i u l hu hl => rdi_below (h.inner i u l hu hl) hb⟩
theorem RdSS.below {w w' : World} {v : Value} {ls : List (List Int)} (h : RdSS w v ls) (hb : Below w.heap.size w w') : RdSS w' v ls := h.imp fun _ k => k.below hb
/-- What lies in the blocks of such a row lies between base and the world's size. -/
theorem SSv.lt {w : World} {base : Nat} {v : Value} {vs : List Value} {ls : List (List Int)} (h : SSv w base v vs ls) : (∀ q, v.ownBlock = some q → base ≤ q ∧ q < w.heap.size) ∧ ∀ (i : Nat) (u : Value), vs[i]? = some u → ∀ q, u.ownBlock = some q → base ≤ q ∧ q < w.heap.size :=
  ⟨h.outer.lt, fun i u hu => by obtain ⟨l, hl⟩ := h.has hu; exact (h.inner i u l hu hl).lt⟩
/-- A row elsewhere has been written. -/
theorem SSv.kept {a b : World} {base : Nat} {v : Value} {vs : List Value} {ls : List (List Int)} (h : SSv a base v vs ls) {x : Value} (g : a.grownBy b x.ownBlock) (hx : Sep v x) (hxs : ∀ (i : Nat) (u : Value), vs[i]? = some u → Sep u x) : SSv b base v vs ls :=
  ⟨h.len, kept2 h.outer g hx, fun i u l hu hl => kept2 (h.inner i u l hu hl) g (hxs i u hu), h.sep, h.apart⟩
/-- A row below its base has been written. -/
theorem SSv.kept_low {a b : World} {base : Nat} {v : Value} {vs : List Value} {ls : List (List Int)} (h : SSv a base v vs ls) {x : Value} (g : a.grownBy b x.ownBlock) (hx : ∀ q, x.ownBlock = some q → q < base) : SSv b base v vs ls :=
  h.kept g (fun q q' e e' => by have := (h.lt.1 q e).1; have := hx q' e'; omega) (fun i u hu q q' e e' => by have := (h.lt.2 i u hu q e).1; have := hx q' e'; omega)
theorem SS.kept_low {a b : World} {base : Nat} {v : Value} {ls : List (List Int)} (h : SS a base v ls) {x : Value} (g : a.grownBy b x.ownBlock) (hx : ∀ q, x.ownBlock = some q → q < base) : SS b base v ls := h.imp fun _ k => k.kept_low g hx
theorem SSv.nil (w : World) (base : Nat) : SSv w base (.slice none 0 0) [] [] :=
  ⟨rfl, World.ownsRow_nil _ _ _ _, fun i u l h _ => by simp at h, fun i u h => by simp at h, fun i j u u' _ h _ => by simp at h⟩

/-- Behind an append of one row. -/
theorem SSv.push {a b : World} {base : Nat} {v v' u : Value} {vs : List Value} {ls : List (List Int)} {l : List Int} (h : SSv a base v vs ls) (hu : a.ownsRow base 3 1 u l.length (ints l)) (s0 : Sep v u) (s1 : ∀ (i : Nat) (x : Value), vs[i]? = some x → Sep x u)
    (ho : b.ownsRow base 48 1 v' (ls.length + 1) (vs ++ [u])) (g : a.grownBy b v.ownBlock) (e : v'.ownBlock = v.ownBlock ∨ v'.ownBlock = some a.heap.size) : SSv b base v' (vs ++ [u]) (ls ++ [l]) := by
  have hl := h.len
  have sv : ∀ x : Value, Sep v x → (∀ q, x.ownBlock = some q → q < a.heap.size) → Sep v' x := fun x hx hlt q q' e1 e2 => by
    rcases e with e | e
    · exact hx q q' (by rw [← e]; exact e1) e2
    · rw [e] at e1
      have h1 := Option.some.inj e1
      have h2 := hlt q' e2
      omega
  have at1 : ∀ (i : Nat) (x : Value), (vs ++ [u])[i]? = some x → (i < vs.length ∧ vs[i]? = some x) ∨ (i = vs.length ∧ x = u) := fun i x hx => by
    rcases Nat.lt_trichotomy i vs.length with h1 | h1 | h1
    · exact .inl ⟨h1, by rwa [List.getElem?_append_left h1] at hx⟩
    · subst h1; rw [List.getElem?_append_right (Nat.le_refl _)] at hx; simp at hx; exact .inr ⟨rfl, hx.symm⟩
    · rw [List.getElem?_eq_none (by simp; omega)] at hx; cases hx
  refine ⟨by simp [hl], by rw [List.length_append]; exact ho, fun i x m hx hm => ?_, fun i x hx => ?_, fun i j x x' hij hx hx' => ?_⟩
  · rcases at1 i x hx with ⟨h1, h2⟩ | ⟨h1, rfl⟩
    · rw [List.getElem?_append_left (by omega)] at hm
      exact kept2 (h.inner i x m h2 hm) g ((h.sep i x h2).symm)
    · rw [List.getElem?_append_right (by omega), h1, hl] at hm
      simp at hm; subst hm
      exact kept2 hu g s0.symm
  · rcases at1 i x hx with ⟨h1, h2⟩ | ⟨h1, rfl⟩
    · exact sv x (h.sep i x h2) (fun q e => (h.lt.2 i x h2 q e).2)
    · exact sv _ s0 (fun q e => (hu.lt q e).2)
  · rcases at1 i x hx with ⟨h1, h2⟩ | ⟨h1, rfl⟩ <;> rcases at1 j x' hx' with ⟨h3, h4⟩ | ⟨h3, rfl⟩
    · exact h.apart i j x x' hij h2 h4
    · exact s1 i x h2
    · exact (s1 j x' h4).symm
    · omega

/-- Behind an append to one of the rows, and the store of its new value. -/
theorem SSv.grow {a b : World} {base g cap k : Nat} {u u' : Value} {vs : List Value} {ls : List (List Int)} {l' : List Int} (h : SSv a base (.slice (some ⟨g, 0, none⟩) ls.length cap) vs ls) (hu : vs[k]? = some u)
    (ho : b.ownsRow base 3 1 u' l'.length (ints l')) (gr : a.grownBy b u.ownBlock) (e : u'.ownBlock = u.ownBlock ∨ u'.ownBlock = some a.heap.size) : SSv (b.setCell ⟨g, k, none⟩ u') base (.slice (some ⟨g, 0, none⟩) ls.length cap) (vs.set k u') (ls.set k l') := by
  have hl := h.len
  have sv : ∀ x : Value, Sep u x → (∀ q, x.ownBlock = some q → q < a.heap.size) → Sep u' x := fun x hx hlt q q' e1 e2 => by
    rcases e with e | e
    · exact hx q q' (by rw [← e]; exact e1) e2
    · rw [e] at e1
      have h1 := Option.some.inj e1
      have h2 := hlt q' e2
      omega
  have hk : k < vs.length := (List.getElem?_eq_some_iff.1 hu).1
  have at1 : ∀ (i : Nat) (x : Value), (vs.set k u')[i]? = some x → (i ≠ k ∧ vs[i]? = some x) ∨ (i = k ∧ x = u') := fun i x hx => by
    by_cases hik : i = k
    · subst hik; rw [List.getElem?_set_self hk] at hx; exact .inr ⟨rfl, (Option.some.inj hx).symm⟩
    · exact .inl ⟨hik, by rwa [List.getElem?_set_ne (fun e => hik e.symm)] at hx⟩
  have hob : b.ownsRow base 48 1 (.slice (some ⟨g, 0, none⟩) ls.length cap) ls.length vs := kept2 h.outer gr (h.sep k u hu)
  have hst := hob.stored k u'
  have gs : ∀ q, (Value.slice (some ⟨g, 0, none⟩) ls.length cap).ownBlock = some q → q = g := fun q e => (Option.some.inj e).symm
  have sepv : ∀ (i : Nat) (x : Value), (vs.set k u')[i]? = some x → Sep (.slice (some ⟨g, 0, none⟩) ls.length cap) x := fun i x hx => by
    rcases at1 i x hx with ⟨h1, h2⟩ | ⟨h1, rfl⟩
    · exact h.sep i x h2
    · exact (sv _ (h.sep k u hu).symm (fun q e => (h.lt.1 q e).2)).symm
  refine ⟨by simp [hl], by rw [List.length_set]; exact hst.1, fun i x m hx hm => ?_, sepv, fun i j x x' hij hx hx' => ?_⟩
  · have hs := sepv i x hx
    have : b.ownsRow base 3 1 x m.length (ints m) := by
      rcases at1 i x hx with ⟨h1, h2⟩ | ⟨h1, rfl⟩
      · rw [List.getElem?_set_ne (fun e => h1 e.symm)] at hm
        exact kept2 (h.inner i x m h2 hm) gr (h.apart i k x u h1 h2 hu)
      · subst h1
        rw [List.getElem?_set_self (by omega)] at hm
        obtain rfl := Option.some.inj hm
        exact ho
    exact kept2 (v' := .slice (some ⟨g, 0, none⟩) ls.length cap) this hst.2 hs.symm
  · rcases at1 i x hx with ⟨h1, h2⟩ | ⟨h1, rfl⟩ <;> rcases at1 j x' hx' with ⟨h3, h4⟩ | ⟨h3, rfl⟩
    · exact h.apart i j x x' hij h2 h4
    · exact (sv x (h.apart i k x u h1 h2 hu).symm (fun q e => (h.lt.2 i x h2 q e).2)).symm
    · exact sv x' (h.apart j k x' u h3 h4 hu).symm (fun q e => (h.lt.2 j x' h4 q e).2)
    · omega

theorem Try.infoSS : (Try.prog.info? 48).map (fun i => (i.zero, i.size, i.bytes)) = some (some (.slice none 0 0), 1, 24) := by kernel_rfl
/-- A new slice of slices, a result with a bool. -/
def OwnSB (r : List (List Int) × Bool) (w : World) (e : Ending) (w' : World) : Prop :=
  ∃ v, e = .returned (.tuple #[v, .bool r.2]) ∧ SS w' w.heap.size v r.1 ∧ Below w.heap.size w w'
def OwnSS (r : List (List Int)) (w : World) (e : Ending) (w' : World) : Prop :=
  ∃ v, e = .returned v ∧ SS w' w.heap.size v r ∧ Below w.heap.size w w'

def totL (ls : List (List Int)) : Nat := (ls.map List.length).sum
theorem totL_take {ls : List (List Int)} {k : Nat} {l : List Int} (h : ls[k]? = some l) : totL (ls.take (k + 1)) = totL (ls.take k) + l.length := by
  unfold totL; rw [take_succ_of h, List.map_append, List.sum_append]; simp
theorem totL_le (ls : List (List Int)) (k : Nat) : totL (ls.take k) ≤ totL ls := by
  unfold totL
  conv => rhs; rw [← List.take_append_drop k ls]
  rw [List.map_append, List.sum_append]; omega
/-- The marks of rows, one behind the other. -/
def upSS (q : Int) (ls : List (List Int)) : List (List Int) := (List.range ls.length).map fun k => upFrom (q + totL (ls.take k)) ((ls.getD k []).length)
theorem upSS_len (q : Int) (ls : List (List Int)) : (upSS q ls).length = ls.length := by simp [upSS]
theorem upSS_get {q : Int} {ls : List (List Int)} {k : Nat} {l : List Int} (h : ls[k]? = some l) : (upSS q ls)[k]? = some (upFrom (q + totL (ls.take k)) l.length) := by
  have hk := (List.getElem?_eq_some_iff.1 h).1
  unfold upSS
  simp only [List.getElem?_map, List.getElem?_range hk, Option.map_some, List.getD_eq_getElem?_getD, h, Option.getD_some]
def mixSS (q : Int) (ls : List (List Int)) (k : Nat) : List (List Int) := (upSS q ls).take k ++ ls.drop k
theorem mixSS_len (q : Int) (ls : List (List Int)) {k : Nat} (h : k ≤ ls.length) : (mixSS q ls k).length = ls.length := by simp [mixSS, upSS_len]; omega
theorem mixSS_at {q : Int} {ls : List (List Int)} {k : Nat} {l : List Int} (h : ls[k]? = some l) : (mixSS q ls k)[k]? = some l := by
  have hk := (List.getElem?_eq_some_iff.1 h).1
  unfold mixSS
  rw [List.getElem?_append_right (by rw [List.length_take]; omega), List.length_take, upSS_len, Nat.min_eq_left (by omega), Nat.sub_self, List.getElem?_drop, Nat.add_zero, h]
theorem mixSS_succ {q : Int} {ls : List (List Int)} {k : Nat} {l : List Int} (h : ls[k]? = some l) : mixSS q ls (k + 1) = (mixSS q ls k).set k (upFrom (q + totL (ls.take k)) l.length) := by
  have hk := (List.getElem?_eq_some_iff.1 h).1
  unfold mixSS
  rw [take_succ_of (upSS_get h), List.set_append_right (h := by rw [List.length_take]; omega), List.length_take, upSS_len, Nat.min_eq_left (by omega), Nat.sub_self, List.drop_eq_getElem_cons hk, List.set_cons_zero, List.append_assoc]
  rfl
theorem mixSS_zero (q : Int) (ls : List (List Int)) : mixSS q ls 0 = ls := by simp [mixSS]
theorem mixSS_full (q : Int) (ls : List (List Int)) : mixSS q ls ls.length = upSS q ls := by simp [mixSS, List.take_of_length_le, upSS_len]
/-- One of the rows has been written anew in its place. -/
theorem SSv.redo {a b : World} {base k : Nat} {v u : Value} {vs : List Value} {ls : List (List Int)} {l' : List Int} (h : SSv a base v vs ls) (hu : vs[k]? = some u)
    (ho : b.ownsRow base 3 1 u l'.length (ints l')) (gr : a.grownBy b u.ownBlock) : SSv b base v vs (ls.set k l') := by
  have hk : k < vs.length := (List.getElem?_eq_some_iff.1 hu).1
  have hl := h.len
  refine ⟨by simp [hl], by rw [List.length_set]; exact kept2 h.outer gr (h.sep k u hu), fun i x m hx hm => ?_, h.sep, h.apart⟩
  by_cases hik : i = k
  · subst hik
    rw [List.getElem?_set_self (by omega)] at hm
    obtain rfl := Option.some.inj hm
    rw [hu] at hx
    obtain rfl := Option.some.inj hx
    exact ho
  · rw [List.getElem?_set_ne (fun e => hik e.symm)] at hm
    exact kept2 (h.inner i x m hx hm) gr (h.apart i k x u hik hx hu)
end Go.Proofs.Ytbjiipicbcamnaa
