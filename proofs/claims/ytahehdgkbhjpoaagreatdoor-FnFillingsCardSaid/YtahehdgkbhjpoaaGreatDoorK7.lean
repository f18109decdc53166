/-
  l1Own: a copy of a slice of ints in memory of the call's own. Words for the walks of the laws: what stays as it was while rows of the call's own are marked. Slices of slices of ints: words, and the three looks of the laws. spec.l1Put: a number put into an increasing list (printed by gen_put.py). (joined by pack.py: Own Law SS Put)
-/
import Derived.Test.YtahehdgkbhjpoaaGreatDoorK5
import Derived.Test.YtahehdgkbhjpoaaGreatDoorK6
namespace Go.Proofs.YtahehdgkbhjpoaaGreatDoor
set_option linter.unusedVariables false
set_option linter.unusedSimpArgs false
open Go.RowKit

theorem ints_one (l : List Int) : ∀ u ∈ ints l, u.oneCell' = true := by
  intro u hu
  obtain ⟨x, _, rfl⟩ := List.mem_map.1 hu
  rfl
/-- A new slice of ints that holds l, alone. -/
def OwnI (l : List Int) (w : World) (e : Ending) (w' : World) : Prop :=
  ∃ v, e = .returned v ∧ w'.ownsRow w.heap.size 3 1 v l.length (ints l) ∧ Below w.heap.size w w'
/-- A result: a slice of ints of the call's own and a bool. -/
def OwnIB (r : List Int × Bool) (w : World) (e : Ending) (w' : World) : Prop :=
  ∃ v, e = .returned (.tuple #[v, .bool r.2]) ∧ w'.ownsRow w.heap.size 3 1 v r.1.length (ints r.1) ∧ Below w.heap.size w w'

set_option maxRecDepth 100000 in
set_option maxHeartbeats 1000000 in
theorem l1Own_c (v : Value) (l : List Int) (w : World) (hr : RdI w v l) (hn : l.length ≤ 1000000) :
    Calls Tryz.prog 64 #[v] w (OwnI l w) := by
  have HR := Lib.hid hr
  clear hr
  obtain ⟨i0, hi, hz0, hz1, hz2⟩ := info_parts Tryz.infoInt
  go_enter Tryz.func64, Tryz.ntmps64
  go_wp2_with (at_builtin; refine wpList_app_rd _ rfl _ _ 26 rfl w.heap.size 3 i0 (.int .i64 0) 1 8 Tryz.underlying26 hi hz0 hz1 hz2 rfl (by decide) _ _ _ rfl (World.ownsRow_made (size := 1) w #[] 0 (Nat.le_refl _) (Nat.zero_le _) rfl) _ l.length (ints l) rfl (rd_below HR.out (bel_al (Below.refl _ _) _)) (by rw [ints_len]; omega) (ints_one l) (by rw [maxLen_eq]; omega) (by omega) (by simp) ?_; intro v' w1 hown' hgrow _)
  go_ret
  refine ⟨_, rfl, by simpa using hown', ?_⟩
  refine bel_grown (bel_al (Below.refl _ _) _) hgrow (fun q e => ?_)
  have h : w.heap.size = q := Option.some.inj e
  omega
end Go.Proofs.YtahehdgkbhjpoaaGreatDoor

namespace Go.Proofs.YtahehdgkbhjpoaaGreatDoor
set_option linter.unusedVariables false
set_option linter.unusedSimpArgs false
open Go.RowKit

theorem kept2 {a b : World} {base : Nat} {e : TypeId} {sz : Nat} {v v' : Value} {n : Nat} {xs : List Value} (h : a.ownsRow base e sz v n xs) (g : a.grownBy b v'.ownBlock) (sep : ∀ q q', v.ownBlock = some q → v'.ownBlock = some q' → q ≠ q') : b.ownsRow base e sz v n xs :=
  h.kept g (by
    cases hv : v.ownBlock with
    | none => exact .inl rfl
    | some q => exact .inr (fun hq => sep q q hv hq.symm rfl))
theorem bel_mark {B : Nat} {a b c : World} {r : Option Nat} (h : Below B a b) (hB : B ≤ b.heap.size) (g : b.grownBy c r) (hb : ∀ q', r = some q' → B ≤ q') : Below B a c :=
  ⟨g.os.trans h.os, g.tape.trans h.tape, g.output.trans h.output, Nat.le_trans h.size g.size, fun i hi => (g.block i (Nat.lt_of_lt_of_le hi hB) (fun e => by have := hb i e.symm; omega)).trans (h.block i hi)⟩
theorem cell_mark {b c : World} {r : Option Nat} (g : b.grownBy c r) {x o : Nat} (hx : x < b.heap.size) (hne : ∀ q', r = some q' → x ≠ q') : c.cell? ⟨x, o, none⟩ = b.cell? ⟨x, o, none⟩ :=
  World.cell?_of_block (g.block x hx (fun e => hne x e.symm rfl))
theorem ownIB_open {r : List Int × Bool} {w w' : World} {e : Ending} (h : OwnIB r w e w') : ∃ v, e = .returned (.tuple #[v, .bool r.2]) ∧ w'.ownsRow w.heap.size 3 1 v r.1.length (ints r.1) ∧ Below w.heap.size w w' := h
end Go.Proofs.YtahehdgkbhjpoaaGreatDoor

namespace Go.Proofs.YtahehdgkbhjpoaaGreatDoor
set_option linter.unusedVariables false
set_option linter.unusedSimpArgs false
open Go.RowKit

/-- Two slice values lie in different blocks. -/
def Sep (u v : Value) : Prop := ∀ q q', u.ownBlock = some q → v.ownBlock = some q' → q ≠ q'
theorem Sep.symm {u v : Value} (h : Sep u v) : Sep v u := fun q q' h1 h2 e => h q' q h2 h1 e.symm
/-- v is a row of the call's own whose elements are the rows vs, each alone, that hold ls. -/
structure SSv (w : World) (base : Nat) (v : Value) (vs : List Value) (ls : List (List Int)) : Prop where
  len : vs.length = ls.length
  outer : w.ownsRow base 26 1 v ls.length vs
  inner : ∀ (i : Nat) (u : Value) (l : List Int), vs[i]? = some u → ls[i]? = some l → w.ownsRow base 3 1 u l.length (ints l)
  sep : ∀ (i : Nat) (u : Value), vs[i]? = some u → Sep v u
  apart : ∀ (i j : Nat) (u u' : Value), i ≠ j → vs[i]? = some u → vs[j]? = some u' → Sep u u'
def SS (w : World) (base : Nat) (v : Value) (ls : List (List Int)) : Prop := ∃ vs, SSv w base v vs ls
/-- A slice of slices that reads as ls. -/
structure RdSv (w : World) (v : Value) (vs : List Value) (ls : List (List Int)) : Prop where
  len : vs.length = ls.length
  outer : Rd w v ls.length vs
  inner : ∀ (i : Nat) (u : Value) (l : List Int), vs[i]? = some u → ls[i]? = some l → RdI w u l
def RdSS (w : World) (v : Value) (ls : List (List Int)) : Prop := ∃ vs, RdSv w v vs ls

theorem SSv.has {w : World} {base : Nat} {v : Value} {vs : List Value} {ls : List (List Int)} (h : SSv w base v vs ls) {i : Nat} {u : Value} (hu : vs[i]? = some u) : ∃ l, ls[i]? = some l :=
  ⟨_, List.getElem?_eq_getElem (by have := (List.getElem?_eq_some_iff.1 hu).1; have := h.len; omega)⟩
theorem SSv.below {w w' : World} {base : Nat} {v : Value} {vs : List Value} {ls : List (List Int)} (h : SSv w base v vs ls) (hb : Below w.heap.size w w') : SSv w' base v vs ls :=
  ⟨h.len, own_below h.outer hb, fun i u l hu hl => own_below (h.inner i u l hu hl) hb, h.sep, h.apart⟩
theorem SSv.base {w : World} {base base' : Nat} {v : Value} {vs : List Value} {ls : List (List Int)} (h : SSv w base v vs ls) (hb : base' ≤ base) : SSv w base' v vs ls :=
  ⟨h.len, own_base h.outer hb, fun i u l hu hl => own_base (h.inner i u l hu hl) hb, h.sep, h.apart⟩
theorem SSv.rd {w : World} {base : Nat} {v : Value} {vs : List Value} {ls : List (List Int)} (h : SSv w base v vs ls) : RdSv w v vs ls :=
  ⟨h.len, own_rd h.outer, fun i u l hu hl => rdi_own (h.inner i u l hu hl)⟩
theorem SS.rd {w : World} {base : Nat} {v : Value} {ls : List (List Int)} (h : SS w base v ls) : RdSS w v ls := h.imp fun _ k => k.rd
theorem SS.below {w w' : World} {base : Nat} {v : Value} {ls : List (List Int)} (h : SS w base v ls) (hb : Below w.heap.size w w') : SS w' base v ls := h.imp fun _ k => k.below hb
theorem SS.base {w : World} {base base' : Nat} {v : Value} {ls : List (List Int)} (h : SS w base v ls) (hb : base' ≤ base) : SS w base' v ls := h.imp fun _ k => k.base hb
theorem RdSv.below {w w' : World} {v : Value} {vs : List Value} {ls : List (List Int)} (h : RdSv w v vs ls) (hb : Below w.heap.size w w') : RdSv w' v vs ls :=
  ⟨h.len, rd_below h.outer hb, fun i u l hu hl => rdi_below (h.inner i u l hu hl) hb⟩
theorem RdSS.below {w w' : World} {v : Value} {ls : List (List Int)} (h : RdSS w v ls) (hb : Below w.heap.size w w') : RdSS w' v ls := h.imp fun _ k => k.below hb
/-- What lies in the blocks of such a row lies between base and the world's size. -/
theorem SSv.lt {w : World} {base : Nat} {v : Value} {vs : List Value} {ls : List (List Int)} (h : SSv w base v vs ls) : (∀ q, v.ownBlock = some q → base ≤ q ∧ q < w.heap.size) ∧ ∀ (i : Nat) (u : Value), vs[i]? = some u → ∀ q, u.ownBlock = some q → base ≤ q ∧ q < w.heap.size :=
  ⟨h.outer.lt, fun i u hu => by obtain ⟨l, hl⟩ := h.has hu; exact (h.inner i u l hu hl).lt⟩
/-- A row elsewhere has been written. -/
theorem SSv.kept {a b : World} {base : Nat} {v : Value} {vs : List Value} {ls : List (List Int)} (h : SSv a base v vs ls) {x : Value} (g : a.grownBy b x.ownBlock) (hx : Sep v x) (hxs : ∀ (i : Nat) (u : Value), vs[i]? = some u → Sep u x) : SSv b base v vs ls :=
  ⟨h.len, kept2 h.outer g hx, fun i u l hu hl => kept2 (h.inner i u l hu hl) g (hxs i u hu), h.sep, h.apart⟩
/-- A row below its base has been written. -/
theorem SSv.kept_low {a b : World} {base : Nat} {v : Value} {vs : List Value} {ls : List (List Int)} (h : SSv a base v vs ls) {x : Value} (g : a.grownBy b x.ownBlock) (hx : ∀ q, x.ownBlock = some q → q < base) : SSv b base v vs ls :=
  h.kept g (fun q q' e e' => by have := (h.lt.1 q e).1; have := hx q' e'; omega) (fun i u hu q q' e e' => by have := (h.lt.2 i u hu q e).1; have := hx q' e'; omega)
theorem SS.kept_low {a b : World} {base : Nat} {v : Value} {ls : List (List Int)} (h : SS a base v ls) {x : Value} (g : a.grownBy b x.ownBlock) (hx : ∀ q, x.ownBlock = some q → q < base) : SS b base v ls := h.imp fun _ k => k.kept_low g hx
theorem SSv.nil (w : World) (base : Nat) : SSv w base (.slice none 0 0) [] [] :=
  ⟨rfl, World.ownsRow_nil _ _ _ _, fun i u l h _ => by simp at h, fun i u h => by simp at h, fun i j u u' _ h _ => by simp at h⟩

/-- Behind an append of one row. -/
theorem SSv.push {a b : World} {base : Nat} {v v' u : Value} {vs : List Value} {ls : List (List Int)} {l : List Int} (h : SSv a base v vs ls) (hu : a.ownsRow base 3 1 u l.length (ints l)) (s0 : Sep v u) (s1 : ∀ (i : Nat) (x : Value), vs[i]? = some x → Sep x u)
    (ho : b.ownsRow base 26 1 v' (ls.length + 1) (vs ++ [u])) (g : a.grownBy b v.ownBlock) (e : v'.ownBlock = v.ownBlock ∨ v'.ownBlock = some a.heap.size) : SSv b base v' (vs ++ [u]) (ls ++ [l]) := by
  have hl := h.len
  have sv : ∀ x : Value, Sep v x → (∀ q, x.ownBlock = some q → q < a.heap.size) → Sep v' x := fun x hx hlt q q' e1 e2 => by
    rcases e with e | e
    · exact hx q q' (by rw [← e]; exact e1) e2
    · rw [e] at e1
      have h1 := Option.some.inj e1
      have h2 := hlt q' e2
      omega
  have at1 : ∀ (i : Nat) (x : Value), (vs ++ [u])[i]? = some x → (i < vs.length ∧ vs[i]? = some x) ∨ (i = vs.length ∧ x = u) := fun i x hx => by
    rcases Nat.lt_trichotomy i vs.length with h1 | h1 | h1
    · exact .inl ⟨h1, by rwa [List.getElem?_append_left h1] at hx⟩
    · subst h1; rw [List.getElem?_append_right (Nat.le_refl _)] at hx; simp at hx; exact .inr ⟨rfl, hx.symm⟩
    · rw [List.getElem?_eq_none (by simp; omega)] at hx; cases hx
  refine ⟨by simp [hl], by rw [List.length_append]; exact ho, fun i x m hx hm => ?_, fun i x hx => ?_, fun i j x x' hij hx hx' => ?_⟩
  · rcases at1 i x hx with ⟨h1, h2⟩ | ⟨h1, rfl⟩
    · rw [List.getElem?_append_left (by omega)] at hm
      exact kept2 (h.inner i x m h2 hm) g ((h.sep i x h2).symm)
    · rw [List.getElem?_append_right (by omega), h1, hl] at hm
      simp at hm; subst hm
      exact kept2 hu g s0.symm
  · rcases at1 i x hx with ⟨h1, h2⟩ | ⟨h1, rfl⟩
    · exact sv x (h.sep i x h2) (fun q e => (h.lt.2 i x h2 q e).2)
    · exact sv _ s0 (fun q e => (hu.lt q e).2)
  · rcases at1 i x hx with ⟨h1, h2⟩ | ⟨h1, rfl⟩ <;> rcases at1 j x' hx' with ⟨h3, h4⟩ | ⟨h3, rfl⟩
    · exact h.apart i j x x' hij h2 h4
    · exact s1 i x h2
    · exact (s1 j x' h4).symm
    · omega

/-- Behind an append to one of the rows, and the store of its new value. -/
theorem SSv.grow {a b : World} {base g cap k : Nat} {u u' : Value} {vs : List Value} {ls : List (List Int)} {l' : List Int} (h : SSv a base (.slice (some ⟨g, 0, none⟩) ls.length cap) vs ls) (hu : vs[k]? = some u)
    (ho : b.ownsRow base 3 1 u' l'.length (ints l')) (gr : a.grownBy b u.ownBlock) (e : u'.ownBlock = u.ownBlock ∨ u'.ownBlock = some a.heap.size) : SSv (b.setCell ⟨g, k, none⟩ u') base (.slice (some ⟨g, 0, none⟩) ls.length cap) (vs.set k u') (ls.set k l') := by
  have hl := h.len
  have sv : ∀ x : Value, Sep u x → (∀ q, x.ownBlock = some q → q < a.heap.size) → Sep u' x := fun x hx hlt q q' e1 e2 => by
    rcases e with e | e
    · exact hx q q' (by rw [← e]; exact e1) e2
    · rw [e] at e1
      have h1 := Option.some.inj e1
      have h2 := hlt q' e2
      omega
  have hk : k < vs.length := (List.getElem?_eq_some_iff.1 hu).1
  have at1 : ∀ (i : Nat) (x : Value), (vs.set k u')[i]? = some x → (i ≠ k ∧ vs[i]? = some x) ∨ (i = k ∧ x = u') := fun i x hx => by
    by_cases hik : i = k
    · subst hik; rw [List.getElem?_set_self hk] at hx; exact .inr ⟨rfl, (Option.some.inj hx).symm⟩
    · exact .inl ⟨hik, by rwa [List.getElem?_set_ne (fun e => hik e.symm)] at hx⟩
  have hob : b.ownsRow base 26 1 (.slice (some ⟨g, 0, none⟩) ls.length cap) ls.length vs := kept2 h.outer gr (h.sep k u hu)
  have hst := hob.stored k u'
  have gs : ∀ q, (Value.slice (some ⟨g, 0, none⟩) ls.length cap).ownBlock = some q → q = g := fun q e => (Option.some.inj e).symm
  have sepv : ∀ (i : Nat) (x : Value), (vs.set k u')[i]? = some x → Sep (.slice (some ⟨g, 0, none⟩) ls.length cap) x := fun i x hx => by
    rcases at1 i x hx with ⟨h1, h2⟩ | ⟨h1, rfl⟩
    · exact h.sep i x h2
    · exact (sv _ (h.sep k u hu).symm (fun q e => (h.lt.1 q e).2)).symm
  refine ⟨by simp [hl], by rw [List.length_set]; exact hst.1, fun i x m hx hm => ?_, sepv, fun i j x x' hij hx hx' => ?_⟩
  · have hs := sepv i x hx
    have : b.ownsRow base 3 1 x m.length (ints m) := by
      rcases at1 i x hx with ⟨h1, h2⟩ | ⟨h1, rfl⟩
      · rw [List.getElem?_set_ne (fun e => h1 e.symm)] at hm
        exact kept2 (h.inner i x m h2 hm) gr (h.apart i k x u h1 h2 hu)
      · subst h1
        rw [List.getElem?_set_self (by omega)] at hm
        obtain rfl := Option.some.inj hm
        exact ho
    exact kept2 (v' := .slice (some ⟨g, 0, none⟩) ls.length cap) this hst.2 hs.symm
  · rcases at1 i x hx with ⟨h1, h2⟩ | ⟨h1, rfl⟩ <;> rcases at1 j x' hx' with ⟨h3, h4⟩ | ⟨h3, rfl⟩
    · exact h.apart i j x x' hij h2 h4
    · exact (sv x (h.apart i k x u h1 h2 hu).symm (fun q e => (h.lt.2 i x h2 q e).2)).symm
    · exact sv x' (h.apart j k x' u h3 h4 hu).symm (fun q e => (h.lt.2 j x' h4 q e).2)
    · omega

theorem Tryz.infoSS : (Tryz.prog.info? 26).map (fun i => (i.zero, i.size, i.bytes)) = some (some (.slice none 0 0), 1, 24) := by kernel_rfl
/-- A new slice of slices, a result with a bool. -/
def OwnSB (r : List (List Int) × Bool) (w : World) (e : Ending) (w' : World) : Prop :=
  ∃ v, e = .returned (.tuple #[v, .bool r.2]) ∧ SS w' w.heap.size v r.1 ∧ Below w.heap.size w w'
def OwnSS (r : List (List Int)) (w : World) (e : Ending) (w' : World) : Prop :=
  ∃ v, e = .returned v ∧ SS w' w.heap.size v r ∧ Below w.heap.size w w'

def totL (ls : List (List Int)) : Nat := (ls.map List.length).sum
theorem totL_take {ls : List (List Int)} {k : Nat} {l : List Int} (h : ls[k]? = some l) : totL (ls.take (k + 1)) = totL (ls.take k) + l.length := by
  unfold totL; rw [take_succ_of h, List.map_append, List.sum_append]; simp
theorem totL_le (ls : List (List Int)) (k : Nat) : totL (ls.take k) ≤ totL ls := by
  unfold totL
  conv => rhs; rw [← List.take_append_drop k ls]
  rw [List.map_append, List.sum_append]; omega
/-- The marks of rows, one behind the other. -/
def upSS (q : Int) (ls : List (List Int)) : List (List Int) := (List.range ls.length).map fun k => upFrom (q + totL (ls.take k)) ((ls.getD k []).length)
theorem upSS_len (q : Int) (ls : List (List Int)) : (upSS q ls).length = ls.length := by simp [upSS]
theorem upSS_get {q : Int} {ls : List (List Int)} {k : Nat} {l : List Int} (h : ls[k]? = some l) : (upSS q ls)[k]? = some (upFrom (q + totL (ls.take k)) l.length) := by
  have hk := (List.getElem?_eq_some_iff.1 h).1
  unfold upSS
  simp only [List.getElem?_map, List.getElem?_range hk, Option.map_some, List.getD_eq_getElem?_getD, h, Option.getD_some]
def mixSS (q : Int) (ls : List (List Int)) (k : Nat) : List (List Int) := (upSS q ls).take k ++ ls.drop k
theorem mixSS_len (q : Int) (ls : List (List Int)) {k : Nat} (h : k ≤ ls.length) : (mixSS q ls k).length = ls.length := by simp [mixSS, upSS_len]; omega
theorem mixSS_at {q : Int} {ls : List (List Int)} {k : Nat} {l : List Int} (h : ls[k]? = some l) : (mixSS q ls k)[k]? = some l := by
  have hk := (List.getElem?_eq_some_iff.1 h).1
  unfold mixSS
  rw [List.getElem?_append_right (by rw [List.length_take]; omega), List.length_take, upSS_len, Nat.min_eq_left (by omega), Nat.sub_self, List.getElem?_drop, Nat.add_zero, h]
theorem mixSS_succ {q : Int} {ls : List (List Int)} {k : Nat} {l : List Int} (h : ls[k]? = some l) : mixSS q ls (k + 1) = (mixSS q ls k).set k (upFrom (q + totL (ls.take k)) l.length) := by
  have hk := (List.getElem?_eq_some_iff.1 h).1
  unfold mixSS
  rw [take_succ_of (upSS_get h), List.set_append_right (h := by rw [List.length_take]; omega), List.length_take, upSS_len, Nat.min_eq_left (by omega), Nat.sub_self, List.drop_eq_getElem_cons hk, List.set_cons_zero, List.append_assoc]
  rfl
theorem mixSS_zero (q : Int) (ls : List (List Int)) : mixSS q ls 0 = ls := by simp [mixSS]
theorem mixSS_full (q : Int) (ls : List (List Int)) : mixSS q ls ls.length = upSS q ls := by simp [mixSS, List.take_of_length_le, upSS_len]
/-- One of the rows has been written anew in its place. -/
theorem SSv.redo {a b : World} {base k : Nat} {v u : Value} {vs : List Value} {ls : List (List Int)} {l' : List Int} (h : SSv a base v vs ls) (hu : vs[k]? = some u)
    (ho : b.ownsRow base 3 1 u l'.length (ints l')) (gr : a.grownBy b u.ownBlock) : SSv b base v vs (ls.set k l') := by
  have hk : k < vs.length := (List.getElem?_eq_some_iff.1 hu).1
  have hl := h.len
  refine ⟨by simp [hl], by rw [List.length_set]; exact kept2 h.outer gr (h.sep k u hu), fun i x m hx hm => ?_, h.sep, h.apart⟩
  by_cases hik : i = k
  · subst hik
    rw [List.getElem?_set_self (by omega)] at hm
    obtain rfl := Option.some.inj hm
    rw [hu] at hx
    obtain rfl := Option.some.inj hx
    exact ho
  · rw [List.getElem?_set_ne (fun e => hik e.symm)] at hm
    exact kept2 (h.inner i x m hx hm) gr (h.apart i k x u hik hx hu)
end Go.Proofs.YtahehdgkbhjpoaaGreatDoor

namespace Go.Proofs.YtahehdgkbhjpoaaGreatDoor
set_option linter.unusedVariables false
set_option linter.unusedSimpArgs false
open Go.RowKit

def putI : List Int → Int → List Int
  | [], n => [n]
  | x :: l, n => if x < n then x :: putI l n else if x = n then x :: l else n :: x :: l
theorem rd_front {w : World} {A : Option Addr} {l : List Int} {c k : Nat} (h : RdI w (.slice A l.length c) l) (hk : k ≤ l.length) : Rd w (.slice A k c) k (ints (l.take k)) := by
  obtain ⟨A', c', hv, h1, h2, h3⟩ := h
  injection hv with hA _ hcc
  subst hA; subst hcc
  refine ⟨_, _, rfl, by omega, h2, fun hn => ?_⟩
  obtain ⟨b, off, e, hb, hcell⟩ := h3 (by omega)
  refine ⟨b, off, e, hb, fun q u hu => hcell q u ?_⟩
  rw [ints, List.map_take, List.getElem?_take] at hu
  split at hu
  · exact hu
  · cases hu
theorem rd_back {w : World} {b off : Nat} {l : List Int} {c k : Nat} (h : RdI w (.slice (some ⟨b, off, none⟩) l.length c) l) (hk : k ≤ l.length) : Rd w (.slice (some ⟨b, off + k, none⟩) (l.length - k) (c - k)) (l.length - k) (ints (l.drop k)) := by
  obtain ⟨A', c', hv, h1, h2, h3⟩ := h
  injection hv with hA _ hcc
  subst hA; subst hcc
  refine ⟨_, _, rfl, by omega, by omega, fun hn => ?_⟩
  obtain ⟨b', off', e, hb, hcell⟩ := h3 (by omega)
  injection e with e
  injection e with e1 e2
  subst e1; subst e2
  refine ⟨b, off + k, rfl, hb, fun q u hu => ?_⟩
  have := hcell (k + q) u (by rw [ints, List.map_drop, List.getElem?_drop] at hu; exact hu)
  rw [Nat.add_assoc]; exact this
theorem putI_mem : ∀ (l : List Int) (n y : Int), y ∈ putI l n ↔ y = n ∨ y ∈ l := by
  intro l
  induction l with
  | nil => intro n y; simp [putI]
  | cons x l ih =>
    intro n y
    simp only [putI]
    split
    · rw [List.mem_cons, ih, List.mem_cons]
      constructor
      · rintro (h | h | h)
        · exact .inr (.inl h)
        · exact .inl h
        · exact .inr (.inr h)
      · rintro (h | h | h)
        · exact .inr (.inl h)
        · exact .inl h
        · exact .inr (.inr h)
    · split
      · rename_i h1 h2
        subst h2
        rw [List.mem_cons]
        constructor
        · exact .inr
        · rintro (h | h)
          · exact .inl h
          · exact h
      · rw [List.mem_cons]
theorem putI_len (l : List Int) (n : Int) : (putI l n).length ≤ l.length + 1 := by
  induction l with
  | nil => simp [putI]
  | cons x l ih =>
    simp only [putI]
    split
    · simp; omega
    · split <;> simp
theorem putI_inc : ∀ (l : List Int) (n : Int), l.Pairwise (· < ·) → (putI l n).Pairwise (· < ·) := by
  intro l
  induction l with
  | nil => intro n _; simp [putI]
  | cons x l ih =>
    intro n h
    rw [List.pairwise_cons] at h
    simp only [putI]
    split
    · rename_i hx
      rw [List.pairwise_cons]
      refine ⟨fun y hy => ?_, ih n h.2⟩
      rcases (putI_mem l n y).1 hy with rfl | hy
      · exact hx
      · exact h.1 y hy
    · split
      · exact List.pairwise_cons.2 h
      · rename_i h1 h2
        rw [List.pairwise_cons]
        refine ⟨fun y hy => ?_, List.pairwise_cons.2 h⟩
        rcases List.mem_cons.1 hy with rfl | hy
        · omega
        · have := h.1 y hy; omega
theorem putI_go {l : List Int} {n x : Int} {k : Nat} (hx : l[k]? = some x) (h : x < n) (e : putI l n = l.take k ++ putI (l.drop k) n) : putI l n = l.take (k + 1) ++ putI (l.drop (k + 1)) n := by
  have hk := (List.getElem?_eq_some_iff.1 hx).1
  have hd : l.drop k = x :: l.drop (k + 1) := by
    rw [List.drop_eq_getElem_cons hk]
    rw [List.getElem?_eq_getElem hk] at hx
    rw [Option.some.inj hx]
  rw [e, hd, take_succ_of hx]
  simp only [putI]
  rw [if_pos h]; simp
theorem putI_in {l : List Int} {n : Int} {k : Nat} (hx : l[k]? = some n) (e : putI l n = l.take k ++ putI (l.drop k) n) : putI l n = l := by
  have hk := (List.getElem?_eq_some_iff.1 hx).1
  have hd : l.drop k = n :: l.drop (k + 1) := by
    rw [List.drop_eq_getElem_cons hk]
    rw [List.getElem?_eq_getElem hk] at hx
    rw [Option.some.inj hx]
  have h2 : putI (n :: l.drop (k + 1)) n = n :: l.drop (k + 1) := by simp [putI]
  rw [e, hd, h2, ← hd, List.take_append_drop]
theorem putI_new {l : List Int} {n x : Int} {k : Nat} (hx : l[k]? = some x) (h : n < x) (e : putI l n = l.take k ++ putI (l.drop k) n) : putI l n = l.take k ++ n :: l.drop k := by
  have hk := (List.getElem?_eq_some_iff.1 hx).1
  have hd : l.drop k = x :: l.drop (k + 1) := by
    rw [List.drop_eq_getElem_cons hk]
    rw [List.getElem?_eq_getElem hk] at hx
    rw [Option.some.inj hx]
  rw [e, hd]
  simp only [putI]
  rw [if_neg (by omega), if_neg (by omega)]
theorem putI_end {l : List Int} {n : Int} (e : putI l n = l.take l.length ++ putI (l.drop l.length) n) : putI l n = l.take l.length ++ n :: l.drop l.length := by
  rw [e]; simp [putI]

/-- A slice of ints that reads as l. -/
def PutPost (l : List Int) (w : World) (e : Ending) (w' : World) : Prop := ∃ v, e = .returned v ∧ RdI w' v l ∧ Below w.heap.size w w'
/-- A slice of ints of its own that reads as l, or the one that came in. -/
def PutOwn (v0 : Value) (l0 l : List Int) (w : World) (e : Ending) (w' : World) : Prop := ∃ v, e = .returned v ∧ (w'.ownsRow w.heap.size 3 1 v l.length (ints l) ∨ (v = v0 ∧ l = l0)) ∧ Below w.heap.size w w'
theorem own_len {w : World} {base n : Nat} {v : Value} {l : List Int} (h : w.ownsRow base 3 1 v n (ints l)) : w.ownsRow base 3 1 v l.length (ints l) := by
  have e : l.length = n := by have := h.1; rw [ints_len] at this; omega
  rw [e]; exact h
set_option maxRecDepth 100000 in
set_option maxHeartbeats 4000000 in
theorem l1PutO_c (v : Value) (l : List Int) (n : Int) (w : World) (hr : RdI w v l) (hl : l.length ≤ 100000) :
    Calls Tryz.prog 29 #[v, .int .i64 n] w (PutOwn v l (putI l n) w) := by
  have HR := Lib.hid hr
  obtain ⟨A, c, rfl, hc, hm, hr⟩ := hr
  rw [maxLen_eq] at hm
  have HCELL := Lib.hid hr
  obtain ⟨i0, hi, hz0, hz1, hz2⟩ := info_parts Tryz.infoInt
  clear hr
  by_cases h0 : l = []
  · subst h0
    simp only [List.length_nil] at hc HR ⊢
    have HT : Hid (∀ (A : Option Addr) (c : Nat), c ≤ 9223372036854775807 → Rd w (.slice A 0 c) 0 (ints (([] : List Int).take 0))) := Lib.hid (fun A c h => ⟨A, c, rfl, Nat.zero_le _, h, fun h => absurd h (by simp)⟩)
    have HD : Hid (∀ (A : Option Addr) (c : Nat), c ≤ 9223372036854775807 → Rd w (.slice A 0 c) 0 (ints (([] : List Int).drop 0))) := Lib.hid (fun A c h => ⟨A, c, rfl, Nat.zero_le _, h, fun h => absurd h (by simp)⟩)
    have HTL : Hid ((ints (([] : List Int).take 0)).length = 0 * 1) := Lib.hid rfl
    have HDL : Hid ((ints (([] : List Int).drop 0)).length = 0 * 1) := Lib.hid rfl
    have HE : Hid (putI [] n = ([] : List Int).take 0 ++ n :: ([] : List Int).drop 0) := Lib.hid rfl
    clear HCELL HR
    by_cases hc0 : c = 0
    all_goals
     (try subst hc0)
     rcases A with _ | ad
     all_goals
      go_enter Tryz.func29, Tryz.ntmps29
      go_wp2_with fail
      go_loopw [5] (fun v5 wr => v5 = .int .i64 0 ∧ w = wr) (fun _ _ => 0)
      case atStart => exact ⟨rfl, rfl⟩
      case round =>
      obtain ⟨rfl, rfl⟩ := hrel
      go_wp2_with (first | (at_builtin; refine wpList_app_rd _ rfl _ _ 26 rfl w.heap.size 3 i0 (.int .i64 0) 1 8 Tryz.underlying26 hi hz0 hz1 hz2 rfl (by decide) _ _ _ rfl (World.ownsRow_made (size := 1) w #[] 0 (Nat.le_refl _) (Nat.zero_le _) rfl) _ (0) (ints (([] : List Int).take 0)) rfl (rd_below (HT.out _ _ (by omega)) (bel_al (Below.refl _ _) _)) HTL.out (ints_one _) (by rw [maxLen_eq]; omega) (by omega) (by simp) ?_; intro v1 w1 ho1 hg1 _; have HB1 := Lib.hid (bel_grown (bel_al (Below.refl w.heap.size w) _) hg1 (fun q e => (by have h : w.heap.size = q := Option.some.inj e; omega))); have hs1 := hg1.size) | (at_builtin; refine wpList_app_rd _ rfl _ _ 26 rfl w.heap.size 3 i0 (.int .i64 0) 1 8 Tryz.underlying26 hi hz0 hz1 hz2 rfl (by decide) _ _ _ rfl (ho1.alloc _) _ 1 [.int .i64 n] rfl (rd_new _ rfl (Nat.le_refl _) (by rw [maxLen_eq]; omega)) rfl (ints_one [n]) (by rw [maxLen_eq]; omega) (by omega) (by have := HB1.out.size; simp; omega) ?_; intro v2 w2 ho2 hg2 _; have HB2 := Lib.hid (bel_grown (bel_al HB1.out _) hg2 (fun q e => (ho1.lt q e).1))) | (at_builtin; refine wpList_app_rd _ rfl _ _ 26 rfl w.heap.size 3 i0 (.int .i64 0) 1 8 Tryz.underlying26 hi hz0 hz1 hz2 rfl (by decide) _ _ _ rfl ho2 _ (0) (ints (([] : List Int).drop 0)) rfl (rd_below (HD.out _ _ (by omega)) HB2.out) HDL.out (ints_one _) (by rw [maxLen_eq]; omega) (by omega) HB2.out.size ?_; intro v3 w3 ho3 hg3 _; have HB3 := Lib.hid (bel_grown HB2.out hg3 (fun q e => (ho2.lt q e).1))))
      go_ret
      have e1 : ([] : List Value) ++ ints (([] : List Int).take 0) ++ [Value.int .i64 n] ++ ints (([] : List Int).drop 0) = ints (putI [] n) := by rw [HE.out]; simp [ints]
      refine ⟨_, rfl, .inl ?_, HB3.out⟩
      have ho4 := ho3
      simp only [List.nil_append] at e1 ho4
      rw [e1] at ho4
      exact own_len ho4
  have HPOS : Hid (0 < l.length) := Lib.hid (List.length_pos_iff.2 h0)
  clear h0
  go_enter Tryz.func29, Tryz.ntmps29
  go_wp2_with fail
  go_loopw [5] (fun v5 wr => ∃ k : Nat, k ≤ l.length ∧ v5 = .int .i64 k ∧ Hid (putI l n = l.take k ++ putI (l.drop k) n) ∧ w = wr) (fun v5 _ => l.length - (intOf v5).toNat)
  case atStart => exact ⟨0, Nat.zero_le _, rfl, Lib.hid rfl, rfl⟩
  case round =>
    obtain ⟨k, hk, rfl, HE, rfl⟩ := hrel
    by_cases hlt : k < l.length
    · obtain ⟨b, off, rfl, hbl, hcell⟩ := HCELL.out (by omega)
      obtain ⟨x, hx⟩ : ∃ x, l[k]? = some x := ⟨_, List.getElem?_eq_getElem hlt⟩
      have c0 := hcell _ _ (ints_get hx)
      have HX := Lib.hid hx
      have i0' : (0 : Int) ≤ (k : Int) := by omega
      have i1 : (k : Int) < (l.length : Int) := by omega
      have i2 : (k : Int) ≤ (c : Int) := by omega
      clear hcell hx
      by_cases hxn : x < n
      · have HE2 := Lib.hid (putI_go HX.out hxn HE.out)
        go_wp2
        exact ⟨⟨k + 1, by omega, by go_num, HE2, (by first | rfl | trivial)⟩, by simp [intOf]; omega⟩
      · by_cases hxe : x = n
        · have e0 : ((x : Int) == n) = true := by rw [beq_iff_eq]; exact hxe
          subst hxe
          have HF := Lib.hid (putI_in HX.out HE.out)
          go_wp2
          go_ret
          exact ⟨_, rfl, .inr ⟨rfl, HF.out⟩, Below.refl _ _⟩
        · have e0 : ((x : Int) == n) = false := by rw [beq_eq_false_iff_ne]; exact hxe
          have HF := Lib.hid (putI_new HX.out (show n < x by omega) HE.out)
          clear HE
          have HE := HF
          have HT : Hid (Rd w (.slice (some ⟨b, off, none⟩) k c) k (ints (l.take k))) := Lib.hid (rd_front HR.out (by omega))
          have HTL : Hid ((ints (l.take k)).length = k * 1) := Lib.hid (by rw [ints_len, List.length_take]; omega)
          have HD : Hid (Rd w (.slice (some ⟨b, off + k, none⟩) (l.length - k) (c - k)) (l.length - k) (ints (l.drop k))) := Lib.hid (rd_back HR.out (by omega))
          have HDL : Hid ((ints (l.drop k)).length = (l.length - k) * 1) := Lib.hid (by rw [ints_len, List.length_drop]; omega)
          have hck : ¬ (c = k) := by omega
          clear hxe HF
          go_wp2_with (first | (at_builtin; refine wpList_app_rd _ rfl _ _ 26 rfl w.heap.size 3 i0 (.int .i64 0) 1 8 Tryz.underlying26 hi hz0 hz1 hz2 rfl (by decide) _ _ _ rfl (World.ownsRow_made (size := 1) w #[] 0 (Nat.le_refl _) (Nat.zero_le _) rfl) _ (k) (ints (l.take (k))) rfl (rd_below HT.out (bel_al (Below.refl _ _) _)) HTL.out (ints_one _) (by rw [maxLen_eq]; omega) (by omega) (by simp) ?_; intro v1 w1 ho1 hg1 _; have HB1 := Lib.hid (bel_grown (bel_al (Below.refl w.heap.size w) _) hg1 (fun q e => (by have h : w.heap.size = q := Option.some.inj e; omega))); have hs1 := hg1.size) | (at_builtin; refine wpList_app_rd _ rfl _ _ 26 rfl w.heap.size 3 i0 (.int .i64 0) 1 8 Tryz.underlying26 hi hz0 hz1 hz2 rfl (by decide) _ _ _ rfl (ho1.alloc _) _ 1 [.int .i64 n] rfl (rd_new _ rfl (Nat.le_refl _) (by rw [maxLen_eq]; omega)) rfl (ints_one [n]) (by rw [maxLen_eq]; omega) (by omega) (by have := HB1.out.size; simp; omega) ?_; intro v2 w2 ho2 hg2 _; have HB2 := Lib.hid (bel_grown (bel_al HB1.out _) hg2 (fun q e => (ho1.lt q e).1))) | (at_builtin; refine wpList_app_rd _ rfl _ _ 26 rfl w.heap.size 3 i0 (.int .i64 0) 1 8 Tryz.underlying26 hi hz0 hz1 hz2 rfl (by decide) _ _ _ rfl ho2 _ (l.length - k) (ints (l.drop (k))) rfl (rd_below (HD.out) HB2.out) HDL.out (ints_one _) (by rw [maxLen_eq]; omega) (by omega) HB2.out.size ?_; intro v3 w3 ho3 hg3 _; have HB3 := Lib.hid (bel_grown HB2.out hg3 (fun q e => (ho2.lt q e).1))))
          go_ret
          have e1 : ([] : List Value) ++ ints (l.take (k)) ++ [Value.int .i64 n] ++ ints (l.drop (k)) = ints (putI l n) := by rw [HE.out]; simp [ints]
          refine ⟨_, rfl, .inl ?_, HB3.out⟩
          have ho4 := ho3
          simp only [List.nil_append] at e1 ho4
          rw [e1] at ho4
          exact own_len ho4
    · obtain rfl : k = l.length := by omega
      have HF := Lib.hid (putI_end HE.out)
      clear HE
      have HE := HF
      have HT : Hid (Rd w (.slice A l.length c) l.length (ints (l.take l.length))) := Lib.hid (rd_front HR.out (Nat.le_refl _))
      have HTL : Hid ((ints (l.take l.length)).length = l.length * 1) := Lib.hid (by rw [ints_len, List.length_take]; omega)
      have HD : Hid (∀ (A : Option Addr) (c : Nat), c ≤ 9223372036854775807 → Rd w (.slice A 0 c) 0 (ints (l.drop l.length))) := Lib.hid (fun A c h => ⟨A, c, rfl, Nat.zero_le _, h, fun h => absurd h (by simp)⟩)
      have HDL : Hid ((ints (l.drop l.length)).length = 0 * 1) := Lib.hid (by rw [ints_len, List.length_drop]; omega)
      have i0' : (0 : Int) ≤ (l.length : Int) := by omega
      have i2 : (l.length : Int) ≤ (c : Int) := by omega
      clear HF
      obtain ⟨b, off, rfl, _⟩ := HCELL.out HPOS.out
      by_cases hcl : c = l.length
      · subst hcl
        go_wp2_with (first | (at_builtin; refine wpList_app_rd _ rfl _ _ 26 rfl w.heap.size 3 i0 (.int .i64 0) 1 8 Tryz.underlying26 hi hz0 hz1 hz2 rfl (by decide) _ _ _ rfl (World.ownsRow_made (size := 1) w #[] 0 (Nat.le_refl _) (Nat.zero_le _) rfl) _ (l.length) (ints (l.take (l.length))) rfl (rd_below HT.out (bel_al (Below.refl _ _) _)) HTL.out (ints_one _) (by rw [maxLen_eq]; omega) (by omega) (by simp) ?_; intro v1 w1 ho1 hg1 _; have HB1 := Lib.hid (bel_grown (bel_al (Below.refl w.heap.size w) _) hg1 (fun q e => (by have h : w.heap.size = q := Option.some.inj e; omega))); have hs1 := hg1.size) | (at_builtin; refine wpList_app_rd _ rfl _ _ 26 rfl w.heap.size 3 i0 (.int .i64 0) 1 8 Tryz.underlying26 hi hz0 hz1 hz2 rfl (by decide) _ _ _ rfl (ho1.alloc _) _ 1 [.int .i64 n] rfl (rd_new _ rfl (Nat.le_refl _) (by rw [maxLen_eq]; omega)) rfl (ints_one [n]) (by rw [maxLen_eq]; omega) (by omega) (by have := HB1.out.size; simp; omega) ?_; intro v2 w2 ho2 hg2 _; have HB2 := Lib.hid (bel_grown (bel_al HB1.out _) hg2 (fun q e => (ho1.lt q e).1))) | (at_builtin; refine wpList_app_rd _ rfl _ _ 26 rfl w.heap.size 3 i0 (.int .i64 0) 1 8 Tryz.underlying26 hi hz0 hz1 hz2 rfl (by decide) _ _ _ rfl ho2 _ (0) (ints (l.drop (l.length))) rfl (rd_below (HD.out _ _ (by omega)) HB2.out) HDL.out (ints_one _) (by rw [maxLen_eq]; omega) (by omega) HB2.out.size ?_; intro v3 w3 ho3 hg3 _; have HB3 := Lib.hid (bel_grown HB2.out hg3 (fun q e => (ho2.lt q e).1))))
        go_ret
        have e1 : ([] : List Value) ++ ints (l.take (l.length)) ++ [Value.int .i64 n] ++ ints (l.drop (l.length)) = ints (putI l n) := by rw [HE.out]; simp [ints]
        refine ⟨_, rfl, .inl ?_, HB3.out⟩
        have ho4 := ho3
        simp only [List.nil_append] at e1 ho4
        rw [e1] at ho4
        exact own_len ho4
      · have hcl' : ¬ (l.length = c) := fun e => hcl e.symm
        go_wp2_with (first | (at_builtin; refine wpList_app_rd _ rfl _ _ 26 rfl w.heap.size 3 i0 (.int .i64 0) 1 8 Tryz.underlying26 hi hz0 hz1 hz2 rfl (by decide) _ _ _ rfl (World.ownsRow_made (size := 1) w #[] 0 (Nat.le_refl _) (Nat.zero_le _) rfl) _ (l.length) (ints (l.take (l.length))) rfl (rd_below HT.out (bel_al (Below.refl _ _) _)) HTL.out (ints_one _) (by rw [maxLen_eq]; omega) (by omega) (by simp) ?_; intro v1 w1 ho1 hg1 _; have HB1 := Lib.hid (bel_grown (bel_al (Below.refl w.heap.size w) _) hg1 (fun q e => (by have h : w.heap.size = q := Option.some.inj e; omega))); have hs1 := hg1.size) | (at_builtin; refine wpList_app_rd _ rfl _ _ 26 rfl w.heap.size 3 i0 (.int .i64 0) 1 8 Tryz.underlying26 hi hz0 hz1 hz2 rfl (by decide) _ _ _ rfl (ho1.alloc _) _ 1 [.int .i64 n] rfl (rd_new _ rfl (Nat.le_refl _) (by rw [maxLen_eq]; omega)) rfl (ints_one [n]) (by rw [maxLen_eq]; omega) (by omega) (by have := HB1.out.size; simp; omega) ?_; intro v2 w2 ho2 hg2 _; have HB2 := Lib.hid (bel_grown (bel_al HB1.out _) hg2 (fun q e => (ho1.lt q e).1))) | (at_builtin; refine wpList_app_rd _ rfl _ _ 26 rfl w.heap.size 3 i0 (.int .i64 0) 1 8 Tryz.underlying26 hi hz0 hz1 hz2 rfl (by decide) _ _ _ rfl ho2 _ (0) (ints (l.drop (l.length))) rfl (rd_below (HD.out _ _ (by omega)) HB2.out) HDL.out (ints_one _) (by rw [maxLen_eq]; omega) (by omega) HB2.out.size ?_; intro v3 w3 ho3 hg3 _; have HB3 := Lib.hid (bel_grown HB2.out hg3 (fun q e => (ho2.lt q e).1))))
        go_ret
        have e1 : ([] : List Value) ++ ints (l.take (l.length)) ++ [Value.int .i64 n] ++ ints (l.drop (l.length)) = ints (putI l n) := by rw [HE.out]; simp [ints]
        refine ⟨_, rfl, .inl ?_, HB3.out⟩
        have ho4 := ho3
        simp only [List.nil_append] at e1 ho4
        rw [e1] at ho4
        exact own_len ho4
theorem l1Put_c (v : Value) (l : List Int) (n : Int) (w : World) (hr : RdI w v l) (hl : l.length ≤ 100000) :
    Calls Tryz.prog 29 #[v, .int .i64 n] w (PutPost (putI l n) w) :=
  (l1PutO_c v l n w hr hl).mono fun _ _ ⟨v', he, h, hb⟩ => ⟨v', he, by rcases h with h | ⟨rfl, h⟩; exact rdi_own h; rw [h]; exact rdi_below hr hb, hb⟩
end Go.Proofs.YtahehdgkbhjpoaaGreatDoor
