/-
  Words for draws: rows that stay while a cursor draws; a cursor made anew. A fresh variable of a town; rows of streets beside it. Words for drawn regions in which a cursor draws: a row made at any place. (joined by pack.py: DrawG FreshT DrawR)
-/
import Derived.Test.YthgegghdkoeofaaGreatDoorK25
import Derived.Test.YthgegghdkoeofaaGreatDoorK7
import Derived.Test.YthgegghdkoeofaaGreatDoorK8
import Derived.Test.YthgegghdkoeofaaGreatDoorK11
namespace Go.Proofs.YthgegghdkoeofaaGreatDoor
set_option linter.unusedVariables false
set_option linter.unusedSimpArgs false
open Go.RowKit

theorem row_new (w : World) (xs : List Value) (t : TypeId) (n sz : Nat) (hl : xs.length = n * sz) (hm : n * sz ≤ 1000000) (h0 : n ≤ n * sz) : (w.alloc (.cells xs.toArray t)).ownsRow w.heap.size t sz (.slice (some ⟨w.heap.size, 0, none⟩) n n) n xs :=
  ⟨hl, .inr ⟨w.heap.size, n, xs.toArray, rfl, Nat.le_refl _, heap_alloc_new w _, Nat.le_refl _, by rw [maxLen_eq]; omega, by simpa using hl, by rw [List.take_of_length_le (by simp; omega)]⟩⟩
theorem own_draw {w w' : World} {base : Nat} {e : TypeId} {sz : Nat} {v : Value} {n : Nat} {xs : List Value} {B : Nat} (h : w.ownsRow base e sz v n xs) (g : w.grownBy w' (some B)) (hb : B < base) : w'.ownsRow base e sz v n xs :=
  h.kept g (by
    cases hv : v.ownBlock with
    | none => exact .inl rfl
    | some q => exact .inr (fun hq => by have h1 := (h.lt q hv).1; have h2 := Option.some.inj hq; omega))
theorem Drew.own {B : Nat} {l : List Int} {a k : Nat} {w W W' : World} {R : Nat} (h : Drew B l a k w W) (g : W.grownBy W' (some R)) (hR : w.heap.size ≤ R) (hB : B < w.heap.size) : Drew B l a k w W' :=
  ⟨h.1.gro g (fun q e => by have := Option.some.inj e; omega), ⟨g.os.trans h.2.os, g.tape.trans h.2.tape, g.output.trans h.2.output, Nat.le_trans h.2.size g.size, fun i hi hne => (g.block i (Nat.lt_of_lt_of_le hi h.2.size) (fun e => by have := Option.some.inj e; omega)).trans (h.2.block i hi hne)⟩⟩
theorem lit_ne {n m : Nat} {s B : Nat} (h : B < s) : ∀ (b : Nat) (off : Nat) (n' c : Nat), Value.slice (some ⟨s, 0, none⟩) n m = .slice (some ⟨b, off, none⟩) n' c → b ≠ B := fun b off n' c e => by
  injection e with e1
  injection e1 with e1
  injection e1 with e1
  omega
theorem Drew.app {B : Nat} {l : List Int} {a k : Nat} {w w4 w7 : World} {o : Obj} {r : Option Nat} (h : Drew B l a k w w4) (g : (w4.alloc o).grownBy w7 r) (hr : ∀ q, r = some q → w.heap.size ≤ q) (hB : B < w.heap.size) : Drew B l a k w w7 := by
  have h1 : Drew B l a k w (w4.alloc o) := h.bel (bel_al (Below.refl _ _) o)
  exact ⟨h1.1.gro g (fun q e => by have := hr q e; omega), ⟨g.os.trans h1.2.os, g.tape.trans h1.2.tape, g.output.trans h1.2.output, Nat.le_trans h1.2.size g.size, fun i hi hne => (g.block i (Nat.lt_of_lt_of_le hi h1.2.size) (fun e => by have := hr i e.symm; omega)).trans (h1.2.block i hi hne)⟩⟩
def lenOf : Value → Nat
  | .slice _ n _ => n
  | _ => 0
theorem cur_new (w : World) (v : Value) (l : List Int) (hr : Rd w v l.length (bys l)) (hl : l.length ≤ 9223372036854775807) (w1 : World) (h0 : w1.cell? ⟨w.heap.size, 0, none⟩ = some v) (h1 : w1.cell? ⟨w.heap.size, 1, none⟩ = some (.int .i64 0)) (h2 : w1.cell? ⟨w.heap.size, 2, none⟩ = some (.int .u64 0))
    (h3 : w1.frozen? ⟨w.heap.size, 1, none⟩ = false) (h4 : w1.frozen? ⟨w.heap.size, 2, none⟩ = false) (hb : Below w.heap.size w w1) : CurAt w.heap.size l 0 w1 := by
  obtain ⟨A, c, rfl, _, _, hc⟩ := hr
  refine ⟨0, A, c, 0, Nat.le_refl _, hl, h0, h1, h2, h3, h4, fun h => ?_⟩
  obtain ⟨b, off, rfl, hbl, hcl⟩ := hc h
  exact ⟨b, off, rfl, hbl, Nat.lt_of_lt_of_le hbl hb.size, fun j u hu => (hb.cell (p := ⟨b, off + j, none⟩) hbl).trans (hcl j u hu)⟩
theorem Drew.out {l : List Int} {a k : Nat} {w w1 w2 : World} (hb : Below w.heap.size w w1) (h : Drew w.heap.size l a k w1 w2) : Below w.heap.size w w2 := bel_grown hb h.2 (fun q e => by have := Option.some.inj e; omega)
end Go.Proofs.YthgegghdkoeofaaGreatDoor

namespace Go.Proofs.YthgegghdkoeofaaGreatDoor
set_option linter.unusedVariables false
set_option linter.unusedSimpArgs false
open Go.RowKit

theorem cellDr {W : World} {p : Addr} {v : Option Value} (h : W.cell? p = v) : W.drew.cell? p = v := h
theorem cellAl {W : World} {p : Addr} {v : Value} {x : Obj} (h : W.cell? p = some v) : (W.alloc x).cell? p = some v := (World.cell?_alloc_lt _ _ _ (World.block_lt_of_cell? W _ h)).trans h
theorem rowNew (w : World) (xs : List Value) (t : TypeId) (n sz k base : Nat) (hk : k = w.heap.size) (hb : base ≤ k) (hl : xs.length = n * sz) (hm : n * sz ≤ 1000000) (h0 : n ≤ n * sz) : (w.alloc (.cells xs.toArray t)).ownsRow base t sz (.slice (some ⟨k, 0, none⟩) n n) n xs := by
  subst hk; exact own_base (row_new w xs t n sz hl hm h0) hb
/-- A fresh variable of a town. -/
def FreshT (W : World) (R : Nat) : Prop := W.ownsRow R 47 2 (.slice (some ⟨R, 0, none⟩) 1 1) 1 [.int .i64 0, .slice none 0 0]
theorem fresh_new (w : World) (k : Nat) (hk : k = w.heap.size) : FreshT (w.alloc (.cells #[.int .i64 0, .slice none 0 0] 47)) k := by
  subst hk; exact row_new w [.int .i64 0, .slice none 0 0] _ 1 2 rfl (by omega) (by omega)
theorem fresh_al {W : World} {R : Nat} {o : Obj} (h : FreshT W R) : FreshT (W.alloc o) R := World.ownsRow.alloc h o
theorem fresh_app {X Y : World} {R : Nat} {r : Option Nat} (h : FreshT X R) (g : X.grownBy Y r) (hs : ∀ q, r = some q → q ≠ R) : FreshT Y R :=
  World.ownsRow.kept h g (by
    cases r with
    | none => exact .inr (by simp [Value.ownBlock])
    | some q => exact .inr (by simp only [Value.ownBlock]; intro e; exact hs q rfl (Option.some.inj e).symm))
theorem fresh_c0 {W : World} {R : Nat} (h : FreshT W R) : W.cell? ⟨R, 0, none⟩ = some (.int .i64 0) := by have := h.cellAt 0 (by omega); simpa using this
theorem fresh_c1 {W : World} {R : Nat} (h : FreshT W R) : W.cell? ⟨R, 1, none⟩ = some (.slice none 0 0) := by have := h.cellAt 1 (by omega); simpa using this
theorem ownApp {X Y : World} {base : Nat} {e : TypeId} {sz n c k : Nat} {xs : List Value} {r : Option Nat} (h : X.ownsRow base e sz (.slice (some ⟨k, 0, none⟩) n c) n xs) (g : X.grownBy Y r) (hs : ∀ q, r = some q → q ≠ k) : Y.ownsRow base e sz (.slice (some ⟨k, 0, none⟩) n c) n xs :=
  World.ownsRow.kept h g (by
    cases r with
    | none => exact .inr (by simp [Value.ownBlock])
    | some q => exact .inr (by simp only [Value.ownBlock]; intro e; exact hs q rfl (Option.some.inj e).symm))
theorem fresh_ne {X : World} {R base n : Nat} {v : Value} {xs : List Value} (hf : FreshT X R) (ho : X.ownsRow base 144 3 v n xs) : ∀ q, v.ownBlock = some q → q ≠ R := by
  intro q hq e
  subst e
  rcases hf.2 with ⟨h, _⟩ | ⟨g, cap, cur, hv, _, hg, _⟩
  · simp at h
  · simp only [Value.slice.injEq, Option.some.injEq, Addr.mk.injEq, and_true, true_and] at hv
    obtain ⟨rfl, -⟩ := hv
    rcases ho.2 with ⟨rfl, _⟩ | ⟨g', cap', cur', rfl, _, hg', _⟩
    · simp [Value.ownBlock] at hq
    · simp only [Value.ownBlock, Option.some.injEq] at hq
      subst hq
      rw [hg] at hg'
      simp at hg'
theorem fresh_app2 {X Y : World} {R base n : Nat} {v : Value} {xs : List Value} (h : FreshT X R) (ho : X.ownsRow base 144 3 v n xs) (g : X.grownBy Y v.ownBlock) : FreshT Y R := fresh_app h g (fresh_ne h ho)
theorem own_farR {w : World} {base : Nat} {e : TypeId} {sz : Nat} {v : Value} {n : Nat} {xs : List Value} (h : w.ownsRow base e sz v n xs) {g : Nat} (hne : ∀ q, v.ownBlock = some q → q ≠ g) (j : Nat) (u : Value) : (w.setCell ⟨g, j, none⟩ u).ownsRow base e sz v n xs :=
  h.kept (only_setCell (World.grownBy.refl w (some g)) j u) (by
    cases hb : v.ownBlock with
    | none => exact .inl rfl
    | some q => exact .inr (fun k => hne q hb (Option.some.inj k)))
/-- A fresh variable, if there is one. -/
def OptF (W : World) (R : Option Nat) : Prop := ∀ r, R = some r → FreshT W r
theorem opt_none (W : World) : OptF W none := fun r e => by cases e
theorem opt_new (w : World) : OptF (w.alloc (.cells #[.int .i64 0, .slice none 0 0] 47)) (some w.heap.size) := fun r e => by cases e; exact fresh_new w _ rfl
theorem opt_al {W : World} {R : Option Nat} {o : Obj} (h : OptF W R) : OptF (W.alloc o) R := fun r e => fresh_al (h r e)
theorem opt_app {X Y : World} {R : Option Nat} {base n : Nat} {v : Value} {xs : List Value} (h : OptF X R) (ho : X.ownsRow base 144 3 v n xs) (g : X.grownBy Y v.ownBlock) : OptF Y R := fun r e => fresh_app2 (h r e) ho g
theorem size_dr (W : World) : W.drew.heap.size = W.heap.size := rfl
theorem ob_eq {p q n c : Nat} (e : Value.ownBlock (.slice (some ⟨p, 0, none⟩) n c) = some q) : q = p := (Option.some.inj e).symm
theorem ownDr {W : World} {base : Nat} {e : TypeId} {sz n : Nat} {v : Value} {xs : List Value} (h : W.ownsRow base e sz v n xs) : W.drew.ownsRow base e sz v n xs := own_below h (bel_dr (Below.refl _ _))
theorem fresh_dr {W : World} {R : Nat} (h : FreshT W R) : FreshT W.drew R := ownDr h
theorem rowE (w : World) (t : TypeId) (k base : Nat) (hk : k = w.heap.size) (hb : base ≤ k) : (w.alloc (.cells #[] t)).ownsRow base t 3 (.slice (some ⟨k, 0, none⟩) 0 0) 0 [] := rowNew w [] t 0 3 k base hk hb rfl (by omega) (by omega)
theorem rowS (w : World) (t : TypeId) (k base : Nat) (a b c : Value) (hk : k = w.heap.size) (hb : base ≤ k) : (w.alloc (.cells #[a, b, c] t)).ownsRow base t 3 (.slice (some ⟨k, 0, none⟩) 1 1) 1 [a, b, c] := rowNew w [a, b, c] t 1 3 k base hk hb rfl (by omega) (by omega)
theorem fresh_f {W : World} {R : Nat} (h : FreshT W R) (j : Nat) : W.frozen? ⟨R, j, none⟩ = false := World.ownsRow.frozenAt h j
theorem st_one (l : List St) : ∀ u ∈ l.flatMap St.cells, u.oneCell' = true := by
  intro u hu
  obtain ⟨s, _, hs⟩ := List.mem_flatMap.1 hu
  simp [St.cells] at hs
  rcases hs with rfl | rfl | rfl <;> rfl
theorem none_of {V W : Option Value} (h : V.isSome = true → W.isSome = true) (hW : W = none) : V = none := by
  cases hV : V with
  | none => rfl
  | some v => rw [hV] at h; have := h rfl; rw [hW] at this; cases this
theorem some_of {V : Option Value} (h : V.isSome = true) : ∃ v, V = some v := Option.isSome_iff_exists.1 h
theorem no {α : Prop} {v : Value} {V : Option Value} (h : V = some v) (h' : V = none) : α := by rw [h] at h'; cases h'
end Go.Proofs.YthgegghdkoeofaaGreatDoor

namespace Go.Proofs.YthgegghdkoeofaaGreatDoor
set_option linter.unusedVariables false
set_option linter.unusedSimpArgs false
open Go.RowKit

def RS (B : Nat) (X : World) (v : Value) (q : List Int) : Prop := RdI X v q ∧ ∀ b off n c, v = .slice (some ⟨b, off, none⟩) n c → b ≠ B
theorem rs_dr {B : Nat} {X : World} {v : Value} {q : List Int} (h : RS B X v q) : RS B X.drew v q := ⟨rdi_below h.1 (bel_dr (Below.refl _ _)), h.2⟩
theorem rs_al {B : Nat} {X : World} {v : Value} {q : List Int} {x : Obj} (h : RS B X v q) : RS B (X.alloc x) v q := ⟨rdi_below h.1 (bel_al (Below.refl _ _) _), h.2⟩
theorem rs_gro {B : Nat} {X Y : World} {v : Value} {q : List Int} (h : RS B X v q) (g : X.grownBy Y (some B)) : RS B Y v q := by
  obtain ⟨⟨A, c, hv, h1, h2, h3⟩, hn⟩ := h
  refine ⟨⟨A, c, hv, h1, h2, fun h0 => ?_⟩, hn⟩
  obtain ⟨b, off, hA, hlt, hc⟩ := h3 h0
  exact ⟨b, off, hA, Nat.lt_of_lt_of_le hlt g.size, fun j u hu => (gro_cell g hlt (hn b off _ _ (by rw [hv, hA]))).trans (hc j u hu)⟩
theorem rs_new {B : Nat} {l : List Int} {a : Nat} {W Y : World} {q : List Int} {t : TypeId} {k : Nat} (h : CurAt B l a W) (hb : Below W.heap.size W Y) (hq : q.length ≤ 1000) (hk : k = Y.heap.size) : RS B (Y.alloc (.cells (ints q).toArray t)) (.slice (some ⟨k, 0, none⟩) q.length q.length) q :=
  ⟨rd_new Y hk (Nat.le_refl _) (by rw [maxLen_eq]; omega), by subst hk; exact lit_ne (Nat.lt_of_lt_of_le h.lt hb.size)⟩
theorem pick_at2 {B : Nat} {l : List Int} {a k : Nat} {w W X : World} (hl : BytesOk l) (HD : Drew B l a k w W) (hb : Below W.heap.size W X) (hk : a + k ≤ 4611686018427380000) (n : Int) (hn : n ≤ 4294967296) :
    Calls Tryz.prog 71 #[.pointer (some ⟨B, 0, none⟩), .int .i64 n] X fun e w' => ∃ x : Nat, e = .returned (.int .i64 x) ∧ (x : Int) < max n 1 ∧ Drew B l a (k + 2) w w' ∧ X.grownBy w' (some B) := by
  refine (pick_c B l hl (a + k) (by omega) n hn X (HD.1.below hb)).mono ?_
  rintro e w' ⟨x, rfl, hx, hd⟩
  exact ⟨x, rfl, hx, (HD.bel hb).trans hd, hd.2⟩
theorem pick_at {B : Nat} {l : List Int} {a k : Nat} {w W X : World} (hl : BytesOk l) (HD : Drew B l a k w W) (hb : Below W.heap.size W X) (hk : a + k ≤ 4611686018427380000) (n : Int) (hn : n ≤ 4294967296) :
    Calls Tryz.prog 71 #[.pointer (some ⟨B, 0, none⟩), .int .i64 n] X fun e w' => ∃ x : Nat, e = .returned (.int .i64 x) ∧ Drew B l a (k + 2) w w' ∧ X.grownBy w' (some B) := by
  refine (pick_c B l hl (a + k) (by omega) n hn X (HD.1.below hb)).mono ?_
  rintro e w' ⟨x, rfl, _, hd⟩
  exact ⟨x, rfl, (HD.bel hb).trans hd, hd.2⟩
theorem among_at {B : Nat} {l : List Int} {a k : Nat} {w W X : World} {v : Value} (hl : BytesOk l) (HD : Drew B l a k w W) (hb : Below W.heap.size W X) (hk : a + k ≤ 4611686018427380000) (q : List Int) (h0 : 0 < q.length) (h1 : q.length ≤ 1000) (hq : RS B X v q) :
    Calls Tryz.prog 63 #[.pointer (some ⟨B, 0, none⟩), v] X fun e w' => ∃ y : Int, e = .returned (.int .i64 y) ∧ Drew B l a (k + 2) w w' ∧ X.grownBy w' (some B) := by
  refine (among_c B l hl (a + k) (by omega) v q h0 h1 X (HD.1.below hb) hq.1 hq.2).mono ?_
  rintro e w' ⟨y, rfl, _, hd⟩
  exact ⟨y, rfl, (HD.bel hb).trans hd, hd.2⟩

end Go.Proofs.YthgegghdkoeofaaGreatDoor
