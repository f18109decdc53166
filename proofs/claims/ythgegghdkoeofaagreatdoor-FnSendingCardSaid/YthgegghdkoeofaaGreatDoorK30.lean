/-
  The state of the draw of a town. spec.AddStreet, region 7: three appends and a variable, in whatever order (printed by gen_addr7.py). The state of the draw of any town. A drawn region of (*spec.l1Cur).anyTown, by what holds whatever has come up (printed by gen_anyr.py). (joined by pack.py: TownP AddR AnyP AnyR6)
-/
import Derived.Test.YthgegghdkoeofaaGreatDoorK26
import Derived.Test.YthgegghdkoeofaaGreatDoorK29
import Derived.Deep.RegionHeld3
import Derived.Test.YthgegghdkoeofaaGreatDoorK7
namespace Go.Proofs.YthgegghdkoeofaaGreatDoor
set_option linter.unusedVariables false
set_option linter.unusedSimpArgs false
open Go.RowKit

theorem cell_drw {W : World} {p : Addr} {v : Option Value} (h : W.cell? p = v) : W.drew.cell? p = v := h
theorem cell_set_ne {W : World} {RT R o j : Nat} {u x : Value} (h : W.cell? ⟨RT, o, none⟩ = some x) (hne : RT ≠ R) : (W.setCell ⟨R, j, none⟩ u).cell? ⟨RT, o, none⟩ = some x :=
  (gro_cell (only_setCell (World.grownBy.refl W (some R)) j u) (World.block_lt_of_cell? W _ h) hne).trans h
/-- A fresh variable above b, if there is one. -/
def OptG (b : Nat) (W : World) (R : Option Nat) : Prop := ∀ r, R = some r → FreshT W r ∧ b ≤ r
theorem optg_none (b : Nat) (W : World) : OptG b W none := fun r e => by cases e
theorem optg_new {b : Nat} (w : World) (hb : b ≤ w.heap.size) : OptG b (w.alloc (.cells #[.int .i64 0, .slice none 0 0] 47)) (some w.heap.size) := fun r e => by cases e; exact ⟨fresh_new w _ rfl, hb⟩
theorem optg_al {b : Nat} {W : World} {R : Option Nat} {o : Obj} (h : OptG b W R) : OptG b (W.alloc o) R := fun r e => ⟨fresh_al (h r e).1, (h r e).2⟩
theorem optg_dr {b : Nat} {W : World} {R : Option Nat} (h : OptG b W R) : OptG b W.drew R := fun r e => ⟨fresh_dr (h r e).1, (h r e).2⟩
theorem optg_gro {b B : Nat} {X Y : World} {R : Option Nat} (h : OptG b X R) (g : X.grownBy Y (some B)) (hB : B < b) : OptG b Y R := fun r e => ⟨own_draw (h r e).1 g (by have := (h r e).2; omega), (h r e).2⟩
theorem optg_bel {b : Nat} {X Y : World} {R : Option Nat} (h : OptG b X R) (g : Below X.heap.size X Y) : OptG b Y R := fun r e => ⟨own_below (h r e).1 g, (h r e).2⟩
theorem town_ne {X : World} {R base base' n : Nat} {v : Value} {xs ys : List Value} (hf : X.ownsRow base' 47 2 (.slice (some ⟨R, 0, none⟩) 1 1) 1 ys) (ho : X.ownsRow base 144 3 v n xs) : ∀ q, v.ownBlock = some q → q ≠ R := by
  intro q hq e
  subst e
  rcases hf.2 with ⟨h, _⟩ | ⟨g, cap, cur, hv, _, hg, _⟩
  · simp at h
  · simp only [Value.slice.injEq, Option.some.injEq, Addr.mk.injEq, and_true, true_and] at hv
    obtain ⟨rfl, -⟩ := hv
    rcases ho.2 with ⟨rfl, _⟩ | ⟨g', cap', cur', rfl, _, hg', _⟩
    · simp [Value.ownBlock] at hq
    · simp only [Value.ownBlock, Option.some.injEq] at hq
      subst hq
      rw [hg] at hg'
      simp at hg'
/-- The state of the draw of a town: the variable at RT holds n and the streets L. -/
def TownSt (B : Nat) (l : List Int) (a k : Nat) (w : World) (RT : Nat) (n : Int) (v : Value) (L : List St) (W : World) : Prop :=
  W.ownsRow w.heap.size 47 2 (.slice (some ⟨RT, 0, none⟩) 1 1) 1 [.int .i64 n, v] ∧ W.ownsRow w.heap.size 144 3 v L.length (L.flatMap St.cells) ∧ L.length ≤ 40 ∧ FreshT W w.heap.size ∧ Drew B l a k w W ∧ w.heap.size < RT ∧ RT < W.heap.size
/-- Behind AddStreet: a further variable holds the next town. -/
def NextSt (B : Nat) (l : List Int) (a k : Nat) (w : World) (RT : Nat) (n : Int) (v : Value) (L : List St) (p o : Value) (W : World) : Prop :=
  ∃ (R : Nat) (n' : Int) (v' : Value) (L' : List St) (b : Bool), p = .pointer (some ⟨R, 0, none⟩) ∧ o = .bool b ∧ (b = true → n' = n) ∧ W.cell? ⟨R, 0, none⟩ = some (.int .i64 n') ∧ W.cell? ⟨R, 1, none⟩ = some v' ∧
    W.ownsRow w.heap.size 144 3 v' L'.length (L'.flatMap St.cells) ∧ L'.length ≤ 40 ∧ TownSt B l a k w RT n v L W
theorem town_drew {B : Nat} {l : List Int} {a k j : Nat} {w : World} {RT : Nat} {n : Int} {v : Value} {L : List St} {W W' : World} (h : TownSt B l a k w RT n v L W) (d : Drew B l (a + k) j W W') (hB : B < w.heap.size) : TownSt B l a (k + j) w RT n v L W' := by
  obtain ⟨h1, h2, h3, h4, h5, h6, h7⟩ := h
  exact ⟨own_draw h1 d.2 hB, own_draw h2 d.2 hB, h3, own_draw h4 d.2 (by omega), h5.trans d, h6, Nat.lt_of_lt_of_le h7 d.2.size⟩
theorem town_more {B : Nat} {l : List Int} {a k k' : Nat} {w : World} {RT : Nat} {n : Int} {v : Value} {L : List St} {W : World} (h : TownSt B l a k w RT n v L W) (hk : k ≤ k') : TownSt B l a k' w RT n v L W := by
  obtain ⟨h1, h2, h3, h4, h5, h6, h7⟩ := h
  exact ⟨h1, h2, h3, h4, h5.more hk, h6, h7⟩
theorem town_bel {B : Nat} {l : List Int} {a k : Nat} {w : World} {RT : Nat} {n : Int} {v : Value} {L : List St} {W W' : World} (h : TownSt B l a k w RT n v L W) (d : Below W.heap.size W W') : TownSt B l a k w RT n v L W' := by
  obtain ⟨h1, h2, h3, h4, h5, h6, h7⟩ := h
  exact ⟨own_below h1 d, own_below h2 d, h3, own_below h4 d, h5.bel d, h6, Nat.lt_of_lt_of_le h7 d.size⟩
/-- A row elsewhere is written. -/
theorem town_gro {B : Nat} {l : List Int} {a k : Nat} {w : World} {RT : Nat} {n : Int} {v : Value} {L : List St} {W W' : World} {R : Nat} (h : TownSt B l a k w RT n v L W) (g : W.grownBy W' (some R)) (h1' : R ≠ RT) (h2' : ∀ q, v.ownBlock = some q → q ≠ R) (hR : w.heap.size < R) (hB : B < w.heap.size) : TownSt B l a k w RT n v L W' := by
  obtain ⟨h1, h2, h3, h4, h5, h6, h7⟩ := h
  refine ⟨h1.kept g (.inr (fun e => h1' (Option.some.inj e).symm)), h2.kept g ?_, h3, h4.kept g (.inr (fun e => by have : w.heap.size = R := Option.some.inj e; omega)), h5.own g (by omega) hB, h6, Nat.lt_of_lt_of_le h7 g.size⟩
  cases hv : v.ownBlock with
  | none => exact .inl rfl
  | some q => exact .inr (fun e => h2' q hv (Option.some.inj e))
/-- The next town is taken over. -/
theorem town_next {B : Nat} {l : List Int} {a k : Nat} {w : World} {RT : Nat} {n : Int} {v v' : Value} {L L' : List St} {W : World} (h : TownSt B l a k w RT n v L W) (ho : W.ownsRow w.heap.size 144 3 v' L'.length (L'.flatMap St.cells)) (hl : L'.length ≤ 40) (hB : B < w.heap.size) : TownSt B l a k w RT n v' L' ((W.setCell ⟨RT, 0, none⟩ (.int .i64 n)).setCell ⟨RT, 1, none⟩ v') := by
  obtain ⟨h1, h2, h3, h4, h5, h6, h7⟩ := h
  have hg : W.grownBy ((W.setCell ⟨RT, 0, none⟩ (.int .i64 n)).setCell ⟨RT, 1, none⟩ v') (some RT) := only_setCell (only_setCell (World.grownBy.refl _ _) 0 _) 1 _
  exact ⟨own_put [_, _] W _ 0 h1, own_farR (own_farR ho (town_ne h1 ho) 0 _) (town_ne h1 ho) 1 _, hl, h4.kept hg (.inr (fun e => by have : w.heap.size = RT := Option.some.inj e; omega)), h5.own hg (by omega) hB, h6, Nat.lt_of_lt_of_le h7 hg.size⟩
theorem next_alloc {B : Nat} {l : List Int} {a k j : Nat} {w : World} {RT : Nat} {n : Int} {v : Value} {L : List St} {wX W7 : World} {n' : Int} {v' : Value} {L' : List St} {b : Bool} (h : TownSt B l a k w RT n v L wX) (hB : B < w.heap.size) (d : Drew B l (a + k) j wX W7)
    (ho : W7.ownsRow wX.heap.size 144 3 v' L'.length (L'.flatMap St.cells)) (hl : L'.length ≤ 40) (hn : b = true → n' = n) :
    NextSt B l a (k + j) w RT n v L (.pointer (some ⟨W7.heap.size, 0, none⟩)) (.bool b) (W7.alloc (.cells #[.int .i64 n', v'] 47)) := by
  have h7 := town_drew h d hB
  have hs : w.heap.size ≤ wX.heap.size := h.2.2.2.2.1.2.size
  refine ⟨_, n', v', L', b, rfl, rfl, hn, by simp [go_sem], by simp [go_sem], own_base (ho.alloc _) hs, hl, ?_⟩
  have hb : Below W7.heap.size W7 (W7.alloc (.cells #[.int .i64 n', v'] 47)) := bel_al (Below.refl _ _) _
  exact town_bel h7 hb
theorem next_store {B : Nat} {l : List Int} {a k j R : Nat} {w : World} {RT : Nat} {n : Int} {v : Value} {L : List St} {wX W7 : World} {n' : Int} {v' : Value} {L' : List St} {b : Bool} (h : TownSt B l a k w RT n v L wX) (hB : B < w.heap.size) (d : Drew B l (a + k) j wX W7)
    (ho : W7.ownsRow wX.heap.size 144 3 v' L'.length (L'.flatMap St.cells)) (hl : L'.length ≤ 40) (hn : b = true → n' = n) (hf : FreshT W7 R) (hR : wX.heap.size ≤ R) :
    NextSt B l a (k + j) w RT n v L (.pointer (some ⟨R, 0, none⟩)) (.bool b) ((W7.setCell ⟨R, 0, none⟩ (.int .i64 n')).setCell ⟨R, 1, none⟩ v') := by
  have h7 := town_drew h d hB
  have hs : w.heap.size ≤ wX.heap.size := h.2.2.2.2.1.2.size
  have z0 := fresh_c0 hf
  have z1 := fresh_c1 hf
  have hg : W7.grownBy ((W7.setCell ⟨R, 0, none⟩ (.int .i64 n')).setCell ⟨R, 1, none⟩ v') (some R) := only_setCell (only_setCell (World.grownBy.refl _ _) 0 _) 1 _
  have hlt := h.2.2.2.2.2.2
  have h6 := h.2.2.2.2.2.1
  refine ⟨R, n', v', L', b, rfl, rfl, hn, by simp [go_sem, z0], by simp [go_sem, z1], own_base (own_farR (own_farR ho (fresh_ne hf ho) 0 _) (fresh_ne hf ho) 1 _) hs, hl, ?_⟩
  exact town_gro h7 hg (by omega) (fresh_ne hf h7.2.1) (by omega) hB
theorem rs_bel {B : Nat} {X Y : World} {v : Value} {q : List Int} (h : RS B X v q) (g : Below X.heap.size X Y) : RS B Y v q := ⟨rdi_below h.1 g, h.2⟩
theorem upd_some {V : Nat → Option Value} {i j : Nat} {v : Value} (h : (updV V i v j).isSome = true) (hne : j ≠ i) : (V j).isSome = true := by rw [updV_ne hne] at h; exact h
theorem ev_get {a : Act} {t : Tmp} {v : Value} (h : a.eval (.tmp t) = v) : a.tmps[t]?.getD undef = v := by simpa [Act.eval] using h
theorem noS {α : Prop} {V : Option Value} (h : V.isSome = true) (h' : V = none) : α := by rw [h'] at h; cases h
end Go.Proofs.YthgegghdkoeofaaGreatDoor

namespace Go.Proofs.YthgegghdkoeofaaGreatDoor
set_option linter.unusedVariables false
set_option linter.unusedSimpArgs false
open Go.RowKit

theorem Sep2.kept {a b : World} {base : Nat} {e : TypeId} {sz : Nat} {v v' : Value} {n : Nat} {xs : List Value} (h : a.ownsRow base e sz v n xs) (g : a.grownBy b v'.ownBlock) (sep : ∀ q q', v'.ownBlock = some q → v.ownBlock = some q' → q ≠ q') : b.ownsRow base e sz v n xs :=
  h.kept g (by
    cases hv : v.ownBlock with
    | none => exact .inl rfl
    | some q => exact .inr (fun hq => sep q q hq.symm hv rfl))
structure I7 (wX : World) (wT RT : Nat) (n x1 x2 x3 : Int) (A DA : Option Addr) (c k : Nat) (l : List St) (V : Nat → Option Value) (w : World) : Prop where
  low : Below wX.heap.size wX w
  c0 : ∀ v, V 0 = some v → v = .pointer (some ⟨wT, 0, none⟩)
  c1 : ∀ v, V 1 = some v → v = .int .i64 n
  c3 : ∀ v, V 3 = some v → v = .pointer (some ⟨wT, 1, none⟩)
  c4 : ∀ v, V 4 = some v → v = .slice A l.length c
  c5 : ∀ v, V 5 = some v → v = .int .i64 (k : Int)
  c6 : ∀ v, V 6 = some v → v = .slice A k c
  c8 : ∀ v, V 8 = some v → v = .agg #[.int .i64 x1, .int .i64 x2, .int .i64 x3]
  c11 : ∀ v, V 11 = some v → v = .pointer (some ⟨wT, 1, none⟩)
  c12 : ∀ v, V 12 = some v → v = .slice A l.length c
  c13 : ∀ v, V 13 = some v → v = .int .i64 (k : Int)
  c14 : ∀ v, V 14 = some v → v = .slice DA (l.length - k) (c - k)
  r2 : ∀ v, V 2 = some v → V 7 = none → w.ownsRow wX.heap.size 144 3 v (0) ([])
  r7 : ∀ v, V 7 = some v → V 10 = none → w.ownsRow wX.heap.size 144 3 v (k) (((l.take k).flatMap St.cells))
  r9 : ∀ v, V 9 = some v → V 10 = none → w.ownsRow wX.heap.size 144 3 v (1) ([.int .i64 x1, .int .i64 x2, .int .i64 x3])
  s9 : ∀ v u, V 9 = some v → V 10 = none → (V 2 = some u ∧ V 7 = none) ∨ V 7 = some u → ∀ q q', u.ownBlock = some q → v.ownBlock = some q' → q ≠ q'
  r10 : ∀ v, V 10 = some v → V 15 = none → w.ownsRow wX.heap.size 144 3 v (k + 1) (((l.take k).flatMap St.cells) ++ [.int .i64 x1, .int .i64 x2, .int .i64 x3])
  r15 : ∀ v, V 15 = some v → ∃ A3 c3, v = .slice A3 (k + 1 + (l.length - k)) c3 ∧ w.ownsRow wX.heap.size 144 3 v (k + 1 + (l.length - k)) ((((l.take k).flatMap St.cells) ++ [.int .i64 x1, .int .i64 x2, .int .i64 x3] ++ (l.drop k).flatMap St.cells))
  r16 : ∀ v, V 16 = some v → ∃ x, V 15 = some x ∧ v = .agg #[.int .i64 n, x]
  r17 : ∀ v, V 17 = some v → ∃ R, v = .pointer (some ⟨R, 0, none⟩) ∧ wX.heap.size ≤ R ∧ (V 18 = none → FreshT w R)
  r18 : ∀ v, V 18 = some v → ∃ R x, V 17 = some (.pointer (some ⟨R, 0, none⟩)) ∧ V 15 = some x ∧ w.cell? ⟨R, 0, none⟩ = some (.int .i64 n) ∧ w.cell? ⟨R, 1, none⟩ = some x
/-- What waits for what. -/
structure D7 (V : Nat → Option Value) : Prop where
  d7 : (V 7).isSome = true → (V 2).isSome = true
  d10 : (V 10).isSome = true → (V 7).isSome = true ∧ (V 9).isSome = true
  d15 : (V 15).isSome = true → (V 10).isSome = true
  d16 : (V 16).isSome = true → (V 15).isSome = true
  d18 : (V 18).isSome = true → (V 16).isSome = true ∧ (V 17).isSome = true

theorem i7_0 {wX : World} {wT RT : Nat} {n x1 x2 x3 : Int} {A DA : Option Addr} {c k : Nat} {l : List St} {V : Nat → Option Value} {w : World} (h : I7 wX wT RT n x1 x2 x3 A DA c k l V w) (d : D7 V) (hi : V 0 = none) : I7 wX wT RT n x1 x2 x3 A DA c k l (updV V 0 (.pointer (some ⟨wT, 0, none⟩))) (w) := by
  skip
  exact {
    c0 := (fun u hu => (Option.some.inj ((updV_same _ _ _).symm.trans hu)).symm),
    c1 := (fun u hu => h.c1 u ((updV_ne (by decide)).symm.trans hu)),
    c3 := (fun u hu => h.c3 u ((updV_ne (by decide)).symm.trans hu)),
    c4 := (fun u hu => h.c4 u ((updV_ne (by decide)).symm.trans hu)),
    c5 := (fun u hu => h.c5 u ((updV_ne (by decide)).symm.trans hu)),
    c6 := (fun u hu => h.c6 u ((updV_ne (by decide)).symm.trans hu)),
    c8 := (fun u hu => h.c8 u ((updV_ne (by decide)).symm.trans hu)),
    c11 := (fun u hu => h.c11 u ((updV_ne (by decide)).symm.trans hu)),
    c12 := (fun u hu => h.c12 u ((updV_ne (by decide)).symm.trans hu)),
    c13 := (fun u hu => h.c13 u ((updV_ne (by decide)).symm.trans hu)),
    c14 := (fun u hu => h.c14 u ((updV_ne (by decide)).symm.trans hu)),
    r2 := (fun u hu h7 => h.r2 u ((updV_ne (by decide)).symm.trans hu) ((updV_ne (by decide)).symm.trans h7)),
    r7 := (fun u hu h10 => h.r7 u ((updV_ne (by decide)).symm.trans hu) ((updV_ne (by decide)).symm.trans h10)),
    r9 := (fun u hu h10 => h.r9 u ((updV_ne (by decide)).symm.trans hu) ((updV_ne (by decide)).symm.trans h10)),
    s9 := (fun v u hv h10 hd => h.s9 v u ((updV_ne (by decide)).symm.trans hv) ((updV_ne (by decide)).symm.trans h10) (hd.imp (fun e => ⟨((updV_ne (by decide)).symm.trans e.1), ((updV_ne (by decide)).symm.trans e.2)⟩) (fun e => ((updV_ne (by decide)).symm.trans e)))),
    r10 := (fun u hu h15 => h.r10 u ((updV_ne (by decide)).symm.trans hu) ((updV_ne (by decide)).symm.trans h15)),
    r15 := (fun u hu => h.r15 u ((updV_ne (by decide)).symm.trans hu)),
    r16 := (fun u hu => by obtain ⟨x, hx, e⟩ := h.r16 u ((updV_ne (by decide)).symm.trans hu); exact ⟨x, (updV_ne (by decide)).trans hx, e⟩),
    r17 := (fun u hu => by obtain ⟨R, e, hR, hf⟩ := h.r17 u ((updV_ne (by decide)).symm.trans hu); exact ⟨R, e, hR, fun h18 => hf ((updV_ne (by decide)).symm.trans h18)⟩),
    r18 := (fun u hu => by obtain ⟨R, x, e1, e2, e3, e4⟩ := h.r18 u ((updV_ne (by decide)).symm.trans hu); exact ⟨R, x, (updV_ne (by decide)).trans e1, (updV_ne (by decide)).trans e2, e3, e4⟩),
    low := (h.low) }
theorem i7_1 {wX : World} {wT RT : Nat} {n x1 x2 x3 : Int} {A DA : Option Addr} {c k : Nat} {l : List St} {V : Nat → Option Value} {w : World} (h : I7 wX wT RT n x1 x2 x3 A DA c k l V w) (d : D7 V) (hi : V 1 = none) : I7 wX wT RT n x1 x2 x3 A DA c k l (updV V 1 (.int .i64 n)) (w) := by
  skip
  exact {
    c0 := (fun u hu => h.c0 u ((updV_ne (by decide)).symm.trans hu)),
    c1 := (fun u hu => (Option.some.inj ((updV_same _ _ _).symm.trans hu)).symm),
    c3 := (fun u hu => h.c3 u ((updV_ne (by decide)).symm.trans hu)),
    c4 := (fun u hu => h.c4 u ((updV_ne (by decide)).symm.trans hu)),
    c5 := (fun u hu => h.c5 u ((updV_ne (by decide)).symm.trans hu)),
    c6 := (fun u hu => h.c6 u ((updV_ne (by decide)).symm.trans hu)),
    c8 := (fun u hu => h.c8 u ((updV_ne (by decide)).symm.trans hu)),
    c11 := (fun u hu => h.c11 u ((updV_ne (by decide)).symm.trans hu)),
    c12 := (fun u hu => h.c12 u ((updV_ne (by decide)).symm.trans hu)),
    c13 := (fun u hu => h.c13 u ((updV_ne (by decide)).symm.trans hu)),
    c14 := (fun u hu => h.c14 u ((updV_ne (by decide)).symm.trans hu)),
    r2 := (fun u hu h7 => h.r2 u ((updV_ne (by decide)).symm.trans hu) ((updV_ne (by decide)).symm.trans h7)),
    r7 := (fun u hu h10 => h.r7 u ((updV_ne (by decide)).symm.trans hu) ((updV_ne (by decide)).symm.trans h10)),
    r9 := (fun u hu h10 => h.r9 u ((updV_ne (by decide)).symm.trans hu) ((updV_ne (by decide)).symm.trans h10)),
    s9 := (fun v u hv h10 hd => h.s9 v u ((updV_ne (by decide)).symm.trans hv) ((updV_ne (by decide)).symm.trans h10) (hd.imp (fun e => ⟨((updV_ne (by decide)).symm.trans e.1), ((updV_ne (by decide)).symm.trans e.2)⟩) (fun e => ((updV_ne (by decide)).symm.trans e)))),
    r10 := (fun u hu h15 => h.r10 u ((updV_ne (by decide)).symm.trans hu) ((updV_ne (by decide)).symm.trans h15)),
    r15 := (fun u hu => h.r15 u ((updV_ne (by decide)).symm.trans hu)),
    r16 := (fun u hu => by obtain ⟨x, hx, e⟩ := h.r16 u ((updV_ne (by decide)).symm.trans hu); exact ⟨x, (updV_ne (by decide)).trans hx, e⟩),
    r17 := (fun u hu => by obtain ⟨R, e, hR, hf⟩ := h.r17 u ((updV_ne (by decide)).symm.trans hu); exact ⟨R, e, hR, fun h18 => hf ((updV_ne (by decide)).symm.trans h18)⟩),
    r18 := (fun u hu => by obtain ⟨R, x, e1, e2, e3, e4⟩ := h.r18 u ((updV_ne (by decide)).symm.trans hu); exact ⟨R, x, (updV_ne (by decide)).trans e1, (updV_ne (by decide)).trans e2, e3, e4⟩),
    low := (h.low) }
theorem i7_3 {wX : World} {wT RT : Nat} {n x1 x2 x3 : Int} {A DA : Option Addr} {c k : Nat} {l : List St} {V : Nat → Option Value} {w : World} (h : I7 wX wT RT n x1 x2 x3 A DA c k l V w) (d : D7 V) (hi : V 3 = none) : I7 wX wT RT n x1 x2 x3 A DA c k l (updV V 3 (.pointer (some ⟨wT, 1, none⟩))) (w) := by
  skip
  exact {
    c0 := (fun u hu => h.c0 u ((updV_ne (by decide)).symm.trans hu)),
    c1 := (fun u hu => h.c1 u ((updV_ne (by decide)).symm.trans hu)),
    c3 := (fun u hu => (Option.some.inj ((updV_same _ _ _).symm.trans hu)).symm),
    c4 := (fun u hu => h.c4 u ((updV_ne (by decide)).symm.trans hu)),
    c5 := (fun u hu => h.c5 u ((updV_ne (by decide)).symm.trans hu)),
    c6 := (fun u hu => h.c6 u ((updV_ne (by decide)).symm.trans hu)),
    c8 := (fun u hu => h.c8 u ((updV_ne (by decide)).symm.trans hu)),
    c11 := (fun u hu => h.c11 u ((updV_ne (by decide)).symm.trans hu)),
    c12 := (fun u hu => h.c12 u ((updV_ne (by decide)).symm.trans hu)),
    c13 := (fun u hu => h.c13 u ((updV_ne (by decide)).symm.trans hu)),
    c14 := (fun u hu => h.c14 u ((updV_ne (by decide)).symm.trans hu)),
    r2 := (fun u hu h7 => h.r2 u ((updV_ne (by decide)).symm.trans hu) ((updV_ne (by decide)).symm.trans h7)),
    r7 := (fun u hu h10 => h.r7 u ((updV_ne (by decide)).symm.trans hu) ((updV_ne (by decide)).symm.trans h10)),
    r9 := (fun u hu h10 => h.r9 u ((updV_ne (by decide)).symm.trans hu) ((updV_ne (by decide)).symm.trans h10)),
    s9 := (fun v u hv h10 hd => h.s9 v u ((updV_ne (by decide)).symm.trans hv) ((updV_ne (by decide)).symm.trans h10) (hd.imp (fun e => ⟨((updV_ne (by decide)).symm.trans e.1), ((updV_ne (by decide)).symm.trans e.2)⟩) (fun e => ((updV_ne (by decide)).symm.trans e)))),
    r10 := (fun u hu h15 => h.r10 u ((updV_ne (by decide)).symm.trans hu) ((updV_ne (by decide)).symm.trans h15)),
    r15 := (fun u hu => h.r15 u ((updV_ne (by decide)).symm.trans hu)),
    r16 := (fun u hu => by obtain ⟨x, hx, e⟩ := h.r16 u ((updV_ne (by decide)).symm.trans hu); exact ⟨x, (updV_ne (by decide)).trans hx, e⟩),
    r17 := (fun u hu => by obtain ⟨R, e, hR, hf⟩ := h.r17 u ((updV_ne (by decide)).symm.trans hu); exact ⟨R, e, hR, fun h18 => hf ((updV_ne (by decide)).symm.trans h18)⟩),
    r18 := (fun u hu => by obtain ⟨R, x, e1, e2, e3, e4⟩ := h.r18 u ((updV_ne (by decide)).symm.trans hu); exact ⟨R, x, (updV_ne (by decide)).trans e1, (updV_ne (by decide)).trans e2, e3, e4⟩),
    low := (h.low) }
theorem i7_4 {wX : World} {wT RT : Nat} {n x1 x2 x3 : Int} {A DA : Option Addr} {c k : Nat} {l : List St} {V : Nat → Option Value} {w : World} (h : I7 wX wT RT n x1 x2 x3 A DA c k l V w) (d : D7 V) (hi : V 4 = none) : I7 wX wT RT n x1 x2 x3 A DA c k l (updV V 4 (.slice A l.length c)) (w) := by
  skip
  exact {
    c0 := (fun u hu => h.c0 u ((updV_ne (by decide)).symm.trans hu)),
    c1 := (fun u hu => h.c1 u ((updV_ne (by decide)).symm.trans hu)),
    c3 := (fun u hu => h.c3 u ((updV_ne (by decide)).symm.trans hu)),
    c4 := (fun u hu => (Option.some.inj ((updV_same _ _ _).symm.trans hu)).symm),
    c5 := (fun u hu => h.c5 u ((updV_ne (by decide)).symm.trans hu)),
    c6 := (fun u hu => h.c6 u ((updV_ne (by decide)).symm.trans hu)),
    c8 := (fun u hu => h.c8 u ((updV_ne (by decide)).symm.trans hu)),
    c11 := (fun u hu => h.c11 u ((updV_ne (by decide)).symm.trans hu)),
    c12 := (fun u hu => h.c12 u ((updV_ne (by decide)).symm.trans hu)),
    c13 := (fun u hu => h.c13 u ((updV_ne (by decide)).symm.trans hu)),
    c14 := (fun u hu => h.c14 u ((updV_ne (by decide)).symm.trans hu)),
    r2 := (fun u hu h7 => h.r2 u ((updV_ne (by decide)).symm.trans hu) ((updV_ne (by decide)).symm.trans h7)),
    r7 := (fun u hu h10 => h.r7 u ((updV_ne (by decide)).symm.trans hu) ((updV_ne (by decide)).symm.trans h10)),
    r9 := (fun u hu h10 => h.r9 u ((updV_ne (by decide)).symm.trans hu) ((updV_ne (by decide)).symm.trans h10)),
    s9 := (fun v u hv h10 hd => h.s9 v u ((updV_ne (by decide)).symm.trans hv) ((updV_ne (by decide)).symm.trans h10) (hd.imp (fun e => ⟨((updV_ne (by decide)).symm.trans e.1), ((updV_ne (by decide)).symm.trans e.2)⟩) (fun e => ((updV_ne (by decide)).symm.trans e)))),
    r10 := (fun u hu h15 => h.r10 u ((updV_ne (by decide)).symm.trans hu) ((updV_ne (by decide)).symm.trans h15)),
    r15 := (fun u hu => h.r15 u ((updV_ne (by decide)).symm.trans hu)),
    r16 := (fun u hu => by obtain ⟨x, hx, e⟩ := h.r16 u ((updV_ne (by decide)).symm.trans hu); exact ⟨x, (updV_ne (by decide)).trans hx, e⟩),
    r17 := (fun u hu => by obtain ⟨R, e, hR, hf⟩ := h.r17 u ((updV_ne (by decide)).symm.trans hu); exact ⟨R, e, hR, fun h18 => hf ((updV_ne (by decide)).symm.trans h18)⟩),
    r18 := (fun u hu => by obtain ⟨R, x, e1, e2, e3, e4⟩ := h.r18 u ((updV_ne (by decide)).symm.trans hu); exact ⟨R, x, (updV_ne (by decide)).trans e1, (updV_ne (by decide)).trans e2, e3, e4⟩),
    low := (h.low) }
theorem i7_5 {wX : World} {wT RT : Nat} {n x1 x2 x3 : Int} {A DA : Option Addr} {c k : Nat} {l : List St} {V : Nat → Option Value} {w : World} (h : I7 wX wT RT n x1 x2 x3 A DA c k l V w) (d : D7 V) (hi : V 5 = none) : I7 wX wT RT n x1 x2 x3 A DA c k l (updV V 5 (.int .i64 (k : Int))) (w) := by
  skip
  exact {
    c0 := (fun u hu => h.c0 u ((updV_ne (by decide)).symm.trans hu)),
    c1 := (fun u hu => h.c1 u ((updV_ne (by decide)).symm.trans hu)),
    c3 := (fun u hu => h.c3 u ((updV_ne (by decide)).symm.trans hu)),
    c4 := (fun u hu => h.c4 u ((updV_ne (by decide)).symm.trans hu)),
    c5 := (fun u hu => (Option.some.inj ((updV_same _ _ _).symm.trans hu)).symm),
    c6 := (fun u hu => h.c6 u ((updV_ne (by decide)).symm.trans hu)),
    c8 := (fun u hu => h.c8 u ((updV_ne (by decide)).symm.trans hu)),
    c11 := (fun u hu => h.c11 u ((updV_ne (by decide)).symm.trans hu)),
    c12 := (fun u hu => h.c12 u ((updV_ne (by decide)).symm.trans hu)),
    c13 := (fun u hu => h.c13 u ((updV_ne (by decide)).symm.trans hu)),
    c14 := (fun u hu => h.c14 u ((updV_ne (by decide)).symm.trans hu)),
    r2 := (fun u hu h7 => h.r2 u ((updV_ne (by decide)).symm.trans hu) ((updV_ne (by decide)).symm.trans h7)),
    r7 := (fun u hu h10 => h.r7 u ((updV_ne (by decide)).symm.trans hu) ((updV_ne (by decide)).symm.trans h10)),
    r9 := (fun u hu h10 => h.r9 u ((updV_ne (by decide)).symm.trans hu) ((updV_ne (by decide)).symm.trans h10)),
    s9 := (fun v u hv h10 hd => h.s9 v u ((updV_ne (by decide)).symm.trans hv) ((updV_ne (by decide)).symm.trans h10) (hd.imp (fun e => ⟨((updV_ne (by decide)).symm.trans e.1), ((updV_ne (by decide)).symm.trans e.2)⟩) (fun e => ((updV_ne (by decide)).symm.trans e)))),
    r10 := (fun u hu h15 => h.r10 u ((updV_ne (by decide)).symm.trans hu) ((updV_ne (by decide)).symm.trans h15)),
    r15 := (fun u hu => h.r15 u ((updV_ne (by decide)).symm.trans hu)),
    r16 := (fun u hu => by obtain ⟨x, hx, e⟩ := h.r16 u ((updV_ne (by decide)).symm.trans hu); exact ⟨x, (updV_ne (by decide)).trans hx, e⟩),
    r17 := (fun u hu => by obtain ⟨R, e, hR, hf⟩ := h.r17 u ((updV_ne (by decide)).symm.trans hu); exact ⟨R, e, hR, fun h18 => hf ((updV_ne (by decide)).symm.trans h18)⟩),
    r18 := (fun u hu => by obtain ⟨R, x, e1, e2, e3, e4⟩ := h.r18 u ((updV_ne (by decide)).symm.trans hu); exact ⟨R, x, (updV_ne (by decide)).trans e1, (updV_ne (by decide)).trans e2, e3, e4⟩),
    low := (h.low) }
theorem i7_6 {wX : World} {wT RT : Nat} {n x1 x2 x3 : Int} {A DA : Option Addr} {c k : Nat} {l : List St} {V : Nat → Option Value} {w : World} (h : I7 wX wT RT n x1 x2 x3 A DA c k l V w) (d : D7 V) (hi : V 6 = none) : I7 wX wT RT n x1 x2 x3 A DA c k l (updV V 6 (.slice A k c)) (w) := by
  skip
  exact {
    c0 := (fun u hu => h.c0 u ((updV_ne (by decide)).symm.trans hu)),
    c1 := (fun u hu => h.c1 u ((updV_ne (by decide)).symm.trans hu)),
    c3 := (fun u hu => h.c3 u ((updV_ne (by decide)).symm.trans hu)),
    c4 := (fun u hu => h.c4 u ((updV_ne (by decide)).symm.trans hu)),
    c5 := (fun u hu => h.c5 u ((updV_ne (by decide)).symm.trans hu)),
    c6 := (fun u hu => (Option.some.inj ((updV_same _ _ _).symm.trans hu)).symm),
    c8 := (fun u hu => h.c8 u ((updV_ne (by decide)).symm.trans hu)),
    c11 := (fun u hu => h.c11 u ((updV_ne (by decide)).symm.trans hu)),
    c12 := (fun u hu => h.c12 u ((updV_ne (by decide)).symm.trans hu)),
    c13 := (fun u hu => h.c13 u ((updV_ne (by decide)).symm.trans hu)),
    c14 := (fun u hu => h.c14 u ((updV_ne (by decide)).symm.trans hu)),
    r2 := (fun u hu h7 => h.r2 u ((updV_ne (by decide)).symm.trans hu) ((updV_ne (by decide)).symm.trans h7)),
    r7 := (fun u hu h10 => h.r7 u ((updV_ne (by decide)).symm.trans hu) ((updV_ne (by decide)).symm.trans h10)),
    r9 := (fun u hu h10 => h.r9 u ((updV_ne (by decide)).symm.trans hu) ((updV_ne (by decide)).symm.trans h10)),
    s9 := (fun v u hv h10 hd => h.s9 v u ((updV_ne (by decide)).symm.trans hv) ((updV_ne (by decide)).symm.trans h10) (hd.imp (fun e => ⟨((updV_ne (by decide)).symm.trans e.1), ((updV_ne (by decide)).symm.trans e.2)⟩) (fun e => ((updV_ne (by decide)).symm.trans e)))),
    r10 := (fun u hu h15 => h.r10 u ((updV_ne (by decide)).symm.trans hu) ((updV_ne (by decide)).symm.trans h15)),
    r15 := (fun u hu => h.r15 u ((updV_ne (by decide)).symm.trans hu)),
    r16 := (fun u hu => by obtain ⟨x, hx, e⟩ := h.r16 u ((updV_ne (by decide)).symm.trans hu); exact ⟨x, (updV_ne (by decide)).trans hx, e⟩),
    r17 := (fun u hu => by obtain ⟨R, e, hR, hf⟩ := h.r17 u ((updV_ne (by decide)).symm.trans hu); exact ⟨R, e, hR, fun h18 => hf ((updV_ne (by decide)).symm.trans h18)⟩),
    r18 := (fun u hu => by obtain ⟨R, x, e1, e2, e3, e4⟩ := h.r18 u ((updV_ne (by decide)).symm.trans hu); exact ⟨R, x, (updV_ne (by decide)).trans e1, (updV_ne (by decide)).trans e2, e3, e4⟩),
    low := (h.low) }
theorem i7_8 {wX : World} {wT RT : Nat} {n x1 x2 x3 : Int} {A DA : Option Addr} {c k : Nat} {l : List St} {V : Nat → Option Value} {w : World} (h : I7 wX wT RT n x1 x2 x3 A DA c k l V w) (d : D7 V) (hi : V 8 = none) : I7 wX wT RT n x1 x2 x3 A DA c k l (updV V 8 (.agg #[.int .i64 x1, .int .i64 x2, .int .i64 x3])) (w) := by
  skip
  exact {
    c0 := (fun u hu => h.c0 u ((updV_ne (by decide)).symm.trans hu)),
    c1 := (fun u hu => h.c1 u ((updV_ne (by decide)).symm.trans hu)),
    c3 := (fun u hu => h.c3 u ((updV_ne (by decide)).symm.trans hu)),
    c4 := (fun u hu => h.c4 u ((updV_ne (by decide)).symm.trans hu)),
    c5 := (fun u hu => h.c5 u ((updV_ne (by decide)).symm.trans hu)),
    c6 := (fun u hu => h.c6 u ((updV_ne (by decide)).symm.trans hu)),
    c8 := (fun u hu => (Option.some.inj ((updV_same _ _ _).symm.trans hu)).symm),
    c11 := (fun u hu => h.c11 u ((updV_ne (by decide)).symm.trans hu)),
    c12 := (fun u hu => h.c12 u ((updV_ne (by decide)).symm.trans hu)),
    c13 := (fun u hu => h.c13 u ((updV_ne (by decide)).symm.trans hu)),
    c14 := (fun u hu => h.c14 u ((updV_ne (by decide)).symm.trans hu)),
    r2 := (fun u hu h7 => h.r2 u ((updV_ne (by decide)).symm.trans hu) ((updV_ne (by decide)).symm.trans h7)),
    r7 := (fun u hu h10 => h.r7 u ((updV_ne (by decide)).symm.trans hu) ((updV_ne (by decide)).symm.trans h10)),
    r9 := (fun u hu h10 => h.r9 u ((updV_ne (by decide)).symm.trans hu) ((updV_ne (by decide)).symm.trans h10)),
    s9 := (fun v u hv h10 hd => h.s9 v u ((updV_ne (by decide)).symm.trans hv) ((updV_ne (by decide)).symm.trans h10) (hd.imp (fun e => ⟨((updV_ne (by decide)).symm.trans e.1), ((updV_ne (by decide)).symm.trans e.2)⟩) (fun e => ((updV_ne (by decide)).symm.trans e)))),
    r10 := (fun u hu h15 => h.r10 u ((updV_ne (by decide)).symm.trans hu) ((updV_ne (by decide)).symm.trans h15)),
    r15 := (fun u hu => h.r15 u ((updV_ne (by decide)).symm.trans hu)),
    r16 := (fun u hu => by obtain ⟨x, hx, e⟩ := h.r16 u ((updV_ne (by decide)).symm.trans hu); exact ⟨x, (updV_ne (by decide)).trans hx, e⟩),
    r17 := (fun u hu => by obtain ⟨R, e, hR, hf⟩ := h.r17 u ((updV_ne (by decide)).symm.trans hu); exact ⟨R, e, hR, fun h18 => hf ((updV_ne (by decide)).symm.trans h18)⟩),
    r18 := (fun u hu => by obtain ⟨R, x, e1, e2, e3, e4⟩ := h.r18 u ((updV_ne (by decide)).symm.trans hu); exact ⟨R, x, (updV_ne (by decide)).trans e1, (updV_ne (by decide)).trans e2, e3, e4⟩),
    low := (h.low) }
theorem i7_11 {wX : World} {wT RT : Nat} {n x1 x2 x3 : Int} {A DA : Option Addr} {c k : Nat} {l : List St} {V : Nat → Option Value} {w : World} (h : I7 wX wT RT n x1 x2 x3 A DA c k l V w) (d : D7 V) (hi : V 11 = none) : I7 wX wT RT n x1 x2 x3 A DA c k l (updV V 11 (.pointer (some ⟨wT, 1, none⟩))) (w) := by
  skip
  exact {
    c0 := (fun u hu => h.c0 u ((updV_ne (by decide)).symm.trans hu)),
    c1 := (fun u hu => h.c1 u ((updV_ne (by decide)).symm.trans hu)),
    c3 := (fun u hu => h.c3 u ((updV_ne (by decide)).symm.trans hu)),
    c4 := (fun u hu => h.c4 u ((updV_ne (by decide)).symm.trans hu)),
    c5 := (fun u hu => h.c5 u ((updV_ne (by decide)).symm.trans hu)),
    c6 := (fun u hu => h.c6 u ((updV_ne (by decide)).symm.trans hu)),
    c8 := (fun u hu => h.c8 u ((updV_ne (by decide)).symm.trans hu)),
    c11 := (fun u hu => (Option.some.inj ((updV_same _ _ _).symm.trans hu)).symm),
    c12 := (fun u hu => h.c12 u ((updV_ne (by decide)).symm.trans hu)),
    c13 := (fun u hu => h.c13 u ((updV_ne (by decide)).symm.trans hu)),
    c14 := (fun u hu => h.c14 u ((updV_ne (by decide)).symm.trans hu)),
    r2 := (fun u hu h7 => h.r2 u ((updV_ne (by decide)).symm.trans hu) ((updV_ne (by decide)).symm.trans h7)),
    r7 := (fun u hu h10 => h.r7 u ((updV_ne (by decide)).symm.trans hu) ((updV_ne (by decide)).symm.trans h10)),
    r9 := (fun u hu h10 => h.r9 u ((updV_ne (by decide)).symm.trans hu) ((updV_ne (by decide)).symm.trans h10)),
    s9 := (fun v u hv h10 hd => h.s9 v u ((updV_ne (by decide)).symm.trans hv) ((updV_ne (by decide)).symm.trans h10) (hd.imp (fun e => ⟨((updV_ne (by decide)).symm.trans e.1), ((updV_ne (by decide)).symm.trans e.2)⟩) (fun e => ((updV_ne (by decide)).symm.trans e)))),
    r10 := (fun u hu h15 => h.r10 u ((updV_ne (by decide)).symm.trans hu) ((updV_ne (by decide)).symm.trans h15)),
    r15 := (fun u hu => h.r15 u ((updV_ne (by decide)).symm.trans hu)),
    r16 := (fun u hu => by obtain ⟨x, hx, e⟩ := h.r16 u ((updV_ne (by decide)).symm.trans hu); exact ⟨x, (updV_ne (by decide)).trans hx, e⟩),
    r17 := (fun u hu => by obtain ⟨R, e, hR, hf⟩ := h.r17 u ((updV_ne (by decide)).symm.trans hu); exact ⟨R, e, hR, fun h18 => hf ((updV_ne (by decide)).symm.trans h18)⟩),
    r18 := (fun u hu => by obtain ⟨R, x, e1, e2, e3, e4⟩ := h.r18 u ((updV_ne (by decide)).symm.trans hu); exact ⟨R, x, (updV_ne (by decide)).trans e1, (updV_ne (by decide)).trans e2, e3, e4⟩),
    low := (h.low) }
theorem i7_12 {wX : World} {wT RT : Nat} {n x1 x2 x3 : Int} {A DA : Option Addr} {c k : Nat} {l : List St} {V : Nat → Option Value} {w : World} (h : I7 wX wT RT n x1 x2 x3 A DA c k l V w) (d : D7 V) (hi : V 12 = none) : I7 wX wT RT n x1 x2 x3 A DA c k l (updV V 12 (.slice A l.length c)) (w) := by
  skip
  exact {
    c0 := (fun u hu => h.c0 u ((updV_ne (by decide)).symm.trans hu)),
    c1 := (fun u hu => h.c1 u ((updV_ne (by decide)).symm.trans hu)),
    c3 := (fun u hu => h.c3 u ((updV_ne (by decide)).symm.trans hu)),
    c4 := (fun u hu => h.c4 u ((updV_ne (by decide)).symm.trans hu)),
    c5 := (fun u hu => h.c5 u ((updV_ne (by decide)).symm.trans hu)),
    c6 := (fun u hu => h.c6 u ((updV_ne (by decide)).symm.trans hu)),
    c8 := (fun u hu => h.c8 u ((updV_ne (by decide)).symm.trans hu)),
    c11 := (fun u hu => h.c11 u ((updV_ne (by decide)).symm.trans hu)),
    c12 := (fun u hu => (Option.some.inj ((updV_same _ _ _).symm.trans hu)).symm),
    c13 := (fun u hu => h.c13 u ((updV_ne (by decide)).symm.trans hu)),
    c14 := (fun u hu => h.c14 u ((updV_ne (by decide)).symm.trans hu)),
    r2 := (fun u hu h7 => h.r2 u ((updV_ne (by decide)).symm.trans hu) ((updV_ne (by decide)).symm.trans h7)),
    r7 := (fun u hu h10 => h.r7 u ((updV_ne (by decide)).symm.trans hu) ((updV_ne (by decide)).symm.trans h10)),
    r9 := (fun u hu h10 => h.r9 u ((updV_ne (by decide)).symm.trans hu) ((updV_ne (by decide)).symm.trans h10)),
    s9 := (fun v u hv h10 hd => h.s9 v u ((updV_ne (by decide)).symm.trans hv) ((updV_ne (by decide)).symm.trans h10) (hd.imp (fun e => ⟨((updV_ne (by decide)).symm.trans e.1), ((updV_ne (by decide)).symm.trans e.2)⟩) (fun e => ((updV_ne (by decide)).symm.trans e)))),
    r10 := (fun u hu h15 => h.r10 u ((updV_ne (by decide)).symm.trans hu) ((updV_ne (by decide)).symm.trans h15)),
    r15 := (fun u hu => h.r15 u ((updV_ne (by decide)).symm.trans hu)),
    r16 := (fun u hu => by obtain ⟨x, hx, e⟩ := h.r16 u ((updV_ne (by decide)).symm.trans hu); exact ⟨x, (updV_ne (by decide)).trans hx, e⟩),
    r17 := (fun u hu => by obtain ⟨R, e, hR, hf⟩ := h.r17 u ((updV_ne (by decide)).symm.trans hu); exact ⟨R, e, hR, fun h18 => hf ((updV_ne (by decide)).symm.trans h18)⟩),
    r18 := (fun u hu => by obtain ⟨R, x, e1, e2, e3, e4⟩ := h.r18 u ((updV_ne (by decide)).symm.trans hu); exact ⟨R, x, (updV_ne (by decide)).trans e1, (updV_ne (by decide)).trans e2, e3, e4⟩),
    low := (h.low) }
theorem i7_13 {wX : World} {wT RT : Nat} {n x1 x2 x3 : Int} {A DA : Option Addr} {c k : Nat} {l : List St} {V : Nat → Option Value} {w : World} (h : I7 wX wT RT n x1 x2 x3 A DA c k l V w) (d : D7 V) (hi : V 13 = none) : I7 wX wT RT n x1 x2 x3 A DA c k l (updV V 13 (.int .i64 (k : Int))) (w) := by
  skip
  exact {
    c0 := (fun u hu => h.c0 u ((updV_ne (by decide)).symm.trans hu)),
    c1 := (fun u hu => h.c1 u ((updV_ne (by decide)).symm.trans hu)),
    c3 := (fun u hu => h.c3 u ((updV_ne (by decide)).symm.trans hu)),
    c4 := (fun u hu => h.c4 u ((updV_ne (by decide)).symm.trans hu)),
    c5 := (fun u hu => h.c5 u ((updV_ne (by decide)).symm.trans hu)),
    c6 := (fun u hu => h.c6 u ((updV_ne (by decide)).symm.trans hu)),
    c8 := (fun u hu => h.c8 u ((updV_ne (by decide)).symm.trans hu)),
    c11 := (fun u hu => h.c11 u ((updV_ne (by decide)).symm.trans hu)),
    c12 := (fun u hu => h.c12 u ((updV_ne (by decide)).symm.trans hu)),
    c13 := (fun u hu => (Option.some.inj ((updV_same _ _ _).symm.trans hu)).symm),
    c14 := (fun u hu => h.c14 u ((updV_ne (by decide)).symm.trans hu)),
    r2 := (fun u hu h7 => h.r2 u ((updV_ne (by decide)).symm.trans hu) ((updV_ne (by decide)).symm.trans h7)),
    r7 := (fun u hu h10 => h.r7 u ((updV_ne (by decide)).symm.trans hu) ((updV_ne (by decide)).symm.trans h10)),
    r9 := (fun u hu h10 => h.r9 u ((updV_ne (by decide)).symm.trans hu) ((updV_ne (by decide)).symm.trans h10)),
    s9 := (fun v u hv h10 hd => h.s9 v u ((updV_ne (by decide)).symm.trans hv) ((updV_ne (by decide)).symm.trans h10) (hd.imp (fun e => ⟨((updV_ne (by decide)).symm.trans e.1), ((updV_ne (by decide)).symm.trans e.2)⟩) (fun e => ((updV_ne (by decide)).symm.trans e)))),
    r10 := (fun u hu h15 => h.r10 u ((updV_ne (by decide)).symm.trans hu) ((updV_ne (by decide)).symm.trans h15)),
    r15 := (fun u hu => h.r15 u ((updV_ne (by decide)).symm.trans hu)),
    r16 := (fun u hu => by obtain ⟨x, hx, e⟩ := h.r16 u ((updV_ne (by decide)).symm.trans hu); exact ⟨x, (updV_ne (by decide)).trans hx, e⟩),
    r17 := (fun u hu => by obtain ⟨R, e, hR, hf⟩ := h.r17 u ((updV_ne (by decide)).symm.trans hu); exact ⟨R, e, hR, fun h18 => hf ((updV_ne (by decide)).symm.trans h18)⟩),
    r18 := (fun u hu => by obtain ⟨R, x, e1, e2, e3, e4⟩ := h.r18 u ((updV_ne (by decide)).symm.trans hu); exact ⟨R, x, (updV_ne (by decide)).trans e1, (updV_ne (by decide)).trans e2, e3, e4⟩),
    low := (h.low) }
theorem i7_14 {wX : World} {wT RT : Nat} {n x1 x2 x3 : Int} {A DA : Option Addr} {c k : Nat} {l : List St} {V : Nat → Option Value} {w : World} (h : I7 wX wT RT n x1 x2 x3 A DA c k l V w) (d : D7 V) (hi : V 14 = none) : I7 wX wT RT n x1 x2 x3 A DA c k l (updV V 14 (.slice DA (l.length - k) (c - k))) (w) := by
  skip
  exact {
    c0 := (fun u hu => h.c0 u ((updV_ne (by decide)).symm.trans hu)),
    c1 := (fun u hu => h.c1 u ((updV_ne (by decide)).symm.trans hu)),
    c3 := (fun u hu => h.c3 u ((updV_ne (by decide)).symm.trans hu)),
    c4 := (fun u hu => h.c4 u ((updV_ne (by decide)).symm.trans hu)),
    c5 := (fun u hu => h.c5 u ((updV_ne (by decide)).symm.trans hu)),
    c6 := (fun u hu => h.c6 u ((updV_ne (by decide)).symm.trans hu)),
    c8 := (fun u hu => h.c8 u ((updV_ne (by decide)).symm.trans hu)),
    c11 := (fun u hu => h.c11 u ((updV_ne (by decide)).symm.trans hu)),
    c12 := (fun u hu => h.c12 u ((updV_ne (by decide)).symm.trans hu)),
    c13 := (fun u hu => h.c13 u ((updV_ne (by decide)).symm.trans hu)),
    c14 := (fun u hu => (Option.some.inj ((updV_same _ _ _).symm.trans hu)).symm),
    r2 := (fun u hu h7 => h.r2 u ((updV_ne (by decide)).symm.trans hu) ((updV_ne (by decide)).symm.trans h7)),
    r7 := (fun u hu h10 => h.r7 u ((updV_ne (by decide)).symm.trans hu) ((updV_ne (by decide)).symm.trans h10)),
    r9 := (fun u hu h10 => h.r9 u ((updV_ne (by decide)).symm.trans hu) ((updV_ne (by decide)).symm.trans h10)),
    s9 := (fun v u hv h10 hd => h.s9 v u ((updV_ne (by decide)).symm.trans hv) ((updV_ne (by decide)).symm.trans h10) (hd.imp (fun e => ⟨((updV_ne (by decide)).symm.trans e.1), ((updV_ne (by decide)).symm.trans e.2)⟩) (fun e => ((updV_ne (by decide)).symm.trans e)))),
    r10 := (fun u hu h15 => h.r10 u ((updV_ne (by decide)).symm.trans hu) ((updV_ne (by decide)).symm.trans h15)),
    r15 := (fun u hu => h.r15 u ((updV_ne (by decide)).symm.trans hu)),
    r16 := (fun u hu => by obtain ⟨x, hx, e⟩ := h.r16 u ((updV_ne (by decide)).symm.trans hu); exact ⟨x, (updV_ne (by decide)).trans hx, e⟩),
    r17 := (fun u hu => by obtain ⟨R, e, hR, hf⟩ := h.r17 u ((updV_ne (by decide)).symm.trans hu); exact ⟨R, e, hR, fun h18 => hf ((updV_ne (by decide)).symm.trans h18)⟩),
    r18 := (fun u hu => by obtain ⟨R, x, e1, e2, e3, e4⟩ := h.r18 u ((updV_ne (by decide)).symm.trans hu); exact ⟨R, x, (updV_ne (by decide)).trans e1, (updV_ne (by decide)).trans e2, e3, e4⟩),
    low := (h.low) }
theorem i7_2 {wX : World} {wT RT : Nat} {n x1 x2 x3 : Int} {A DA : Option Addr} {c k : Nat} {l : List St} {V : Nat → Option Value} {w : World} (h : I7 wX wT RT n x1 x2 x3 A DA c k l V w) (d : D7 V) (hi : V 2 = none) : I7 wX wT RT n x1 x2 x3 A DA c k l (updV V 2 (.slice (some ⟨w.heap.size, 0, none⟩) 0 0)) (w.alloc (.cells #[] 144)) := by
  have n7 : V 7 = none := none_of d.d7 hi
  have n10 : V 10 = none := none_of (fun e => (d.d10 e).1) n7
  have n15 : V 15 = none := none_of d.d15 n10
  have n16 : V 16 = none := none_of d.d16 n15
  have n18 : V 18 = none := none_of (fun e => (d.d18 e).1) n16
  exact {
    c0 := (fun u hu => h.c0 u ((updV_ne (by decide)).symm.trans hu)),
    c1 := (fun u hu => h.c1 u ((updV_ne (by decide)).symm.trans hu)),
    c3 := (fun u hu => h.c3 u ((updV_ne (by decide)).symm.trans hu)),
    c4 := (fun u hu => h.c4 u ((updV_ne (by decide)).symm.trans hu)),
    c5 := (fun u hu => h.c5 u ((updV_ne (by decide)).symm.trans hu)),
    c6 := (fun u hu => h.c6 u ((updV_ne (by decide)).symm.trans hu)),
    c8 := (fun u hu => h.c8 u ((updV_ne (by decide)).symm.trans hu)),
    c11 := (fun u hu => h.c11 u ((updV_ne (by decide)).symm.trans hu)),
    c12 := (fun u hu => h.c12 u ((updV_ne (by decide)).symm.trans hu)),
    c13 := (fun u hu => h.c13 u ((updV_ne (by decide)).symm.trans hu)),
    c14 := (fun u hu => h.c14 u ((updV_ne (by decide)).symm.trans hu)),
    r2 := (fun u hu _ => by have e := Option.some.inj ((updV_same _ _ _).symm.trans hu); subst e; exact rowE w _ _ _ rfl h.low.size),
    r7 := (fun u hu _ => no ((updV_ne (by decide)).symm.trans hu) n7),
    r9 := (fun u hu h10 => (h.r9 u ((updV_ne (by decide)).symm.trans hu) ((updV_ne (by decide)).symm.trans h10)).alloc _),
    s9 := (fun v u hv h10 hd q q' eq eq' => by
      have hlt := ((h.r9 v ((updV_ne (by decide)).symm.trans hv) ((updV_ne (by decide)).symm.trans h10)).lt q' eq').2
      rcases hd with ⟨e, _⟩ | e
      · have e := Option.some.inj ((updV_same _ _ _).symm.trans e); subst e; have hq : w.heap.size = q := Option.some.inj eq; omega
      · exact no ((updV_ne (by decide)).symm.trans e) n7),
    r10 := (fun u hu _ => no ((updV_ne (by decide)).symm.trans hu) n10),
    r15 := (fun u hu => no ((updV_ne (by decide)).symm.trans hu) n15),
    r16 := (fun u hu => no ((updV_ne (by decide)).symm.trans hu) n16),
    r17 := (fun u hu => by obtain ⟨R, e, hR, hf⟩ := h.r17 u ((updV_ne (by decide)).symm.trans hu); exact ⟨R, e, hR, fun h18 => fresh_al (hf ((updV_ne (by decide)).symm.trans h18))⟩),
    r18 := (fun u hu => no ((updV_ne (by decide)).symm.trans hu) n18),
    low := (bel_al h.low _) }
theorem i7_9 {wX : World} {wT RT : Nat} {n x1 x2 x3 : Int} {A DA : Option Addr} {c k : Nat} {l : List St} {V : Nat → Option Value} {w : World} (h : I7 wX wT RT n x1 x2 x3 A DA c k l V w) (d : D7 V) (hi : V 9 = none) : I7 wX wT RT n x1 x2 x3 A DA c k l (updV V 9 (.slice (some ⟨w.heap.size, 0, none⟩) 1 1)) (w.alloc (.cells #[.int .i64 x1, .int .i64 x2, .int .i64 x3] 144)) := by
  have n10 : V 10 = none := none_of (fun e => (d.d10 e).2) hi
  have n15 : V 15 = none := none_of d.d15 n10
  have n16 : V 16 = none := none_of d.d16 n15
  have n18 : V 18 = none := none_of (fun e => (d.d18 e).1) n16
  exact {
    c0 := (fun u hu => h.c0 u ((updV_ne (by decide)).symm.trans hu)),
    c1 := (fun u hu => h.c1 u ((updV_ne (by decide)).symm.trans hu)),
    c3 := (fun u hu => h.c3 u ((updV_ne (by decide)).symm.trans hu)),
    c4 := (fun u hu => h.c4 u ((updV_ne (by decide)).symm.trans hu)),
    c5 := (fun u hu => h.c5 u ((updV_ne (by decide)).symm.trans hu)),
    c6 := (fun u hu => h.c6 u ((updV_ne (by decide)).symm.trans hu)),
    c8 := (fun u hu => h.c8 u ((updV_ne (by decide)).symm.trans hu)),
    c11 := (fun u hu => h.c11 u ((updV_ne (by decide)).symm.trans hu)),
    c12 := (fun u hu => h.c12 u ((updV_ne (by decide)).symm.trans hu)),
    c13 := (fun u hu => h.c13 u ((updV_ne (by decide)).symm.trans hu)),
    c14 := (fun u hu => h.c14 u ((updV_ne (by decide)).symm.trans hu)),
    r2 := (fun u hu h7 => (h.r2 u ((updV_ne (by decide)).symm.trans hu) ((updV_ne (by decide)).symm.trans h7)).alloc _),
    r7 := (fun u hu h10 => (h.r7 u ((updV_ne (by decide)).symm.trans hu) ((updV_ne (by decide)).symm.trans h10)).alloc _),
    r9 := (fun u hu _ => by have e := Option.some.inj ((updV_same _ _ _).symm.trans hu); subst e; exact rowS w _ _ _ _ _ _ rfl h.low.size),
    s9 := (fun v u hv h10 hd q q' eq eq' => by
      have e := Option.some.inj ((updV_same _ _ _).symm.trans hv)
      subst e
      have hq : w.heap.size = q' := Option.some.inj eq'
      rcases hd with ⟨e, e7⟩ | e
      · have := ((h.r2 u ((updV_ne (by decide)).symm.trans e) ((updV_ne (by decide)).symm.trans e7)).lt q eq).2; omega
      · have := ((h.r7 u ((updV_ne (by decide)).symm.trans e) n10).lt q eq).2; omega),
    r10 := (fun u hu _ => no ((updV_ne (by decide)).symm.trans hu) n10),
    r15 := (fun u hu => no ((updV_ne (by decide)).symm.trans hu) n15),
    r16 := (fun u hu => no ((updV_ne (by decide)).symm.trans hu) n16),
    r17 := (fun u hu => by obtain ⟨R, e, hR, hf⟩ := h.r17 u ((updV_ne (by decide)).symm.trans hu); exact ⟨R, e, hR, fun h18 => fresh_al (hf ((updV_ne (by decide)).symm.trans h18))⟩),
    r18 := (fun u hu => no ((updV_ne (by decide)).symm.trans hu) n18),
    low := (bel_al h.low _) }
theorem i7_17 {wX : World} {wT RT : Nat} {n x1 x2 x3 : Int} {A DA : Option Addr} {c k : Nat} {l : List St} {V : Nat → Option Value} {w : World} (h : I7 wX wT RT n x1 x2 x3 A DA c k l V w) (d : D7 V) (hi : V 17 = none) : I7 wX wT RT n x1 x2 x3 A DA c k l (updV V 17 (.pointer (some ⟨w.heap.size, 0, none⟩))) (w.alloc (.cells #[.int .i64 0, .slice none 0 0] 47)) := by
  have n18 : V 18 = none := none_of (fun e => (d.d18 e).2) hi
  exact {
    c0 := (fun u hu => h.c0 u ((updV_ne (by decide)).symm.trans hu)),
    c1 := (fun u hu => h.c1 u ((updV_ne (by decide)).symm.trans hu)),
    c3 := (fun u hu => h.c3 u ((updV_ne (by decide)).symm.trans hu)),
    c4 := (fun u hu => h.c4 u ((updV_ne (by decide)).symm.trans hu)),
    c5 := (fun u hu => h.c5 u ((updV_ne (by decide)).symm.trans hu)),
    c6 := (fun u hu => h.c6 u ((updV_ne (by decide)).symm.trans hu)),
    c8 := (fun u hu => h.c8 u ((updV_ne (by decide)).symm.trans hu)),
    c11 := (fun u hu => h.c11 u ((updV_ne (by decide)).symm.trans hu)),
    c12 := (fun u hu => h.c12 u ((updV_ne (by decide)).symm.trans hu)),
    c13 := (fun u hu => h.c13 u ((updV_ne (by decide)).symm.trans hu)),
    c14 := (fun u hu => h.c14 u ((updV_ne (by decide)).symm.trans hu)),
    r2 := (fun u hu h7 => (h.r2 u ((updV_ne (by decide)).symm.trans hu) ((updV_ne (by decide)).symm.trans h7)).alloc _),
    r7 := (fun u hu h10 => (h.r7 u ((updV_ne (by decide)).symm.trans hu) ((updV_ne (by decide)).symm.trans h10)).alloc _),
    r9 := (fun u hu h10 => (h.r9 u ((updV_ne (by decide)).symm.trans hu) ((updV_ne (by decide)).symm.trans h10)).alloc _),
    s9 := (fun v u hv h10 hd => h.s9 v u ((updV_ne (by decide)).symm.trans hv) ((updV_ne (by decide)).symm.trans h10) (hd.imp (fun e => ⟨((updV_ne (by decide)).symm.trans e.1), ((updV_ne (by decide)).symm.trans e.2)⟩) (fun e => ((updV_ne (by decide)).symm.trans e)))),
    r10 := (fun u hu h15 => (h.r10 u ((updV_ne (by decide)).symm.trans hu) ((updV_ne (by decide)).symm.trans h15)).alloc _),
    r15 := (fun u hu => by obtain ⟨A3, c3, e, ho⟩ := h.r15 u ((updV_ne (by decide)).symm.trans hu); exact ⟨A3, c3, e, ho.alloc _⟩),
    r16 := (fun u hu => by obtain ⟨x, hx, e⟩ := h.r16 u ((updV_ne (by decide)).symm.trans hu); exact ⟨x, (updV_ne (by decide)).trans hx, e⟩),
    r17 := (fun u hu => by have e := Option.some.inj ((updV_same _ _ _).symm.trans hu); subst e; exact ⟨_, rfl, h.low.size, fun _ => fresh_new w _ rfl⟩),
    r18 := (fun u hu => no ((updV_ne (by decide)).symm.trans hu) n18),
    low := (bel_al h.low _) }
theorem i7_16 {wX : World} {wT RT : Nat} {n x1 x2 x3 : Int} {A DA : Option Addr} {c k : Nat} {l : List St} {V : Nat → Option Value} {w : World} (h : I7 wX wT RT n x1 x2 x3 A DA c k l V w) (d : D7 V) (hi : V 16 = none) (x : Value) (hx : V 15 = some x) : I7 wX wT RT n x1 x2 x3 A DA c k l (updV V 16 (.agg #[.int .i64 n, x])) (w) := by
  have n18 : V 18 = none := none_of (fun e => (d.d18 e).1) hi
  exact {
    c0 := (fun u hu => h.c0 u ((updV_ne (by decide)).symm.trans hu)),
    c1 := (fun u hu => h.c1 u ((updV_ne (by decide)).symm.trans hu)),
    c3 := (fun u hu => h.c3 u ((updV_ne (by decide)).symm.trans hu)),
    c4 := (fun u hu => h.c4 u ((updV_ne (by decide)).symm.trans hu)),
    c5 := (fun u hu => h.c5 u ((updV_ne (by decide)).symm.trans hu)),
    c6 := (fun u hu => h.c6 u ((updV_ne (by decide)).symm.trans hu)),
    c8 := (fun u hu => h.c8 u ((updV_ne (by decide)).symm.trans hu)),
    c11 := (fun u hu => h.c11 u ((updV_ne (by decide)).symm.trans hu)),
    c12 := (fun u hu => h.c12 u ((updV_ne (by decide)).symm.trans hu)),
    c13 := (fun u hu => h.c13 u ((updV_ne (by decide)).symm.trans hu)),
    c14 := (fun u hu => h.c14 u ((updV_ne (by decide)).symm.trans hu)),
    r2 := (fun u hu h7 => h.r2 u ((updV_ne (by decide)).symm.trans hu) ((updV_ne (by decide)).symm.trans h7)),
    r7 := (fun u hu h10 => h.r7 u ((updV_ne (by decide)).symm.trans hu) ((updV_ne (by decide)).symm.trans h10)),
    r9 := (fun u hu h10 => h.r9 u ((updV_ne (by decide)).symm.trans hu) ((updV_ne (by decide)).symm.trans h10)),
    s9 := (fun v u hv h10 hd => h.s9 v u ((updV_ne (by decide)).symm.trans hv) ((updV_ne (by decide)).symm.trans h10) (hd.imp (fun e => ⟨((updV_ne (by decide)).symm.trans e.1), ((updV_ne (by decide)).symm.trans e.2)⟩) (fun e => ((updV_ne (by decide)).symm.trans e)))),
    r10 := (fun u hu h15 => h.r10 u ((updV_ne (by decide)).symm.trans hu) ((updV_ne (by decide)).symm.trans h15)),
    r15 := (fun u hu => h.r15 u ((updV_ne (by decide)).symm.trans hu)),
    r16 := (fun u hu => ⟨x, (updV_ne (by decide)).trans hx, (Option.some.inj ((updV_same _ _ _).symm.trans hu)).symm⟩),
    r17 := (fun u hu => by obtain ⟨R, e, hR, hf⟩ := h.r17 u ((updV_ne (by decide)).symm.trans hu); exact ⟨R, e, hR, fun h18 => hf ((updV_ne (by decide)).symm.trans h18)⟩),
    r18 := (fun u hu => no ((updV_ne (by decide)).symm.trans hu) n18),
    low := (h.low) }
theorem i7_7 {wX : World} {wT RT : Nat} {n x1 x2 x3 : Int} {A DA : Option Addr} {c k : Nat} {l : List St} {V : Nat → Option Value} {w : World} (h : I7 wX wT RT n x1 x2 x3 A DA c k l V w) (d : D7 V) (hi : V 7 = none) (u0 : Value) (h0 : V 2 = some u0) (v1 : Value) (w1 : World) (ho : w1.ownsRow wX.heap.size 144 3 v1 (k) (((l.take k).flatMap St.cells))) (hg : w.grownBy w1 u0.ownBlock) (he : v1.ownBlock = u0.ownBlock ∨ v1.ownBlock = some w.heap.size) : I7 wX wT RT n x1 x2 x3 A DA c k l (updV V 7 (v1)) (w1) := by
  have hown := h.r2 u0 h0 hi
  have n10 : V 10 = none := none_of (fun e => (d.d10 e).1) hi
  have n15 : V 15 = none := none_of d.d15 n10
  have n16 : V 16 = none := none_of d.d16 n15
  have n18 : V 18 = none := none_of (fun e => (d.d18 e).1) n16
  exact {
    c0 := (fun u hu => h.c0 u ((updV_ne (by decide)).symm.trans hu)),
    c1 := (fun u hu => h.c1 u ((updV_ne (by decide)).symm.trans hu)),
    c3 := (fun u hu => h.c3 u ((updV_ne (by decide)).symm.trans hu)),
    c4 := (fun u hu => h.c4 u ((updV_ne (by decide)).symm.trans hu)),
    c5 := (fun u hu => h.c5 u ((updV_ne (by decide)).symm.trans hu)),
    c6 := (fun u hu => h.c6 u ((updV_ne (by decide)).symm.trans hu)),
    c8 := (fun u hu => h.c8 u ((updV_ne (by decide)).symm.trans hu)),
    c11 := (fun u hu => h.c11 u ((updV_ne (by decide)).symm.trans hu)),
    c12 := (fun u hu => h.c12 u ((updV_ne (by decide)).symm.trans hu)),
    c13 := (fun u hu => h.c13 u ((updV_ne (by decide)).symm.trans hu)),
    c14 := (fun u hu => h.c14 u ((updV_ne (by decide)).symm.trans hu)),
    r2 := (fun u hu h7 => no (updV_same _ _ _) h7),
    r7 := (fun u hu _ => by have e := Option.some.inj ((updV_same _ _ _).symm.trans hu); subst e; exact ho),
    r9 := (fun u hu h10 => Sep2.kept (h.r9 u ((updV_ne (by decide)).symm.trans hu) ((updV_ne (by decide)).symm.trans h10)) hg (h.s9 u u0 ((updV_ne (by decide)).symm.trans hu) ((updV_ne (by decide)).symm.trans h10) (.inl ⟨h0, hi⟩))),
    s9 := (fun v u hv h10 hd q q' eq eq' => by
      have hlt := ((h.r9 v ((updV_ne (by decide)).symm.trans hv) ((updV_ne (by decide)).symm.trans h10)).lt q' eq').2
      rcases hd with ⟨_, e⟩ | e
      · exact no (updV_same _ _ _) e
      · have e := Option.some.inj ((updV_same _ _ _).symm.trans e)
        subst e
        rcases he with he | he
        · exact h.s9 v u0 ((updV_ne (by decide)).symm.trans hv) ((updV_ne (by decide)).symm.trans h10) (.inl ⟨h0, hi⟩) q q' (he.symm.trans eq) eq'
        · have := Option.some.inj (he.symm.trans eq); omega),
    r10 := (fun u hu _ => no ((updV_ne (by decide)).symm.trans hu) n10),
    r15 := (fun u hu => no ((updV_ne (by decide)).symm.trans hu) n15),
    r16 := (fun u hu => no ((updV_ne (by decide)).symm.trans hu) n16),
    r17 := (fun u hu => by obtain ⟨R, e, hR, hf⟩ := h.r17 u ((updV_ne (by decide)).symm.trans hu); exact ⟨R, e, hR, fun h18 => fresh_app2 (hf ((updV_ne (by decide)).symm.trans h18)) hown hg⟩),
    r18 := (fun u hu => no ((updV_ne (by decide)).symm.trans hu) n18),
    low := (bel_grown h.low hg (fun q e => (hown.lt q e).1)) }
theorem i7_10 {wX : World} {wT RT : Nat} {n x1 x2 x3 : Int} {A DA : Option Addr} {c k : Nat} {l : List St} {V : Nat → Option Value} {w : World} (h : I7 wX wT RT n x1 x2 x3 A DA c k l V w) (d : D7 V) (hi : V 10 = none) (u0 : Value) (h0 : V 7 = some u0) (v1 : Value) (w1 : World) (ho : w1.ownsRow wX.heap.size 144 3 v1 (k + 1) (((l.take k).flatMap St.cells) ++ [.int .i64 x1, .int .i64 x2, .int .i64 x3])) (hg : w.grownBy w1 u0.ownBlock) (he : v1.ownBlock = u0.ownBlock ∨ v1.ownBlock = some w.heap.size) : I7 wX wT RT n x1 x2 x3 A DA c k l (updV V 10 (v1)) (w1) := by
  have hown := h.r7 u0 h0 hi
  have n15 : V 15 = none := none_of d.d15 hi
  have n16 : V 16 = none := none_of d.d16 n15
  have n18 : V 18 = none := none_of (fun e => (d.d18 e).1) n16
  exact {
    c0 := (fun u hu => h.c0 u ((updV_ne (by decide)).symm.trans hu)),
    c1 := (fun u hu => h.c1 u ((updV_ne (by decide)).symm.trans hu)),
    c3 := (fun u hu => h.c3 u ((updV_ne (by decide)).symm.trans hu)),
    c4 := (fun u hu => h.c4 u ((updV_ne (by decide)).symm.trans hu)),
    c5 := (fun u hu => h.c5 u ((updV_ne (by decide)).symm.trans hu)),
    c6 := (fun u hu => h.c6 u ((updV_ne (by decide)).symm.trans hu)),
    c8 := (fun u hu => h.c8 u ((updV_ne (by decide)).symm.trans hu)),
    c11 := (fun u hu => h.c11 u ((updV_ne (by decide)).symm.trans hu)),
    c12 := (fun u hu => h.c12 u ((updV_ne (by decide)).symm.trans hu)),
    c13 := (fun u hu => h.c13 u ((updV_ne (by decide)).symm.trans hu)),
    c14 := (fun u hu => h.c14 u ((updV_ne (by decide)).symm.trans hu)),
    r2 := (fun u hu h7 => no h0 ((updV_ne (by decide)).symm.trans h7)),
    r7 := (fun u hu h10 => no (updV_same _ _ _) h10),
    r9 := (fun u hu h10 => no (updV_same _ _ _) h10),
    s9 := (fun v u hv h10 => no (updV_same _ _ _) h10),
    r10 := (fun u hu _ => by have e := Option.some.inj ((updV_same _ _ _).symm.trans hu); subst e; exact ho),
    r15 := (fun u hu => no ((updV_ne (by decide)).symm.trans hu) n15),
    r16 := (fun u hu => no ((updV_ne (by decide)).symm.trans hu) n16),
    r17 := (fun u hu => by obtain ⟨R, e, hR, hf⟩ := h.r17 u ((updV_ne (by decide)).symm.trans hu); exact ⟨R, e, hR, fun h18 => fresh_app2 (hf ((updV_ne (by decide)).symm.trans h18)) hown hg⟩),
    r18 := (fun u hu => no ((updV_ne (by decide)).symm.trans hu) n18),
    low := (bel_grown h.low hg (fun q e => (hown.lt q e).1)) }
theorem i7_15 {wX : World} {wT RT : Nat} {n x1 x2 x3 : Int} {A DA : Option Addr} {c k : Nat} {l : List St} {V : Nat → Option Value} {w : World} (h : I7 wX wT RT n x1 x2 x3 A DA c k l V w) (d : D7 V) (hi : V 15 = none) (u0 : Value) (h0 : V 10 = some u0) (v1 : Value) (w1 : World) (ho : w1.ownsRow wX.heap.size 144 3 v1 (k + 1 + (l.length - k)) ((((l.take k).flatMap St.cells) ++ [.int .i64 x1, .int .i64 x2, .int .i64 x3] ++ (l.drop k).flatMap St.cells))) (hg : w.grownBy w1 u0.ownBlock) (he : v1.ownBlock = u0.ownBlock ∨ v1.ownBlock = some w.heap.size) (h7 : (V 7).isSome = true) : I7 wX wT RT n x1 x2 x3 A DA c k l (updV V 15 (v1)) (w1) := by
  have hown := h.r10 u0 h0 hi
  have n16 : V 16 = none := none_of d.d16 hi
  have n18 : V 18 = none := none_of (fun e => (d.d18 e).1) n16
  obtain ⟨A3, c3, hv3, -⟩ := own_rd ho
  exact {
    c0 := (fun u hu => h.c0 u ((updV_ne (by decide)).symm.trans hu)),
    c1 := (fun u hu => h.c1 u ((updV_ne (by decide)).symm.trans hu)),
    c3 := (fun u hu => h.c3 u ((updV_ne (by decide)).symm.trans hu)),
    c4 := (fun u hu => h.c4 u ((updV_ne (by decide)).symm.trans hu)),
    c5 := (fun u hu => h.c5 u ((updV_ne (by decide)).symm.trans hu)),
    c6 := (fun u hu => h.c6 u ((updV_ne (by decide)).symm.trans hu)),
    c8 := (fun u hu => h.c8 u ((updV_ne (by decide)).symm.trans hu)),
    c11 := (fun u hu => h.c11 u ((updV_ne (by decide)).symm.trans hu)),
    c12 := (fun u hu => h.c12 u ((updV_ne (by decide)).symm.trans hu)),
    c13 := (fun u hu => h.c13 u ((updV_ne (by decide)).symm.trans hu)),
    c14 := (fun u hu => h.c14 u ((updV_ne (by decide)).symm.trans hu)),
    r2 := (fun u hu h7n => by have h7n := ((updV_ne (by decide)).symm.trans h7n); rw [h7n] at h7; cases h7),
    r7 := (fun u hu h10 => no h0 ((updV_ne (by decide)).symm.trans h10)),
    r9 := (fun u hu h10 => no h0 ((updV_ne (by decide)).symm.trans h10)),
    s9 := (fun v u hv h10 => no h0 ((updV_ne (by decide)).symm.trans h10)),
    r10 := (fun u hu h15 => no (updV_same _ _ _) h15),
    r15 := (fun u hu => by have e := Option.some.inj ((updV_same _ _ _).symm.trans hu); subst e; exact ⟨A3, c3, hv3, ho⟩),
    r16 := (fun u hu => no ((updV_ne (by decide)).symm.trans hu) n16),
    r17 := (fun u hu => by obtain ⟨R, e, hR, hf⟩ := h.r17 u ((updV_ne (by decide)).symm.trans hu); exact ⟨R, e, hR, fun h18 => fresh_app2 (hf ((updV_ne (by decide)).symm.trans h18)) hown hg⟩),
    r18 := (fun u hu => no ((updV_ne (by decide)).symm.trans hu) n18),
    low := (bel_grown h.low hg (fun q e => (hown.lt q e).1)) }
theorem i7_18 {wX : World} {wT RT : Nat} {n x1 x2 x3 : Int} {A DA : Option Addr} {c k : Nat} {l : List St} {V : Nat → Option Value} {w : World} (h : I7 wX wT RT n x1 x2 x3 A DA c k l V w) (d : D7 V) (hi : V 18 = none) (R : Nat) (x : Value) (h17 : V 17 = some (.pointer (some ⟨R, 0, none⟩))) (hx : V 15 = some x) (h10 : (V 10).isSome = true) (h7 : (V 7).isSome = true) : I7 wX wT RT n x1 x2 x3 A DA c k l (updV V 18 (undef)) ((w.setCell ⟨R, 0, none⟩ (.int .i64 n)).setCell ⟨R, 1, none⟩ x) := by
  obtain ⟨R', eR, hR, hf⟩ := h.r17 _ h17
  injection eR with eR; injection eR with eR; injection eR with eR; subst eR
  have hf := hf hi
  obtain ⟨A3, c3, hv3, hown⟩ := h.r15 x hx
  have z0 := fresh_c0 hf
  have z1 := fresh_c1 hf
  have hg : w.grownBy ((w.setCell ⟨R, 0, none⟩ (.int .i64 n)).setCell ⟨R, 1, none⟩ x) (some R) := only_setCell (only_setCell (World.grownBy.refl _ _) 0 _) 1 _
  exact {
    c0 := (fun u hu => h.c0 u ((updV_ne (by decide)).symm.trans hu)),
    c1 := (fun u hu => h.c1 u ((updV_ne (by decide)).symm.trans hu)),
    c3 := (fun u hu => h.c3 u ((updV_ne (by decide)).symm.trans hu)),
    c4 := (fun u hu => h.c4 u ((updV_ne (by decide)).symm.trans hu)),
    c5 := (fun u hu => h.c5 u ((updV_ne (by decide)).symm.trans hu)),
    c6 := (fun u hu => h.c6 u ((updV_ne (by decide)).symm.trans hu)),
    c8 := (fun u hu => h.c8 u ((updV_ne (by decide)).symm.trans hu)),
    c11 := (fun u hu => h.c11 u ((updV_ne (by decide)).symm.trans hu)),
    c12 := (fun u hu => h.c12 u ((updV_ne (by decide)).symm.trans hu)),
    c13 := (fun u hu => h.c13 u ((updV_ne (by decide)).symm.trans hu)),
    c14 := (fun u hu => h.c14 u ((updV_ne (by decide)).symm.trans hu)),
    r2 := (fun u hu h7n => by have h7n := ((updV_ne (by decide)).symm.trans h7n); rw [h7n] at h7; cases h7),
    r7 := (fun u hu h10n => by have h10n := ((updV_ne (by decide)).symm.trans h10n); rw [h10n] at h10; cases h10),
    r9 := (fun u hu h10n => by have h10n := ((updV_ne (by decide)).symm.trans h10n); rw [h10n] at h10; cases h10),
    s9 := (fun v u hv h10n => by have h10n := ((updV_ne (by decide)).symm.trans h10n); rw [h10n] at h10; cases h10),
    r10 := (fun u hu h15 => no hx ((updV_ne (by decide)).symm.trans h15)),
    r15 := (fun u hu => by obtain ⟨A4, c4, e, ho⟩ := h.r15 u ((updV_ne (by decide)).symm.trans hu); exact ⟨A4, c4, e, own_farR (own_farR ho (fresh_ne hf ho) 0 _) (fresh_ne hf ho) 1 _⟩),
    r16 := (fun u hu => by obtain ⟨x, hx, e⟩ := h.r16 u ((updV_ne (by decide)).symm.trans hu); exact ⟨x, (updV_ne (by decide)).trans hx, e⟩),
    r17 := (fun u hu => by obtain ⟨R2, e, hR2, _⟩ := h.r17 u ((updV_ne (by decide)).symm.trans hu); exact ⟨R2, e, hR2, fun h18 => no (updV_same _ _ _) h18⟩),
    r18 := (fun u hu => ⟨R, x, (updV_ne (by decide)).trans h17, (updV_ne (by decide)).trans hx, by simp [go_sem, z0], by simp [go_sem, z1]⟩),
    low := (bel_grown h.low hg (fun q e => by have := Option.some.inj e; omega)) }
theorem below_c {wX w : World} {b o : Nat} {v : Value} (h : Below wX.heap.size wX w) (hb : b < wX.heap.size) (hc : wX.cell? ⟨b, o, none⟩ = some v) : w.cell? ⟨b, o, none⟩ = some v := (h.cell (p := ⟨b, o, none⟩) hb).trans hc
set_option maxRecDepth 100000 in
theorem op7_0 {wX : World} {wT RT : Nat} {n x1 x2 x3 : Int} {A DA : Option Addr} {c k : Nat} {l : List St} {V : Nat → Option Value} {w : World} {a : Act} {K : Act → World → Prop} {Q : Exit → Act → World → Prop} {ty : TypeId} {pp : String} {af : Array Edge} {gg : Option (Nat × Bool)} (h : I7 wX wT RT n x1 x2 x3 A DA c k l V w) (d : D7 V) (hi : V 0 = none) (E2 : a.eval (.tmp 2) = .pointer (some ⟨wT, 0, none⟩)) (hK : ∀ v w', I7 wX wT RT n x1 x2 x3 A DA c k l (updV V 0 v) w' → K (a.put (some 58) v) w') : Oper.wp Tryz.prog { dst := some 58, op := .fieldAddr 47 (.tmp 2) 0, type := ty, pos := pp, after := af, guard := gg } a w K Q := by
  unfold Oper.wp execOp
  simp only [E2]
  go_simp
  exact hK _ _ (i7_0 h d hi)
set_option maxRecDepth 100000 in
theorem op7_1 {wX : World} {wT RT : Nat} {n x1 x2 x3 : Int} {A DA : Option Addr} {c k : Nat} {l : List St} {V : Nat → Option Value} {w : World} {a : Act} {K : Act → World → Prop} {Q : Exit → Act → World → Prop} {ty : TypeId} {pp : String} {af : Array Edge} {gg : Option (Nat × Bool)} (h : I7 wX wT RT n x1 x2 x3 A DA c k l V w) (d : D7 V) (hi : V 1 = none) (E58 : ∀ v, V 0 = some v → a.eval (.tmp 58) = v) (p0 : (V 0).isSome = true) (hT : wT < wX.heap.size) (t0 : wX.cell? ⟨wT, 0, none⟩ = some (.int .i64 n)) (t1 : wX.cell? ⟨wT, 1, none⟩ = some (.slice A l.length c)) (hK : ∀ v w', I7 wX wT RT n x1 x2 x3 A DA c k l (updV V 1 v) w' → K (a.put (some 59) v) w') : Oper.wp Tryz.prog { dst := some 59, op := .load 3 (.tmp 58), type := ty, pos := pp, after := af, guard := gg } a w K Q := by
  obtain ⟨v0, hv0⟩ := some_of p0
  have e58 := E58 v0 hv0
  rw [h.c0 v0 hv0] at e58
  have c0 := below_c h.low hT t0
  unfold Oper.wp execOp
  simp only [e58]
  go_simp
  exact hK _ _ (i7_1 h d hi)
set_option maxRecDepth 100000 in
theorem op7_2 {wX : World} {wT RT : Nat} {n x1 x2 x3 : Int} {A DA : Option Addr} {c k : Nat} {l : List St} {V : Nat → Option Value} {w : World} {a : Act} {K : Act → World → Prop} {Q : Exit → Act → World → Prop} {ty : TypeId} {pp : String} {af : Array Edge} {gg : Option (Nat × Bool)} (h : I7 wX wT RT n x1 x2 x3 A DA c k l V w) (d : D7 V) (hi : V 2 = none) (hK : ∀ v w', I7 wX wT RT n x1 x2 x3 A DA c k l (updV V 2 v) w' → K (a.put (some 60) v) w') : Oper.wp Tryz.prog { dst := some 60, op := .buildSlice 45 0 #[], type := ty, pos := pp, after := af, guard := gg } a w K Q := by
  unfold Oper.wp execOp
  go_simp
  exact hK _ _ (i7_2 h d hi)
set_option maxRecDepth 100000 in
theorem op7_3 {wX : World} {wT RT : Nat} {n x1 x2 x3 : Int} {A DA : Option Addr} {c k : Nat} {l : List St} {V : Nat → Option Value} {w : World} {a : Act} {K : Act → World → Prop} {Q : Exit → Act → World → Prop} {ty : TypeId} {pp : String} {af : Array Edge} {gg : Option (Nat × Bool)} (h : I7 wX wT RT n x1 x2 x3 A DA c k l V w) (d : D7 V) (hi : V 3 = none) (E2 : a.eval (.tmp 2) = .pointer (some ⟨wT, 0, none⟩)) (hK : ∀ v w', I7 wX wT RT n x1 x2 x3 A DA c k l (updV V 3 v) w' → K (a.put (some 61) v) w') : Oper.wp Tryz.prog { dst := some 61, op := .fieldAddr 47 (.tmp 2) 1, type := ty, pos := pp, after := af, guard := gg } a w K Q := by
  unfold Oper.wp execOp
  simp only [E2]
  go_simp
  exact hK _ _ (i7_3 h d hi)
set_option maxRecDepth 100000 in
theorem op7_4 {wX : World} {wT RT : Nat} {n x1 x2 x3 : Int} {A DA : Option Addr} {c k : Nat} {l : List St} {V : Nat → Option Value} {w : World} {a : Act} {K : Act → World → Prop} {Q : Exit → Act → World → Prop} {ty : TypeId} {pp : String} {af : Array Edge} {gg : Option (Nat × Bool)} (h : I7 wX wT RT n x1 x2 x3 A DA c k l V w) (d : D7 V) (hi : V 4 = none) (E61 : ∀ v, V 3 = some v → a.eval (.tmp 61) = v) (p3 : (V 3).isSome = true) (hT : wT < wX.heap.size) (t0 : wX.cell? ⟨wT, 0, none⟩ = some (.int .i64 n)) (t1 : wX.cell? ⟨wT, 1, none⟩ = some (.slice A l.length c)) (hK : ∀ v w', I7 wX wT RT n x1 x2 x3 A DA c k l (updV V 4 v) w' → K (a.put (some 62) v) w') : Oper.wp Tryz.prog { dst := some 62, op := .load 45 (.tmp 61), type := ty, pos := pp, after := af, guard := gg } a w K Q := by
  obtain ⟨v3, hv3⟩ := some_of p3
  have e61 := E61 v3 hv3
  rw [h.c3 v3 hv3] at e61
  have c0 := below_c h.low hT t1
  unfold Oper.wp execOp
  simp only [e61]
  go_simp
  exact hK _ _ (i7_4 h d hi)
set_option maxRecDepth 100000 in
theorem op7_5 {wX : World} {wT RT : Nat} {n x1 x2 x3 : Int} {A DA : Option Addr} {c k : Nat} {l : List St} {V : Nat → Option Value} {w : World} {a : Act} {K : Act → World → Prop} {Q : Exit → Act → World → Prop} {ty : TypeId} {pp : String} {af : Array Edge} {gg : Option (Nat × Bool)} (h : I7 wX wT RT n x1 x2 x3 A DA c k l V w) (d : D7 V) (hi : V 5 = none) (E7 : a.eval (.tmp 7) = .int .i64 (k : Int)) (hK : ∀ v w', I7 wX wT RT n x1 x2 x3 A DA c k l (updV V 5 v) w' → K (a.put (some 63) v) w') : Oper.wp Tryz.prog { dst := some 63, op := .move (.tmp 7), type := ty, pos := pp, after := af, guard := gg } a w K Q := by
  unfold Oper.wp execOp
  simp only [E7]
  go_simp
  exact hK _ _ (i7_5 h d hi)
set_option maxRecDepth 100000 in
theorem op7_6 {wX : World} {wT RT : Nat} {n x1 x2 x3 : Int} {A DA : Option Addr} {c k : Nat} {l : List St} {V : Nat → Option Value} {w : World} {a : Act} {K : Act → World → Prop} {Q : Exit → Act → World → Prop} {ty : TypeId} {pp : String} {af : Array Edge} {gg : Option (Nat × Bool)} (h : I7 wX wT RT n x1 x2 x3 A DA c k l V w) (d : D7 V) (hi : V 6 = none) (E62 : ∀ v, V 4 = some v → a.eval (.tmp 62) = v) (E63 : ∀ v, V 5 = some v → a.eval (.tmp 63) = v) (p4 : (V 4).isSome = true) (p5 : (V 5).isSome = true) (hk : k ≤ l.length) (hc : l.length ≤ c) (hl : l.length ≤ 40) (hK : ∀ v w', I7 wX wT RT n x1 x2 x3 A DA c k l (updV V 6 v) w' → K (a.put (some 64) v) w') : Oper.wp Tryz.prog { dst := some 64, op := .slice 45 (.tmp 62) none (some (.tmp 63)) none, type := ty, pos := pp, after := af, guard := gg } a w K Q := by
  obtain ⟨v4, hv4⟩ := some_of p4
  have e62 := E62 v4 hv4
  rw [h.c4 v4 hv4] at e62
  obtain ⟨v5, hv5⟩ := some_of p5
  have e63 := E63 v5 hv5
  rw [h.c5 v5 hv5] at e63
  have q0 : (0 : Int) ≤ (k : Int) := by omega
  have q1 : (k : Int) ≤ (l.length : Int) := by omega
  have q2 : (k : Int) ≤ (c : Int) := by omega
  unfold Oper.wp execOp
  simp only [Option.map_none, Option.map_some, e62, e63]
  cases A
  · go_simp
    exact hK _ _ (i7_6 h d hi)
  · go_simp
    exact hK _ _ (i7_6 h d hi)
set_option maxRecDepth 100000 in
theorem op7_7 {wX : World} {wT RT : Nat} {n x1 x2 x3 : Int} {A DA : Option Addr} {c k : Nat} {l : List St} {V : Nat → Option Value} {w : World} {a : Act} {K : Act → World → Prop} {Q : Exit → Act → World → Prop} {ty : TypeId} {pp : String} {af : Array Edge} {gg : Option (Nat × Bool)} (h : I7 wX wT RT n x1 x2 x3 A DA c k l V w) (d : D7 V) (hi : V 7 = none) (E60 : ∀ v, V 2 = some v → a.eval (.tmp 60) = v) (E64 : ∀ v, V 6 = some v → a.eval (.tmp 64) = v) (p2 : (V 2).isSome = true) (p6 : (V 6).isSome = true) (hP : Rd wX (.slice A k c) k ((l.take k).flatMap St.cells)) (hk : k ≤ l.length) (hc : l.length ≤ c) (hl : l.length ≤ 40) (hK : ∀ v w', I7 wX wT RT n x1 x2 x3 A DA c k l (updV V 7 v) w' → K (a.put (some 65) v) w') : Oper.wp Tryz.prog { dst := some 65, op := .call { callee := .builtin .append, args := #[.tmp 60, .tmp 64], argTypes := #[45, 45] }, type := ty, pos := pp, after := af, guard := gg } a w K Q := by
  obtain ⟨v6, hv6⟩ := some_of p6
  have e64 := E64 v6 hv6
  rw [h.c6 v6 hv6] at e64
  obtain ⟨u0, hu0⟩ := some_of p2
  obtain ⟨i0, hi0, hz0, hz1, hz2⟩ := info_parts Tryz.infoSt
  have hTL : (((l.take k).flatMap St.cells)).length = k * 3 := by rw [len_flat St.cells_len, List.length_take, Nat.min_eq_left hk]
  have hDL : ((l.drop k).flatMap St.cells).length = (l.length - k) * 3 := by rw [len_flat St.cells_len, List.length_drop]
  refine wp_app_rd w (.tmp 60) (.tmp 64) 45 rfl wX.heap.size 144 i0 _ 3 24 Tryz.underlying45 hi0 hz0 hz1 hz2 rfl (by decide) u0 (0) ([]) (E60 u0 hu0) (h.r2 u0 hu0 hi) _ (k) (((l.take k).flatMap St.cells)) e64 (rd_below hP h.low) hTL (st_one _) (by rw [maxLen_eq]; omega) (by omega) h.low.size ?_
  intro v1 w1 ho hg he
  rw [Nat.zero_add, List.nil_append] at ho
  exact hK _ _ (i7_7 h d hi u0 hu0 v1 w1 ho hg he)
set_option maxRecDepth 100000 in
theorem op7_8 {wX : World} {wT RT : Nat} {n x1 x2 x3 : Int} {A DA : Option Addr} {c k : Nat} {l : List St} {V : Nat → Option Value} {w : World} {a : Act} {K : Act → World → Prop} {Q : Exit → Act → World → Prop} {ty : TypeId} {pp : String} {af : Array Edge} {gg : Option (Nat × Bool)} (h : I7 wX wT RT n x1 x2 x3 A DA c k l V w) (d : D7 V) (hi : V 8 = none) (E6 : a.eval (.tmp 6) = .pointer (some ⟨RT, 0, none⟩)) (hR : RT < wX.heap.size) (u0 : wX.cell? ⟨RT, 0, none⟩ = some (.int .i64 x1)) (u1 : wX.cell? ⟨RT, 1, none⟩ = some (.int .i64 x2)) (u2 : wX.cell? ⟨RT, 2, none⟩ = some (.int .i64 x3)) (hK : ∀ v w', I7 wX wT RT n x1 x2 x3 A DA c k l (updV V 8 v) w' → K (a.put (some 66) v) w') : Oper.wp Tryz.prog { dst := some 66, op := .load 144 (.tmp 6), type := ty, pos := pp, after := af, guard := gg } a w K Q := by
  have c0 := below_c h.low hR u0
  have c1 := below_c h.low hR u1
  have c2 := below_c h.low hR u2
  unfold Oper.wp execOp
  simp only [E6]
  go_simp
  exact hK _ _ (i7_8 h d hi)
set_option maxRecDepth 100000 in
theorem op7_9 {wX : World} {wT RT : Nat} {n x1 x2 x3 : Int} {A DA : Option Addr} {c k : Nat} {l : List St} {V : Nat → Option Value} {w : World} {a : Act} {K : Act → World → Prop} {Q : Exit → Act → World → Prop} {ty : TypeId} {pp : String} {af : Array Edge} {gg : Option (Nat × Bool)} (h : I7 wX wT RT n x1 x2 x3 A DA c k l V w) (d : D7 V) (hi : V 9 = none) (E66 : ∀ v, V 8 = some v → a.eval (.tmp 66) = v) (p8 : (V 8).isSome = true) (hK : ∀ v w', I7 wX wT RT n x1 x2 x3 A DA c k l (updV V 9 v) w' → K (a.put (some 67) v) w') : Oper.wp Tryz.prog { dst := some 67, op := .buildSlice 45 1 #[(0, .tmp 66)], type := ty, pos := pp, after := af, guard := gg } a w K Q := by
  obtain ⟨v8, hv8⟩ := some_of p8
  have e66 := E66 v8 hv8
  rw [h.c8 v8 hv8] at e66
  unfold Oper.wp execOp
  simp only [List.map_toArray, List.map_cons, List.map_nil, e66]
  go_simp
  exact hK _ _ (i7_9 h d hi)
set_option maxRecDepth 100000 in
theorem op7_10 {wX : World} {wT RT : Nat} {n x1 x2 x3 : Int} {A DA : Option Addr} {c k : Nat} {l : List St} {V : Nat → Option Value} {w : World} {a : Act} {K : Act → World → Prop} {Q : Exit → Act → World → Prop} {ty : TypeId} {pp : String} {af : Array Edge} {gg : Option (Nat × Bool)} (h : I7 wX wT RT n x1 x2 x3 A DA c k l V w) (d : D7 V) (hi : V 10 = none) (E65 : ∀ v, V 7 = some v → a.eval (.tmp 65) = v) (E67 : ∀ v, V 9 = some v → a.eval (.tmp 67) = v) (p7 : (V 7).isSome = true) (p9 : (V 9).isSome = true) (hk : k ≤ l.length) (hc : l.length ≤ c) (hl : l.length ≤ 40) (hK : ∀ v w', I7 wX wT RT n x1 x2 x3 A DA c k l (updV V 10 v) w' → K (a.put (some 68) v) w') : Oper.wp Tryz.prog { dst := some 68, op := .call { callee := .builtin .append, args := #[.tmp 65, .tmp 67], argTypes := #[45, 45] }, type := ty, pos := pp, after := af, guard := gg } a w K Q := by
  obtain ⟨u9, hu9⟩ := some_of p9
  have e67 := E67 u9 hu9
  obtain ⟨u0, hu0⟩ := some_of p7
  obtain ⟨i0, hi0, hz0, hz1, hz2⟩ := info_parts Tryz.infoSt
  have hTL : (((l.take k).flatMap St.cells)).length = k * 3 := by rw [len_flat St.cells_len, List.length_take, Nat.min_eq_left hk]
  have hDL : ((l.drop k).flatMap St.cells).length = (l.length - k) * 3 := by rw [len_flat St.cells_len, List.length_drop]
  refine wp_app_rd w (.tmp 65) (.tmp 67) 45 rfl wX.heap.size 144 i0 _ 3 24 Tryz.underlying45 hi0 hz0 hz1 hz2 rfl (by decide) u0 (k) (((l.take k).flatMap St.cells)) (E65 u0 hu0) (h.r7 u0 hu0 hi) _ (1) ([.int .i64 x1, .int .i64 x2, .int .i64 x3]) e67 (own_rd (h.r9 u9 hu9 hi)) rfl (by intro u hu; simp at hu; rcases hu with rfl | rfl | rfl <;> rfl) (by rw [maxLen_eq]; omega) (by omega) h.low.size ?_
  intro v1 w1 ho hg he
  exact hK _ _ (i7_10 h d hi u0 hu0 v1 w1 ho hg he)
set_option maxRecDepth 100000 in
theorem op7_11 {wX : World} {wT RT : Nat} {n x1 x2 x3 : Int} {A DA : Option Addr} {c k : Nat} {l : List St} {V : Nat → Option Value} {w : World} {a : Act} {K : Act → World → Prop} {Q : Exit → Act → World → Prop} {ty : TypeId} {pp : String} {af : Array Edge} {gg : Option (Nat × Bool)} (h : I7 wX wT RT n x1 x2 x3 A DA c k l V w) (d : D7 V) (hi : V 11 = none) (E2 : a.eval (.tmp 2) = .pointer (some ⟨wT, 0, none⟩)) (hK : ∀ v w', I7 wX wT RT n x1 x2 x3 A DA c k l (updV V 11 v) w' → K (a.put (some 69) v) w') : Oper.wp Tryz.prog { dst := some 69, op := .fieldAddr 47 (.tmp 2) 1, type := ty, pos := pp, after := af, guard := gg } a w K Q := by
  unfold Oper.wp execOp
  simp only [E2]
  go_simp
  exact hK _ _ (i7_11 h d hi)
set_option maxRecDepth 100000 in
theorem op7_12 {wX : World} {wT RT : Nat} {n x1 x2 x3 : Int} {A DA : Option Addr} {c k : Nat} {l : List St} {V : Nat → Option Value} {w : World} {a : Act} {K : Act → World → Prop} {Q : Exit → Act → World → Prop} {ty : TypeId} {pp : String} {af : Array Edge} {gg : Option (Nat × Bool)} (h : I7 wX wT RT n x1 x2 x3 A DA c k l V w) (d : D7 V) (hi : V 12 = none) (E69 : ∀ v, V 11 = some v → a.eval (.tmp 69) = v) (p11 : (V 11).isSome = true) (hT : wT < wX.heap.size) (t0 : wX.cell? ⟨wT, 0, none⟩ = some (.int .i64 n)) (t1 : wX.cell? ⟨wT, 1, none⟩ = some (.slice A l.length c)) (hK : ∀ v w', I7 wX wT RT n x1 x2 x3 A DA c k l (updV V 12 v) w' → K (a.put (some 70) v) w') : Oper.wp Tryz.prog { dst := some 70, op := .load 45 (.tmp 69), type := ty, pos := pp, after := af, guard := gg } a w K Q := by
  obtain ⟨v11, hv11⟩ := some_of p11
  have e69 := E69 v11 hv11
  rw [h.c11 v11 hv11] at e69
  have c0 := below_c h.low hT t1
  unfold Oper.wp execOp
  simp only [e69]
  go_simp
  exact hK _ _ (i7_12 h d hi)
set_option maxRecDepth 100000 in
theorem op7_13 {wX : World} {wT RT : Nat} {n x1 x2 x3 : Int} {A DA : Option Addr} {c k : Nat} {l : List St} {V : Nat → Option Value} {w : World} {a : Act} {K : Act → World → Prop} {Q : Exit → Act → World → Prop} {ty : TypeId} {pp : String} {af : Array Edge} {gg : Option (Nat × Bool)} (h : I7 wX wT RT n x1 x2 x3 A DA c k l V w) (d : D7 V) (hi : V 13 = none) (E7 : a.eval (.tmp 7) = .int .i64 (k : Int)) (hK : ∀ v w', I7 wX wT RT n x1 x2 x3 A DA c k l (updV V 13 v) w' → K (a.put (some 71) v) w') : Oper.wp Tryz.prog { dst := some 71, op := .move (.tmp 7), type := ty, pos := pp, after := af, guard := gg } a w K Q := by
  unfold Oper.wp execOp
  simp only [E7]
  go_simp
  exact hK _ _ (i7_13 h d hi)
set_option maxRecDepth 100000 in
theorem op7_14 {wX : World} {wT RT : Nat} {n x1 x2 x3 : Int} {A DA : Option Addr} {c k : Nat} {l : List St} {V : Nat → Option Value} {w : World} {a : Act} {K : Act → World → Prop} {Q : Exit → Act → World → Prop} {ty : TypeId} {pp : String} {af : Array Edge} {gg : Option (Nat × Bool)} (h : I7 wX wT RT n x1 x2 x3 A DA c k l V w) (d : D7 V) (hi : V 14 = none) (E70 : ∀ v, V 12 = some v → a.eval (.tmp 70) = v) (E71 : ∀ v, V 13 = some v → a.eval (.tmp 71) = v) (p12 : (V 12).isSome = true) (p13 : (V 13).isSome = true) (hs : ∀ w : World, (Instr.sliceAt 45 (.slice A l.length c) (some (.int .i64 (k : Int))) none none).run Tryz.prog w = .ok (.slice DA (l.length - k) (c - k)) w) (hK : ∀ v w', I7 wX wT RT n x1 x2 x3 A DA c k l (updV V 14 v) w' → K (a.put (some 72) v) w') : Oper.wp Tryz.prog { dst := some 72, op := .slice 45 (.tmp 70) (some (.tmp 71)) none none, type := ty, pos := pp, after := af, guard := gg } a w K Q := by
  obtain ⟨v12, hv12⟩ := some_of p12
  have e70 := E70 v12 hv12
  rw [h.c12 v12 hv12] at e70
  obtain ⟨v13, hv13⟩ := some_of p13
  have e71 := E71 v13 hv13
  rw [h.c13 v13 hv13] at e71
  unfold Oper.wp execOp
  simp only [Option.map_none, Option.map_some, e70, e71]
  rw [Sem.run_bind, hs]
  exact hK _ _ (i7_14 h d hi)
set_option maxRecDepth 100000 in
theorem op7_15 {wX : World} {wT RT : Nat} {n x1 x2 x3 : Int} {A DA : Option Addr} {c k : Nat} {l : List St} {V : Nat → Option Value} {w : World} {a : Act} {K : Act → World → Prop} {Q : Exit → Act → World → Prop} {ty : TypeId} {pp : String} {af : Array Edge} {gg : Option (Nat × Bool)} (h : I7 wX wT RT n x1 x2 x3 A DA c k l V w) (d : D7 V) (hi : V 15 = none) (E68 : ∀ v, V 10 = some v → a.eval (.tmp 68) = v) (E72 : ∀ v, V 14 = some v → a.eval (.tmp 72) = v) (p10 : (V 10).isSome = true) (p14 : (V 14).isSome = true) (p7 : (V 7).isSome = true) (hD : Rd wX (.slice DA (l.length - k) (c - k)) (l.length - k) ((l.drop k).flatMap St.cells)) (hk : k ≤ l.length) (hc : l.length ≤ c) (hl : l.length ≤ 40) (hK : ∀ v w', I7 wX wT RT n x1 x2 x3 A DA c k l (updV V 15 v) w' → K (a.put (some 73) v) w') : Oper.wp Tryz.prog { dst := some 73, op := .call { callee := .builtin .append, args := #[.tmp 68, .tmp 72], argTypes := #[45, 45] }, type := ty, pos := pp, after := af, guard := gg } a w K Q := by
  obtain ⟨v14, hv14⟩ := some_of p14
  have e72 := E72 v14 hv14
  rw [h.c14 v14 hv14] at e72
  obtain ⟨u0, hu0⟩ := some_of p10
  obtain ⟨i0, hi0, hz0, hz1, hz2⟩ := info_parts Tryz.infoSt
  have hTL : (((l.take k).flatMap St.cells)).length = k * 3 := by rw [len_flat St.cells_len, List.length_take, Nat.min_eq_left hk]
  have hDL : ((l.drop k).flatMap St.cells).length = (l.length - k) * 3 := by rw [len_flat St.cells_len, List.length_drop]
  refine wp_app_rd w (.tmp 68) (.tmp 72) 45 rfl wX.heap.size 144 i0 _ 3 24 Tryz.underlying45 hi0 hz0 hz1 hz2 rfl (by decide) u0 (k + 1) (((l.take k).flatMap St.cells) ++ [.int .i64 x1, .int .i64 x2, .int .i64 x3]) (E68 u0 hu0) (h.r10 u0 hu0 hi) _ (l.length - k) ((l.drop k).flatMap St.cells) e72 (rd_below hD h.low) hDL (st_one _) (by rw [maxLen_eq]; omega) (by omega) h.low.size ?_
  intro v1 w1 ho hg he
  exact hK _ _ (i7_15 h d hi u0 hu0 v1 w1 ho hg he p7)
set_option maxRecDepth 100000 in
theorem op7_16 {wX : World} {wT RT : Nat} {n x1 x2 x3 : Int} {A DA : Option Addr} {c k : Nat} {l : List St} {V : Nat → Option Value} {w : World} {a : Act} {K : Act → World → Prop} {Q : Exit → Act → World → Prop} {ty : TypeId} {pp : String} {af : Array Edge} {gg : Option (Nat × Bool)} (h : I7 wX wT RT n x1 x2 x3 A DA c k l V w) (d : D7 V) (hi : V 16 = none) (E59 : ∀ v, V 1 = some v → a.eval (.tmp 59) = v) (E73 : ∀ v, V 15 = some v → a.eval (.tmp 73) = v) (p1 : (V 1).isSome = true) (p15 : (V 15).isSome = true) (hK : ∀ v w', I7 wX wT RT n x1 x2 x3 A DA c k l (updV V 16 v) w' → K (a.put (some 74) v) w') : Oper.wp Tryz.prog { dst := some 74, op := .build 47 #[(0, .tmp 59), (1, .tmp 73)], type := ty, pos := pp, after := af, guard := gg } a w K Q := by
  obtain ⟨v1, hv1⟩ := some_of p1
  have e59 := E59 v1 hv1
  rw [h.c1 v1 hv1] at e59
  obtain ⟨x, hx⟩ := some_of p15
  have e73 := E73 x hx
  obtain ⟨A3, c3, hv3, -⟩ := h.r15 x hx
  rw [hv3] at e73
  unfold Oper.wp execOp
  simp only [List.map_toArray, List.map_cons, List.map_nil, e59, e73]
  go_simp
  refine hK _ _ ?_
  rw [← hv3]
  exact i7_16 h d hi x hx
set_option maxRecDepth 100000 in
theorem op7_17 {wX : World} {wT RT : Nat} {n x1 x2 x3 : Int} {A DA : Option Addr} {c k : Nat} {l : List St} {V : Nat → Option Value} {w : World} {a : Act} {K : Act → World → Prop} {Q : Exit → Act → World → Prop} {ty : TypeId} {pp : String} {af : Array Edge} {gg : Option (Nat × Bool)} (h : I7 wX wT RT n x1 x2 x3 A DA c k l V w) (d : D7 V) (hi : V 17 = none) (hK : ∀ v w', I7 wX wT RT n x1 x2 x3 A DA c k l (updV V 17 v) w' → K (a.put (some 8) v) w') : Oper.wp Tryz.prog { dst := some 8, op := .alloc 47, type := ty, pos := pp, after := af, guard := gg } a w K Q := by
  unfold Oper.wp execOp
  go_simp
  exact hK _ _ (i7_17 h d hi)
set_option maxRecDepth 100000 in
theorem op7_18 {wX : World} {wT RT : Nat} {n x1 x2 x3 : Int} {A DA : Option Addr} {c k : Nat} {l : List St} {V : Nat → Option Value} {w : World} {a : Act} {K : Act → World → Prop} {Q : Exit → Act → World → Prop} {ty : TypeId} {pp : String} {af : Array Edge} {gg : Option (Nat × Bool)} (h : I7 wX wT RT n x1 x2 x3 A DA c k l V w) (d : D7 V) (hi : V 18 = none) (E8 : ∀ v, V 17 = some v → a.eval (.tmp 8) = v) (E74 : ∀ v, V 16 = some v → a.eval (.tmp 74) = v) (p16 : (V 16).isSome = true) (p17 : (V 17).isSome = true) (p10 : (V 10).isSome = true) (p7 : (V 7).isSome = true) (hK : ∀ v w', I7 wX wT RT n x1 x2 x3 A DA c k l (updV V 18 v) w' → K (a.put (none) v) w') : Oper.wp Tryz.prog { dst := none, op := .store 47 (.tmp 8) (.tmp 74), type := ty, pos := pp, after := af, guard := gg } a w K Q := by
  obtain ⟨v16, hv16⟩ := some_of p16
  obtain ⟨x, hx, ev16⟩ := h.r16 v16 hv16
  have e74 := E74 v16 hv16
  obtain ⟨A3, c3, hv3, -⟩ := h.r15 x hx
  rw [ev16, hv3] at e74
  obtain ⟨v17, hv17⟩ := some_of p17
  obtain ⟨R, ev17, hR, hf⟩ := h.r17 v17 hv17
  have e8 := E8 v17 hv17
  rw [ev17] at e8 hv17
  have hf := hf hi
  have z0 := fresh_c0 hf
  have z1 := fresh_c1 hf
  have f0 := fresh_f hf 0
  have f1 := fresh_f hf 1
  unfold Oper.wp execOp
  simp only [e8, e74]
  go_simp
  refine hK undef _ ?_
  rw [← hv3]
  exact i7_18 h d hi R x hv17 hx p10 p7
theorem i7_start (wX : World) (wT RT : Nat) (n x1 x2 x3 : Int) (A DA : Option Addr) (c k : Nat) (l : List St) : I7 wX wT RT n x1 x2 x3 A DA c k l (fun _ => none) wX.drew :=
  {
    low := (bel_dr (Below.refl _ _)),
    c0 := (fun v hv => by cases hv),
    c1 := (fun v hv => by cases hv),
    c3 := (fun v hv => by cases hv),
    c4 := (fun v hv => by cases hv),
    c5 := (fun v hv => by cases hv),
    c6 := (fun v hv => by cases hv),
    c8 := (fun v hv => by cases hv),
    c11 := (fun v hv => by cases hv),
    c12 := (fun v hv => by cases hv),
    c13 := (fun v hv => by cases hv),
    c14 := (fun v hv => by cases hv),
    r2 := (fun v hv => by cases hv),
    r7 := (fun v hv => by cases hv),
    r9 := (fun v hv => by cases hv),
    s9 := (fun v u hv => by cases hv),
    r10 := (fun v hv => by cases hv),
    r15 := (fun v hv => by cases hv),
    r16 := (fun v hv => by cases hv),
    r17 := (fun v hv => by cases hv),
    r18 := (fun v hv => by cases hv) }
end Go.Proofs.YthgegghdkoeofaaGreatDoor

namespace Go.Proofs.YthgegghdkoeofaaGreatDoor
set_option linter.unusedVariables false
set_option linter.unusedSimpArgs false
open Go.RowKit

def AnyT (B : Nat) (l : List Int) (a k : Nat) (w : World) (RT : Nat) (n : Int) (v : Value) (L : List St) (W : World) : Prop :=
  W.ownsRow w.heap.size 47 2 (.slice (some ⟨RT, 0, none⟩) 1 1) 1 [.int .i64 n, v] ∧ W.ownsRow w.heap.size 144 3 v L.length (L.flatMap St.cells) ∧ L.length ≤ 60 ∧ FreshT W w.heap.size ∧ Drew B l a k w W ∧ w.heap.size < RT ∧ RT < W.heap.size
/-- Behind an append: the streets are appended to, the variable not yet stored. -/
def AppT (B : Nat) (l : List Int) (a k : Nat) (w : World) (RT : Nat) (n : Int) (vO v : Value) (L : List St) (W : World) : Prop :=
  W.ownsRow w.heap.size 47 2 (.slice (some ⟨RT, 0, none⟩) 1 1) 1 [.int .i64 n, vO] ∧ W.ownsRow w.heap.size 144 3 v L.length (L.flatMap St.cells) ∧ L.length ≤ 60 ∧ FreshT W w.heap.size ∧ Drew B l a k w W ∧ w.heap.size < RT ∧ RT < W.heap.size
theorem anyT_drew {B : Nat} {l : List Int} {a k j : Nat} {w : World} {RT : Nat} {n : Int} {v : Value} {L : List St} {W W' : World} (h : AnyT B l a k w RT n v L W) (d : Drew B l (a + k) j W W') (hB : B < w.heap.size) : AnyT B l a (k + j) w RT n v L W' := by
  obtain ⟨h1, h2, h3, h4, h5, h6, h7⟩ := h
  exact ⟨own_draw h1 d.2 hB, own_draw h2 d.2 hB, h3, own_draw h4 d.2 (by omega), h5.trans d, h6, Nat.lt_of_lt_of_le h7 d.2.size⟩
theorem anyT_more {B : Nat} {l : List Int} {a k k' : Nat} {w : World} {RT : Nat} {n : Int} {v : Value} {L : List St} {W : World} (h : AnyT B l a k w RT n v L W) (hk : k ≤ k') : AnyT B l a k' w RT n v L W := by
  obtain ⟨h1, h2, h3, h4, h5, h6, h7⟩ := h
  exact ⟨h1, h2, h3, h4, h5.more hk, h6, h7⟩
theorem anyT_bel {B : Nat} {l : List Int} {a k : Nat} {w : World} {RT : Nat} {n : Int} {v : Value} {L : List St} {W W' : World} (h : AnyT B l a k w RT n v L W) (d : Below W.heap.size W W') : AnyT B l a k w RT n v L W' := by
  obtain ⟨h1, h2, h3, h4, h5, h6, h7⟩ := h
  exact ⟨own_below h1 d, own_below h2 d, h3, own_below h4 d, h5.bel d, h6, Nat.lt_of_lt_of_le h7 d.size⟩
theorem drew_gro {B : Nat} {l : List Int} {a k : Nat} {w W W' : World} {r : Option Nat} (h : Drew B l a k w W) (g : W.grownBy W' r) (hr : ∀ q, r = some q → w.heap.size ≤ q) (hB : B < w.heap.size) : Drew B l a k w W' :=
  ⟨h.1.gro g (fun q e => by have := hr q e; omega), ⟨g.os.trans h.2.os, g.tape.trans h.2.tape, g.output.trans h.2.output, Nat.le_trans h.2.size g.size, fun i hi hne => (g.block i (Nat.lt_of_lt_of_le hi h.2.size) (fun e => by have := hr i e.symm; omega)).trans (h.2.block i hi hne)⟩⟩
theorem kept_ty {X Y : World} {R base base' n : Nat} {v : Value} {xs ys : List Value} (hf : X.ownsRow base' 47 2 (.slice (some ⟨R, 0, none⟩) 1 1) 1 ys) (ho : X.ownsRow base 144 3 v n xs) (g : X.grownBy Y v.ownBlock) : Y.ownsRow base' 47 2 (.slice (some ⟨R, 0, none⟩) 1 1) 1 ys :=
  hf.kept g (by
    cases hq : v.ownBlock with
    | none => exact .inr (by simp [Value.ownBlock])
    | some q => exact .inr (fun e => town_ne hf ho q hq (by have e2 : R = q := Option.some.inj e; exact e2.symm)))
theorem anyT_app {B : Nat} {l : List Int} {a k : Nat} {w : World} {RT : Nat} {n : Int} {v v' : Value} {L L' : List St} {W W' : World} (h : AnyT B l a k w RT n v L W) (g : W.grownBy W' v.ownBlock) (ho : W'.ownsRow w.heap.size 144 3 v' L'.length (L'.flatMap St.cells)) (hl : L'.length ≤ 60) (hB : B < w.heap.size) : AppT B l a k w RT n v v' L' W' := by
  obtain ⟨h1, h2, h3, h4, h5, h6, h7⟩ := h
  exact ⟨kept_ty h1 h2 g, ho, hl, kept_ty h4 h2 g, drew_gro h5 g (fun q e => (h2.lt q e).1) hB, h6, Nat.lt_of_lt_of_le h7 g.size⟩
theorem app_store {B : Nat} {l : List Int} {a k : Nat} {w : World} {RT : Nat} {n : Int} {vO v : Value} {L : List St} {W : World} (h : AppT B l a k w RT n vO v L W) (hB : B < w.heap.size) : AnyT B l a k w RT n v L (W.setCell ⟨RT, 1, none⟩ v) := by
  obtain ⟨h1, h2, h3, h4, h5, h6, h7⟩ := h
  have hg : W.grownBy (W.setCell ⟨RT, 1, none⟩ v) (some RT) := only_setCell (World.grownBy.refl _ _) 1 _
  exact ⟨own_put [_] W _ 1 h1, own_farR h2 (town_ne h1 h2) 1 _, h3, h4.kept hg (.inr (fun e => by have : w.heap.size = RT := Option.some.inj e; omega)), h5.own hg (by omega) hB, h6, by simpa using h7⟩
theorem anyT_nodes {B : Nat} {l : List Int} {a k : Nat} {w : World} {RT : Nat} {n m : Int} {v : Value} {L : List St} {W : World} (h : AnyT B l a k w RT n v L W) (hB : B < w.heap.size) : AnyT B l a k w RT m v L (W.setCell ⟨RT, 0, none⟩ (.int .i64 m)) := by
  obtain ⟨h1, h2, h3, h4, h5, h6, h7⟩ := h
  have hg : W.grownBy (W.setCell ⟨RT, 0, none⟩ (.int .i64 m)) (some RT) := only_setCell (World.grownBy.refl _ _) 0 _
  exact ⟨own_put [_] W _ 0 h1, own_farR h2 (town_ne h1 h2) 0 _, h3, h4.kept hg (.inr (fun e => by have : w.heap.size = RT := Option.some.inj e; omega)), h5.own hg (by omega) hB, h6, by simpa using h7⟩
theorem anyT_nil {B : Nat} {l : List Int} {a k : Nat} {w : World} {RT : Nat} {n : Int} {v : Value} {L : List St} {W : World} (h : AnyT B l a k w RT n v L W) (hB : B < w.heap.size) : AnyT B l a k w RT n (.slice none 0 0) [] (W.setCell ⟨RT, 1, none⟩ (.slice none 0 0)) := by
  obtain ⟨h1, h2, h3, h4, h5, h6, h7⟩ := h
  have hg : W.grownBy (W.setCell ⟨RT, 1, none⟩ (.slice none 0 0)) (some RT) := only_setCell (World.grownBy.refl _ _) 1 _
  exact ⟨own_put [_] W _ 1 h1, World.ownsRow_nil _ _ _ _, by simp, h4.kept hg (.inr (fun e => by have : w.heap.size = RT := Option.some.inj e; omega)), h5.own hg (by omega) hB, h6, by simpa using h7⟩
end Go.Proofs.YthgegghdkoeofaaGreatDoor

namespace Go.Proofs.YthgegghdkoeofaaGreatDoor
set_option linter.unusedVariables false
set_option linter.unusedSimpArgs false
open Go.RowKit

structure A6 (B : Nat) (l : List Int) (a0 K : Nat) (w0 wX : World) (RT : Nat) (n : Int) (Av : Option Addr) (cv : Nat) (L : List St) (V : Nat → Option Value) (w : World) : Prop where
  sz : wX.heap.size ≤ w.heap.size
  s0 : V 3 = none → AnyT B l a0 (K + 0) w0 RT n (.slice Av L.length cv) L w
  s1 : (V 3).isSome = true → V 6 = none → AnyT B l a0 (K + 2) w0 RT n (.slice Av L.length cv) L w
  s2 : (V 6).isSome = true → V 9 = none → AnyT B l a0 (K + 4) w0 RT n (.slice Av L.length cv) L w
  s3 : (V 9).isSome = true → V 12 = none → AnyT B l a0 (K + 6) w0 RT n (.slice Av L.length cv) L w
  r0 : ∀ v, V 0 = some v → v = .pointer (some ⟨RT, 1, none⟩)
  r1 : ∀ v, V 1 = some v → v = .slice Av L.length cv
  r2 : ∀ v, V 2 = some v → v = .pointer (some ⟨B, 0, none⟩)
  r3 : ∀ v, V 3 = some v → ∃ x : Int, v = .int .i64 x
  r4 : ∀ v, V 4 = some v → ∃ x : Int, v = .int .i64 x
  r5 : ∀ v, V 5 = some v → v = .pointer (some ⟨B, 0, none⟩)
  r6 : ∀ v, V 6 = some v → ∃ x : Int, v = .int .i64 x
  r7 : ∀ v, V 7 = some v → v = .pointer (some ⟨B, 0, none⟩)
  r8 : ∀ v, V 8 = some v → V 9 = none → ∃ y : Int, RS B w (v) [60, 0, 3601]
  r9 : ∀ v, V 9 = some v → ∃ x : Int, v = .int .i64 x
  r10 : ∀ v, V 10 = some v → ∃ f t s : Int, v = .agg #[.int .i64 f, .int .i64 t, .int .i64 s]
  r11 : ∀ v, V 11 = some v → V 12 = none → ∃ f t s : Int, World.ownsRow w wX.heap.size 144 3 v 1 [.int .i64 f, .int .i64 t, .int .i64 s]
  r12 : ∀ v, V 12 = some v → ∃ (A' : Option Addr) (c' : Nat) (L' : List St), v = .slice A' L'.length c' ∧ (V 14 = none → AppT B l a0 (K + 6) w0 RT n (.slice Av L.length cv) (.slice A' L'.length c') L' w)
  r13 : ∀ v, V 13 = some v → v = .pointer (some ⟨RT, 1, none⟩)
  r14 : ∀ v, V 14 = some v → ∃ (A' : Option Addr) (c' : Nat) (L' : List St), V 12 = some (.slice A' L'.length c') ∧ AnyT B l a0 (K + 6) w0 RT n (.slice A' L'.length c') L' w
structure DA6 (V : Nat → Option Value) : Prop where
  d1_0 : (V 1).isSome = true → (V 0).isSome = true
  d3_2 : (V 3).isSome = true → (V 2).isSome = true
  d4_3 : (V 4).isSome = true → (V 3).isSome = true
  d6_5 : (V 6).isSome = true → (V 5).isSome = true
  d6_3 : (V 6).isSome = true → (V 3).isSome = true
  d9_7 : (V 9).isSome = true → (V 7).isSome = true
  d9_8 : (V 9).isSome = true → (V 8).isSome = true
  d9_6 : (V 9).isSome = true → (V 6).isSome = true
  d10_4 : (V 10).isSome = true → (V 4).isSome = true
  d10_6 : (V 10).isSome = true → (V 6).isSome = true
  d10_9 : (V 10).isSome = true → (V 9).isSome = true
  d11_10 : (V 11).isSome = true → (V 10).isSome = true
  d12_1 : (V 12).isSome = true → (V 1).isSome = true
  d12_11 : (V 12).isSome = true → (V 11).isSome = true
  d12_9 : (V 12).isSome = true → (V 9).isSome = true
  d14_13 : (V 14).isSome = true → (V 13).isSome = true
  d14_12 : (V 14).isSome = true → (V 12).isSome = true
theorem A6.any {B : Nat} {l : List Int} {a0 K : Nat} {w0 wX : World} {RT : Nat} {n : Int} {Av : Option Addr} {cv : Nat} {L : List St} {V : Nat → Option Value} {w : World} (h : A6 B l a0 K w0 wX RT n Av cv L V w) : V 12 = none → ∃ k, k ≤ 6 ∧ AnyT B l a0 (K + k) w0 RT n (.slice Av L.length cv) L w := by
  intro hap
  cases h3 : V 3 with
  | none => exact ⟨0, by omega, h.s0 h3⟩
  | some v3 =>
  cases h6 : V 6 with
  | none => exact ⟨2, by omega, h.s1 (by rw [h3]; rfl) h6⟩
  | some v6 =>
  cases h9 : V 9 with
  | none => exact ⟨4, by omega, h.s2 (by rw [h6]; rfl) h9⟩
  | some v9 =>
  exact ⟨6, by omega, h.s3 (by rw [h9]; rfl) hap⟩
theorem A6_0 {B : Nat} {l : List Int} {a0 K : Nat} {w0 wX : World} {RT : Nat} {n : Int} {Av : Option Addr} {cv : Nat} {L : List St} {V : Nat → Option Value} {w : World} (h : A6 B l a0 K w0 wX RT n Av cv L V w) (d : DA6 V) (hi : V 0 = none) (hWX : w0.heap.size ≤ wX.heap.size) (hRT : RT < wX.heap.size) (v : Value) (hv : v = .pointer (some ⟨RT, 1, none⟩)) : A6 B l a0 K w0 wX RT n Av cv L (updV V 0 v) w := by
  have n1 : V 1 = none := none_of d.d1_0 hi
  have n12 : V 12 = none := none_of d.d12_1 n1
  have n14 : V 14 = none := none_of d.d14_12 n12
  exact {
    sz := (h.sz),
    s0 := (fun hn => h.s0 ((updV_ne (by decide)).symm.trans hn)),
    s1 := (fun hs hn => h.s1 (upd_some hs (by decide)) ((updV_ne (by decide)).symm.trans hn)),
    s2 := (fun hs hn => h.s2 (upd_some hs (by decide)) ((updV_ne (by decide)).symm.trans hn)),
    s3 := (fun hs hn => h.s3 (upd_some hs (by decide)) ((updV_ne (by decide)).symm.trans hn)),
    r0 := (fun u hu => by have e := Option.some.inj ((updV_same _ _ _).symm.trans hu); subst e; exact hv),
    r1 := (fun u hu => no ((updV_ne (by decide)).symm.trans hu) n1),
    r2 := (fun u hu => h.r2 u ((updV_ne (by decide)).symm.trans hu)),
    r3 := (fun u hu => h.r3 u ((updV_ne (by decide)).symm.trans hu)),
    r4 := (fun u hu => h.r4 u ((updV_ne (by decide)).symm.trans hu)),
    r5 := (fun u hu => h.r5 u ((updV_ne (by decide)).symm.trans hu)),
    r6 := (fun u hu => h.r6 u ((updV_ne (by decide)).symm.trans hu)),
    r7 := (fun u hu => h.r7 u ((updV_ne (by decide)).symm.trans hu)),
    r8 := (fun u hu hd => h.r8 u ((updV_ne (by decide)).symm.trans hu) ((updV_ne (by decide)).symm.trans hd)),
    r9 := (fun u hu => h.r9 u ((updV_ne (by decide)).symm.trans hu)),
    r10 := (fun u hu => h.r10 u ((updV_ne (by decide)).symm.trans hu)),
    r11 := (fun u hu hd => h.r11 u ((updV_ne (by decide)).symm.trans hu) ((updV_ne (by decide)).symm.trans hd)),
    r12 := (fun u hu => no ((updV_ne (by decide)).symm.trans hu) n12),
    r13 := (fun u hu => h.r13 u ((updV_ne (by decide)).symm.trans hu)),
    r14 := (fun u hu => no ((updV_ne (by decide)).symm.trans hu) n14) }
theorem A6_1 {B : Nat} {l : List Int} {a0 K : Nat} {w0 wX : World} {RT : Nat} {n : Int} {Av : Option Addr} {cv : Nat} {L : List St} {V : Nat → Option Value} {w : World} (h : A6 B l a0 K w0 wX RT n Av cv L V w) (d : DA6 V) (hi : V 1 = none) (p0 : (V 0).isSome = true) (hWX : w0.heap.size ≤ wX.heap.size) (hRT : RT < wX.heap.size) (v : Value) (hv : v = .slice Av L.length cv) : A6 B l a0 K w0 wX RT n Av cv L (updV V 1 v) w := by
  have n12 : V 12 = none := none_of d.d12_1 hi
  have n14 : V 14 = none := none_of d.d14_12 n12
  exact {
    sz := (h.sz),
    s0 := (fun hn => h.s0 ((updV_ne (by decide)).symm.trans hn)),
    s1 := (fun hs hn => h.s1 (upd_some hs (by decide)) ((updV_ne (by decide)).symm.trans hn)),
    s2 := (fun hs hn => h.s2 (upd_some hs (by decide)) ((updV_ne (by decide)).symm.trans hn)),
    s3 := (fun hs hn => h.s3 (upd_some hs (by decide)) ((updV_ne (by decide)).symm.trans hn)),
    r0 := (fun u hu => h.r0 u ((updV_ne (by decide)).symm.trans hu)),
    r1 := (fun u hu => by have e := Option.some.inj ((updV_same _ _ _).symm.trans hu); subst e; exact hv),
    r2 := (fun u hu => h.r2 u ((updV_ne (by decide)).symm.trans hu)),
    r3 := (fun u hu => h.r3 u ((updV_ne (by decide)).symm.trans hu)),
    r4 := (fun u hu => h.r4 u ((updV_ne (by decide)).symm.trans hu)),
    r5 := (fun u hu => h.r5 u ((updV_ne (by decide)).symm.trans hu)),
    r6 := (fun u hu => h.r6 u ((updV_ne (by decide)).symm.trans hu)),
    r7 := (fun u hu => h.r7 u ((updV_ne (by decide)).symm.trans hu)),
    r8 := (fun u hu hd => h.r8 u ((updV_ne (by decide)).symm.trans hu) ((updV_ne (by decide)).symm.trans hd)),
    r9 := (fun u hu => h.r9 u ((updV_ne (by decide)).symm.trans hu)),
    r10 := (fun u hu => h.r10 u ((updV_ne (by decide)).symm.trans hu)),
    r11 := (fun u hu hd => h.r11 u ((updV_ne (by decide)).symm.trans hu) ((updV_ne (by decide)).symm.trans hd)),
    r12 := (fun u hu => no ((updV_ne (by decide)).symm.trans hu) n12),
    r13 := (fun u hu => h.r13 u ((updV_ne (by decide)).symm.trans hu)),
    r14 := (fun u hu => no ((updV_ne (by decide)).symm.trans hu) n14) }
theorem A6_2 {B : Nat} {l : List Int} {a0 K : Nat} {w0 wX : World} {RT : Nat} {n : Int} {Av : Option Addr} {cv : Nat} {L : List St} {V : Nat → Option Value} {w : World} (h : A6 B l a0 K w0 wX RT n Av cv L V w) (d : DA6 V) (hi : V 2 = none) (hWX : w0.heap.size ≤ wX.heap.size) (hRT : RT < wX.heap.size) (v : Value) (hv : v = .pointer (some ⟨B, 0, none⟩)) : A6 B l a0 K w0 wX RT n Av cv L (updV V 2 v) w := by
  have n3 : V 3 = none := none_of d.d3_2 hi
  have n4 : V 4 = none := none_of d.d4_3 n3
  have n6 : V 6 = none := none_of d.d6_3 n3
  have n9 : V 9 = none := none_of d.d9_6 n6
  have n10 : V 10 = none := none_of d.d10_4 n4
  have n11 : V 11 = none := none_of d.d11_10 n10
  have n12 : V 12 = none := none_of d.d12_11 n11
  have n14 : V 14 = none := none_of d.d14_12 n12
  exact {
    sz := (h.sz),
    s0 := (fun hn => h.s0 ((updV_ne (by decide)).symm.trans hn)),
    s1 := (fun hs hn => h.s1 (upd_some hs (by decide)) ((updV_ne (by decide)).symm.trans hn)),
    s2 := (fun hs hn => h.s2 (upd_some hs (by decide)) ((updV_ne (by decide)).symm.trans hn)),
    s3 := (fun hs hn => h.s3 (upd_some hs (by decide)) ((updV_ne (by decide)).symm.trans hn)),
    r0 := (fun u hu => h.r0 u ((updV_ne (by decide)).symm.trans hu)),
    r1 := (fun u hu => h.r1 u ((updV_ne (by decide)).symm.trans hu)),
    r2 := (fun u hu => by have e := Option.some.inj ((updV_same _ _ _).symm.trans hu); subst e; exact hv),
    r3 := (fun u hu => no ((updV_ne (by decide)).symm.trans hu) n3),
    r4 := (fun u hu => no ((updV_ne (by decide)).symm.trans hu) n4),
    r5 := (fun u hu => h.r5 u ((updV_ne (by decide)).symm.trans hu)),
    r6 := (fun u hu => no ((updV_ne (by decide)).symm.trans hu) n6),
    r7 := (fun u hu => h.r7 u ((updV_ne (by decide)).symm.trans hu)),
    r8 := (fun u hu hd => h.r8 u ((updV_ne (by decide)).symm.trans hu) ((updV_ne (by decide)).symm.trans hd)),
    r9 := (fun u hu => no ((updV_ne (by decide)).symm.trans hu) n9),
    r10 := (fun u hu => no ((updV_ne (by decide)).symm.trans hu) n10),
    r11 := (fun u hu hd => no ((updV_ne (by decide)).symm.trans hu) n11),
    r12 := (fun u hu => no ((updV_ne (by decide)).symm.trans hu) n12),
    r13 := (fun u hu => h.r13 u ((updV_ne (by decide)).symm.trans hu)),
    r14 := (fun u hu => no ((updV_ne (by decide)).symm.trans hu) n14) }
theorem A6_3 {B : Nat} {l : List Int} {a0 K : Nat} {w0 wX : World} {RT : Nat} {n : Int} {Av : Option Addr} {cv : Nat} {L : List St} {V : Nat → Option Value} {w : World} (h : A6 B l a0 K w0 wX RT n Av cv L V w) (d : DA6 V) (hi : V 3 = none) (p2 : (V 2).isSome = true) (hWX : w0.heap.size ≤ wX.heap.size) (hRT : RT < wX.heap.size) (w2 : World) (hm : Drew B l (a0 + (K + 0)) 2 w w2) (hB : B < w0.heap.size) (v : Value) (hv : ∃ x : Int, v = .int .i64 x) : A6 B l a0 K w0 wX RT n Av cv L (updV V 3 v) w2 := by
  have n4 : V 4 = none := none_of d.d4_3 hi
  have n6 : V 6 = none := none_of d.d6_3 hi
  have n9 : V 9 = none := none_of d.d9_6 n6
  have n10 : V 10 = none := none_of d.d10_4 n4
  have n11 : V 11 = none := none_of d.d11_10 n10
  have n12 : V 12 = none := none_of d.d12_11 n11
  have n14 : V 14 = none := none_of d.d14_12 n12
  exact {
    sz := (Nat.le_trans h.sz hm.2.size),
    s0 := (fun hn => no (updV_same _ _ _) hn),
    s1 := (fun hs hn => anyT_more (anyT_drew (h.s0 hi) hm hB) (by omega)),
    s2 := (fun hs hn => noS (upd_some hs (by decide)) n6),
    s3 := (fun hs hn => noS (upd_some hs (by decide)) n9),
    r0 := (fun u hu => h.r0 u ((updV_ne (by decide)).symm.trans hu)),
    r1 := (fun u hu => h.r1 u ((updV_ne (by decide)).symm.trans hu)),
    r2 := (fun u hu => h.r2 u ((updV_ne (by decide)).symm.trans hu)),
    r3 := (fun u hu => by have e := Option.some.inj ((updV_same _ _ _).symm.trans hu); subst e; exact hv),
    r4 := (fun u hu => no ((updV_ne (by decide)).symm.trans hu) n4),
    r5 := (fun u hu => h.r5 u ((updV_ne (by decide)).symm.trans hu)),
    r6 := (fun u hu => no ((updV_ne (by decide)).symm.trans hu) n6),
    r7 := (fun u hu => h.r7 u ((updV_ne (by decide)).symm.trans hu)),
    r8 := (fun u hu hd => by obtain ⟨y, hy⟩ := h.r8 u ((updV_ne (by decide)).symm.trans hu) ((updV_ne (by decide)).symm.trans hd); exact ⟨y, rs_gro hy hm.2⟩),
    r9 := (fun u hu => no ((updV_ne (by decide)).symm.trans hu) n9),
    r10 := (fun u hu => no ((updV_ne (by decide)).symm.trans hu) n10),
    r11 := (fun u hu hd => no ((updV_ne (by decide)).symm.trans hu) n11),
    r12 := (fun u hu => no ((updV_ne (by decide)).symm.trans hu) n12),
    r13 := (fun u hu => h.r13 u ((updV_ne (by decide)).symm.trans hu)),
    r14 := (fun u hu => no ((updV_ne (by decide)).symm.trans hu) n14) }
theorem A6_4 {B : Nat} {l : List Int} {a0 K : Nat} {w0 wX : World} {RT : Nat} {n : Int} {Av : Option Addr} {cv : Nat} {L : List St} {V : Nat → Option Value} {w : World} (h : A6 B l a0 K w0 wX RT n Av cv L V w) (d : DA6 V) (hi : V 4 = none) (p3 : (V 3).isSome = true) (hWX : w0.heap.size ≤ wX.heap.size) (hRT : RT < wX.heap.size) (v : Value) (hv : ∃ x : Int, v = .int .i64 x) : A6 B l a0 K w0 wX RT n Av cv L (updV V 4 v) w := by
  have n10 : V 10 = none := none_of d.d10_4 hi
  have n11 : V 11 = none := none_of d.d11_10 n10
  have n12 : V 12 = none := none_of d.d12_11 n11
  have n14 : V 14 = none := none_of d.d14_12 n12
  have p2 := d.d3_2 p3
  exact {
    sz := (h.sz),
    s0 := (fun hn => h.s0 ((updV_ne (by decide)).symm.trans hn)),
    s1 := (fun hs hn => h.s1 (upd_some hs (by decide)) ((updV_ne (by decide)).symm.trans hn)),
    s2 := (fun hs hn => h.s2 (upd_some hs (by decide)) ((updV_ne (by decide)).symm.trans hn)),
    s3 := (fun hs hn => h.s3 (upd_some hs (by decide)) ((updV_ne (by decide)).symm.trans hn)),
    r0 := (fun u hu => h.r0 u ((updV_ne (by decide)).symm.trans hu)),
    r1 := (fun u hu => h.r1 u ((updV_ne (by decide)).symm.trans hu)),
    r2 := (fun u hu => h.r2 u ((updV_ne (by decide)).symm.trans hu)),
    r3 := (fun u hu => h.r3 u ((updV_ne (by decide)).symm.trans hu)),
    r4 := (fun u hu => by have e := Option.some.inj ((updV_same _ _ _).symm.trans hu); subst e; exact hv),
    r5 := (fun u hu => h.r5 u ((updV_ne (by decide)).symm.trans hu)),
    r6 := (fun u hu => h.r6 u ((updV_ne (by decide)).symm.trans hu)),
    r7 := (fun u hu => h.r7 u ((updV_ne (by decide)).symm.trans hu)),
    r8 := (fun u hu hd => h.r8 u ((updV_ne (by decide)).symm.trans hu) ((updV_ne (by decide)).symm.trans hd)),
    r9 := (fun u hu => h.r9 u ((updV_ne (by decide)).symm.trans hu)),
    r10 := (fun u hu => no ((updV_ne (by decide)).symm.trans hu) n10),
    r11 := (fun u hu hd => no ((updV_ne (by decide)).symm.trans hu) n11),
    r12 := (fun u hu => no ((updV_ne (by decide)).symm.trans hu) n12),
    r13 := (fun u hu => h.r13 u ((updV_ne (by decide)).symm.trans hu)),
    r14 := (fun u hu => no ((updV_ne (by decide)).symm.trans hu) n14) }
theorem A6_5 {B : Nat} {l : List Int} {a0 K : Nat} {w0 wX : World} {RT : Nat} {n : Int} {Av : Option Addr} {cv : Nat} {L : List St} {V : Nat → Option Value} {w : World} (h : A6 B l a0 K w0 wX RT n Av cv L V w) (d : DA6 V) (hi : V 5 = none) (hWX : w0.heap.size ≤ wX.heap.size) (hRT : RT < wX.heap.size) (v : Value) (hv : v = .pointer (some ⟨B, 0, none⟩)) : A6 B l a0 K w0 wX RT n Av cv L (updV V 5 v) w := by
  have n6 : V 6 = none := none_of d.d6_5 hi
  have n9 : V 9 = none := none_of d.d9_6 n6
  have n10 : V 10 = none := none_of d.d10_6 n6
  have n11 : V 11 = none := none_of d.d11_10 n10
  have n12 : V 12 = none := none_of d.d12_11 n11
  have n14 : V 14 = none := none_of d.d14_12 n12
  exact {
    sz := (h.sz),
    s0 := (fun hn => h.s0 ((updV_ne (by decide)).symm.trans hn)),
    s1 := (fun hs hn => h.s1 (upd_some hs (by decide)) ((updV_ne (by decide)).symm.trans hn)),
    s2 := (fun hs hn => h.s2 (upd_some hs (by decide)) ((updV_ne (by decide)).symm.trans hn)),
    s3 := (fun hs hn => h.s3 (upd_some hs (by decide)) ((updV_ne (by decide)).symm.trans hn)),
    r0 := (fun u hu => h.r0 u ((updV_ne (by decide)).symm.trans hu)),
    r1 := (fun u hu => h.r1 u ((updV_ne (by decide)).symm.trans hu)),
    r2 := (fun u hu => h.r2 u ((updV_ne (by decide)).symm.trans hu)),
    r3 := (fun u hu => h.r3 u ((updV_ne (by decide)).symm.trans hu)),
    r4 := (fun u hu => h.r4 u ((updV_ne (by decide)).symm.trans hu)),
    r5 := (fun u hu => by have e := Option.some.inj ((updV_same _ _ _).symm.trans hu); subst e; exact hv),
    r6 := (fun u hu => no ((updV_ne (by decide)).symm.trans hu) n6),
    r7 := (fun u hu => h.r7 u ((updV_ne (by decide)).symm.trans hu)),
    r8 := (fun u hu hd => h.r8 u ((updV_ne (by decide)).symm.trans hu) ((updV_ne (by decide)).symm.trans hd)),
    r9 := (fun u hu => no ((updV_ne (by decide)).symm.trans hu) n9),
    r10 := (fun u hu => no ((updV_ne (by decide)).symm.trans hu) n10),
    r11 := (fun u hu hd => no ((updV_ne (by decide)).symm.trans hu) n11),
    r12 := (fun u hu => no ((updV_ne (by decide)).symm.trans hu) n12),
    r13 := (fun u hu => h.r13 u ((updV_ne (by decide)).symm.trans hu)),
    r14 := (fun u hu => no ((updV_ne (by decide)).symm.trans hu) n14) }
theorem A6_6 {B : Nat} {l : List Int} {a0 K : Nat} {w0 wX : World} {RT : Nat} {n : Int} {Av : Option Addr} {cv : Nat} {L : List St} {V : Nat → Option Value} {w : World} (h : A6 B l a0 K w0 wX RT n Av cv L V w) (d : DA6 V) (hi : V 6 = none) (p5 : (V 5).isSome = true) (p3 : (V 3).isSome = true) (hWX : w0.heap.size ≤ wX.heap.size) (hRT : RT < wX.heap.size) (w2 : World) (hm : Drew B l (a0 + (K + 2)) 2 w w2) (hB : B < w0.heap.size) (v : Value) (hv : ∃ x : Int, v = .int .i64 x) : A6 B l a0 K w0 wX RT n Av cv L (updV V 6 v) w2 := by
  have n9 : V 9 = none := none_of d.d9_6 hi
  have n10 : V 10 = none := none_of d.d10_6 hi
  have n11 : V 11 = none := none_of d.d11_10 n10
  have n12 : V 12 = none := none_of d.d12_11 n11
  have n14 : V 14 = none := none_of d.d14_12 n12
  have p2 := d.d3_2 p3
  exact {
    sz := (Nat.le_trans h.sz hm.2.size),
    s0 := (fun hn => noS p3 ((updV_ne (by decide)).symm.trans hn)),
    s1 := (fun hs hn => no (updV_same _ _ _) hn),
    s2 := (fun hs hn => anyT_more (anyT_drew (h.s1 p3 hi) hm hB) (by omega)),
    s3 := (fun hs hn => noS (upd_some hs (by decide)) n9),
    r0 := (fun u hu => h.r0 u ((updV_ne (by decide)).symm.trans hu)),
    r1 := (fun u hu => h.r1 u ((updV_ne (by decide)).symm.trans hu)),
    r2 := (fun u hu => h.r2 u ((updV_ne (by decide)).symm.trans hu)),
    r3 := (fun u hu => h.r3 u ((updV_ne (by decide)).symm.trans hu)),
    r4 := (fun u hu => h.r4 u ((updV_ne (by decide)).symm.trans hu)),
    r5 := (fun u hu => h.r5 u ((updV_ne (by decide)).symm.trans hu)),
    r6 := (fun u hu => by have e := Option.some.inj ((updV_same _ _ _).symm.trans hu); subst e; exact hv),
    r7 := (fun u hu => h.r7 u ((updV_ne (by decide)).symm.trans hu)),
    r8 := (fun u hu hd => by obtain ⟨y, hy⟩ := h.r8 u ((updV_ne (by decide)).symm.trans hu) ((updV_ne (by decide)).symm.trans hd); exact ⟨y, rs_gro hy hm.2⟩),
    r9 := (fun u hu => no ((updV_ne (by decide)).symm.trans hu) n9),
    r10 := (fun u hu => no ((updV_ne (by decide)).symm.trans hu) n10),
    r11 := (fun u hu hd => no ((updV_ne (by decide)).symm.trans hu) n11),
    r12 := (fun u hu => no ((updV_ne (by decide)).symm.trans hu) n12),
    r13 := (fun u hu => h.r13 u ((updV_ne (by decide)).symm.trans hu)),
    r14 := (fun u hu => no ((updV_ne (by decide)).symm.trans hu) n14) }
theorem A6_7 {B : Nat} {l : List Int} {a0 K : Nat} {w0 wX : World} {RT : Nat} {n : Int} {Av : Option Addr} {cv : Nat} {L : List St} {V : Nat → Option Value} {w : World} (h : A6 B l a0 K w0 wX RT n Av cv L V w) (d : DA6 V) (hi : V 7 = none) (hWX : w0.heap.size ≤ wX.heap.size) (hRT : RT < wX.heap.size) (v : Value) (hv : v = .pointer (some ⟨B, 0, none⟩)) : A6 B l a0 K w0 wX RT n Av cv L (updV V 7 v) w := by
  have n9 : V 9 = none := none_of d.d9_7 hi
  have n10 : V 10 = none := none_of d.d10_9 n9
  have n11 : V 11 = none := none_of d.d11_10 n10
  have n12 : V 12 = none := none_of d.d12_11 n11
  have n14 : V 14 = none := none_of d.d14_12 n12
  exact {
    sz := (h.sz),
    s0 := (fun hn => h.s0 ((updV_ne (by decide)).symm.trans hn)),
    s1 := (fun hs hn => h.s1 (upd_some hs (by decide)) ((updV_ne (by decide)).symm.trans hn)),
    s2 := (fun hs hn => h.s2 (upd_some hs (by decide)) ((updV_ne (by decide)).symm.trans hn)),
    s3 := (fun hs hn => h.s3 (upd_some hs (by decide)) ((updV_ne (by decide)).symm.trans hn)),
    r0 := (fun u hu => h.r0 u ((updV_ne (by decide)).symm.trans hu)),
    r1 := (fun u hu => h.r1 u ((updV_ne (by decide)).symm.trans hu)),
    r2 := (fun u hu => h.r2 u ((updV_ne (by decide)).symm.trans hu)),
    r3 := (fun u hu => h.r3 u ((updV_ne (by decide)).symm.trans hu)),
    r4 := (fun u hu => h.r4 u ((updV_ne (by decide)).symm.trans hu)),
    r5 := (fun u hu => h.r5 u ((updV_ne (by decide)).symm.trans hu)),
    r6 := (fun u hu => h.r6 u ((updV_ne (by decide)).symm.trans hu)),
    r7 := (fun u hu => by have e := Option.some.inj ((updV_same _ _ _).symm.trans hu); subst e; exact hv),
    r8 := (fun u hu hd => h.r8 u ((updV_ne (by decide)).symm.trans hu) ((updV_ne (by decide)).symm.trans hd)),
    r9 := (fun u hu => no ((updV_ne (by decide)).symm.trans hu) n9),
    r10 := (fun u hu => no ((updV_ne (by decide)).symm.trans hu) n10),
    r11 := (fun u hu hd => no ((updV_ne (by decide)).symm.trans hu) n11),
    r12 := (fun u hu => no ((updV_ne (by decide)).symm.trans hu) n12),
    r13 := (fun u hu => h.r13 u ((updV_ne (by decide)).symm.trans hu)),
    r14 := (fun u hu => no ((updV_ne (by decide)).symm.trans hu) n14) }
theorem A6_8 {B : Nat} {l : List Int} {a0 K : Nat} {w0 wX : World} {RT : Nat} {n : Int} {Av : Option Addr} {cv : Nat} {L : List St} {V : Nat → Option Value} {w : World} (h : A6 B l a0 K w0 wX RT n Av cv L V w) (d : DA6 V) (hi : V 8 = none) (hWX : w0.heap.size ≤ wX.heap.size) (hRT : RT < wX.heap.size) (ob : Obj) (v : Value) (hv : ∃ y : Int, RS B (w.alloc ob) (v) [60, 0, 3601]) : A6 B l a0 K w0 wX RT n Av cv L (updV V 8 v) (w.alloc ob) := by
  have n9 : V 9 = none := none_of d.d9_8 hi
  have n10 : V 10 = none := none_of d.d10_9 n9
  have n11 : V 11 = none := none_of d.d11_10 n10
  have n12 : V 12 = none := none_of d.d12_11 n11
  have n14 : V 14 = none := none_of d.d14_12 n12
  exact {
    sz := (Nat.le_trans h.sz (by simp)),
    s0 := (fun hn => anyT_bel (h.s0 ((updV_ne (by decide)).symm.trans hn)) (bel_al (Below.refl _ _) _)),
    s1 := (fun hs hn => anyT_bel (h.s1 (upd_some hs (by decide)) ((updV_ne (by decide)).symm.trans hn)) (bel_al (Below.refl _ _) _)),
    s2 := (fun hs hn => anyT_bel (h.s2 (upd_some hs (by decide)) ((updV_ne (by decide)).symm.trans hn)) (bel_al (Below.refl _ _) _)),
    s3 := (fun hs hn => anyT_bel (h.s3 (upd_some hs (by decide)) ((updV_ne (by decide)).symm.trans hn)) (bel_al (Below.refl _ _) _)),
    r0 := (fun u hu => h.r0 u ((updV_ne (by decide)).symm.trans hu)),
    r1 := (fun u hu => h.r1 u ((updV_ne (by decide)).symm.trans hu)),
    r2 := (fun u hu => h.r2 u ((updV_ne (by decide)).symm.trans hu)),
    r3 := (fun u hu => h.r3 u ((updV_ne (by decide)).symm.trans hu)),
    r4 := (fun u hu => h.r4 u ((updV_ne (by decide)).symm.trans hu)),
    r5 := (fun u hu => h.r5 u ((updV_ne (by decide)).symm.trans hu)),
    r6 := (fun u hu => h.r6 u ((updV_ne (by decide)).symm.trans hu)),
    r7 := (fun u hu => h.r7 u ((updV_ne (by decide)).symm.trans hu)),
    r8 := (fun u hu hd => by have e := Option.some.inj ((updV_same _ _ _).symm.trans hu); subst e; exact hv),
    r9 := (fun u hu => no ((updV_ne (by decide)).symm.trans hu) n9),
    r10 := (fun u hu => no ((updV_ne (by decide)).symm.trans hu) n10),
    r11 := (fun u hu hd => no ((updV_ne (by decide)).symm.trans hu) n11),
    r12 := (fun u hu => no ((updV_ne (by decide)).symm.trans hu) n12),
    r13 := (fun u hu => h.r13 u ((updV_ne (by decide)).symm.trans hu)),
    r14 := (fun u hu => no ((updV_ne (by decide)).symm.trans hu) n14) }
theorem A6_9 {B : Nat} {l : List Int} {a0 K : Nat} {w0 wX : World} {RT : Nat} {n : Int} {Av : Option Addr} {cv : Nat} {L : List St} {V : Nat → Option Value} {w : World} (h : A6 B l a0 K w0 wX RT n Av cv L V w) (d : DA6 V) (hi : V 9 = none) (p7 : (V 7).isSome = true) (p8 : (V 8).isSome = true) (p6 : (V 6).isSome = true) (hWX : w0.heap.size ≤ wX.heap.size) (hRT : RT < wX.heap.size) (w2 : World) (hm : Drew B l (a0 + (K + 4)) 2 w w2) (hB : B < w0.heap.size) (v : Value) (hv : ∃ x : Int, v = .int .i64 x) : A6 B l a0 K w0 wX RT n Av cv L (updV V 9 v) w2 := by
  have n10 : V 10 = none := none_of d.d10_9 hi
  have n11 : V 11 = none := none_of d.d11_10 n10
  have n12 : V 12 = none := none_of d.d12_11 n11
  have n14 : V 14 = none := none_of d.d14_12 n12
  have p5 := d.d6_5 p6
  have p3 := d.d6_3 p6
  have p2 := d.d3_2 p3
  exact {
    sz := (Nat.le_trans h.sz hm.2.size),
    s0 := (fun hn => noS p3 ((updV_ne (by decide)).symm.trans hn)),
    s1 := (fun hs hn => noS p6 ((updV_ne (by decide)).symm.trans hn)),
    s2 := (fun hs hn => no (updV_same _ _ _) hn),
    s3 := (fun hs hn => anyT_more (anyT_drew (h.s2 p6 hi) hm hB) (by omega)),
    r0 := (fun u hu => h.r0 u ((updV_ne (by decide)).symm.trans hu)),
    r1 := (fun u hu => h.r1 u ((updV_ne (by decide)).symm.trans hu)),
    r2 := (fun u hu => h.r2 u ((updV_ne (by decide)).symm.trans hu)),
    r3 := (fun u hu => h.r3 u ((updV_ne (by decide)).symm.trans hu)),
    r4 := (fun u hu => h.r4 u ((updV_ne (by decide)).symm.trans hu)),
    r5 := (fun u hu => h.r5 u ((updV_ne (by decide)).symm.trans hu)),
    r6 := (fun u hu => h.r6 u ((updV_ne (by decide)).symm.trans hu)),
    r7 := (fun u hu => h.r7 u ((updV_ne (by decide)).symm.trans hu)),
    r8 := (fun u hu hd => no (updV_same _ _ _) hd),
    r9 := (fun u hu => by have e := Option.some.inj ((updV_same _ _ _).symm.trans hu); subst e; exact hv),
    r10 := (fun u hu => no ((updV_ne (by decide)).symm.trans hu) n10),
    r11 := (fun u hu hd => no ((updV_ne (by decide)).symm.trans hu) n11),
    r12 := (fun u hu => no ((updV_ne (by decide)).symm.trans hu) n12),
    r13 := (fun u hu => h.r13 u ((updV_ne (by decide)).symm.trans hu)),
    r14 := (fun u hu => no ((updV_ne (by decide)).symm.trans hu) n14) }
theorem A6_10 {B : Nat} {l : List Int} {a0 K : Nat} {w0 wX : World} {RT : Nat} {n : Int} {Av : Option Addr} {cv : Nat} {L : List St} {V : Nat → Option Value} {w : World} (h : A6 B l a0 K w0 wX RT n Av cv L V w) (d : DA6 V) (hi : V 10 = none) (p4 : (V 4).isSome = true) (p6 : (V 6).isSome = true) (p9 : (V 9).isSome = true) (hWX : w0.heap.size ≤ wX.heap.size) (hRT : RT < wX.heap.size) (v : Value) (hv : ∃ f t s : Int, v = .agg #[.int .i64 f, .int .i64 t, .int .i64 s]) : A6 B l a0 K w0 wX RT n Av cv L (updV V 10 v) w := by
  have n11 : V 11 = none := none_of d.d11_10 hi
  have n12 : V 12 = none := none_of d.d12_11 n11
  have n14 : V 14 = none := none_of d.d14_12 n12
  have p8 := d.d9_8 p9
  have p7 := d.d9_7 p9
  have p5 := d.d6_5 p6
  have p3 := d.d6_3 p6
  have p2 := d.d3_2 p3
  exact {
    sz := (h.sz),
    s0 := (fun hn => h.s0 ((updV_ne (by decide)).symm.trans hn)),
    s1 := (fun hs hn => h.s1 (upd_some hs (by decide)) ((updV_ne (by decide)).symm.trans hn)),
    s2 := (fun hs hn => h.s2 (upd_some hs (by decide)) ((updV_ne (by decide)).symm.trans hn)),
    s3 := (fun hs hn => h.s3 (upd_some hs (by decide)) ((updV_ne (by decide)).symm.trans hn)),
    r0 := (fun u hu => h.r0 u ((updV_ne (by decide)).symm.trans hu)),
    r1 := (fun u hu => h.r1 u ((updV_ne (by decide)).symm.trans hu)),
    r2 := (fun u hu => h.r2 u ((updV_ne (by decide)).symm.trans hu)),
    r3 := (fun u hu => h.r3 u ((updV_ne (by decide)).symm.trans hu)),
    r4 := (fun u hu => h.r4 u ((updV_ne (by decide)).symm.trans hu)),
    r5 := (fun u hu => h.r5 u ((updV_ne (by decide)).symm.trans hu)),
    r6 := (fun u hu => h.r6 u ((updV_ne (by decide)).symm.trans hu)),
    r7 := (fun u hu => h.r7 u ((updV_ne (by decide)).symm.trans hu)),
    r8 := (fun u hu hd => noS p9 ((updV_ne (by decide)).symm.trans hd)),
    r9 := (fun u hu => h.r9 u ((updV_ne (by decide)).symm.trans hu)),
    r10 := (fun u hu => by have e := Option.some.inj ((updV_same _ _ _).symm.trans hu); subst e; exact hv),
    r11 := (fun u hu hd => no ((updV_ne (by decide)).symm.trans hu) n11),
    r12 := (fun u hu => no ((updV_ne (by decide)).symm.trans hu) n12),
    r13 := (fun u hu => h.r13 u ((updV_ne (by decide)).symm.trans hu)),
    r14 := (fun u hu => no ((updV_ne (by decide)).symm.trans hu) n14) }
theorem A6_11 {B : Nat} {l : List Int} {a0 K : Nat} {w0 wX : World} {RT : Nat} {n : Int} {Av : Option Addr} {cv : Nat} {L : List St} {V : Nat → Option Value} {w : World} (h : A6 B l a0 K w0 wX RT n Av cv L V w) (d : DA6 V) (hi : V 11 = none) (p10 : (V 10).isSome = true) (hWX : w0.heap.size ≤ wX.heap.size) (hRT : RT < wX.heap.size) (ob : Obj) (v : Value) (hv : ∃ f t s : Int, World.ownsRow (w.alloc ob) wX.heap.size 144 3 v 1 [.int .i64 f, .int .i64 t, .int .i64 s]) : A6 B l a0 K w0 wX RT n Av cv L (updV V 11 v) (w.alloc ob) := by
  have n12 : V 12 = none := none_of d.d12_11 hi
  have n14 : V 14 = none := none_of d.d14_12 n12
  have p9 := d.d10_9 p10
  have p8 := d.d9_8 p9
  have p7 := d.d9_7 p9
  have p6 := d.d10_6 p10
  have p5 := d.d6_5 p6
  have p4 := d.d10_4 p10
  have p3 := d.d6_3 p6
  have p2 := d.d3_2 p3
  exact {
    sz := (Nat.le_trans h.sz (by simp)),
    s0 := (fun hn => anyT_bel (h.s0 ((updV_ne (by decide)).symm.trans hn)) (bel_al (Below.refl _ _) _)),
    s1 := (fun hs hn => anyT_bel (h.s1 (upd_some hs (by decide)) ((updV_ne (by decide)).symm.trans hn)) (bel_al (Below.refl _ _) _)),
    s2 := (fun hs hn => anyT_bel (h.s2 (upd_some hs (by decide)) ((updV_ne (by decide)).symm.trans hn)) (bel_al (Below.refl _ _) _)),
    s3 := (fun hs hn => anyT_bel (h.s3 (upd_some hs (by decide)) ((updV_ne (by decide)).symm.trans hn)) (bel_al (Below.refl _ _) _)),
    r0 := (fun u hu => h.r0 u ((updV_ne (by decide)).symm.trans hu)),
    r1 := (fun u hu => h.r1 u ((updV_ne (by decide)).symm.trans hu)),
    r2 := (fun u hu => h.r2 u ((updV_ne (by decide)).symm.trans hu)),
    r3 := (fun u hu => h.r3 u ((updV_ne (by decide)).symm.trans hu)),
    r4 := (fun u hu => h.r4 u ((updV_ne (by decide)).symm.trans hu)),
    r5 := (fun u hu => h.r5 u ((updV_ne (by decide)).symm.trans hu)),
    r6 := (fun u hu => h.r6 u ((updV_ne (by decide)).symm.trans hu)),
    r7 := (fun u hu => h.r7 u ((updV_ne (by decide)).symm.trans hu)),
    r8 := (fun u hu hd => noS p9 ((updV_ne (by decide)).symm.trans hd)),
    r9 := (fun u hu => h.r9 u ((updV_ne (by decide)).symm.trans hu)),
    r10 := (fun u hu => h.r10 u ((updV_ne (by decide)).symm.trans hu)),
    r11 := (fun u hu hd => by have e := Option.some.inj ((updV_same _ _ _).symm.trans hu); subst e; exact hv),
    r12 := (fun u hu => no ((updV_ne (by decide)).symm.trans hu) n12),
    r13 := (fun u hu => h.r13 u ((updV_ne (by decide)).symm.trans hu)),
    r14 := (fun u hu => no ((updV_ne (by decide)).symm.trans hu) n14) }
theorem A6_12 {B : Nat} {l : List Int} {a0 K : Nat} {w0 wX : World} {RT : Nat} {n : Int} {Av : Option Addr} {cv : Nat} {L : List St} {V : Nat → Option Value} {w : World} (h : A6 B l a0 K w0 wX RT n Av cv L V w) (d : DA6 V) (hi : V 12 = none) (p1 : (V 1).isSome = true) (p11 : (V 11).isSome = true) (p9 : (V 9).isSome = true) (hWX : w0.heap.size ≤ wX.heap.size) (hRT : RT < wX.heap.size) (w2 : World) (hg : w.grownBy w2 (Value.slice Av L.length cv).ownBlock) (v : Value) (hv : ∃ (A' : Option Addr) (c' : Nat) (L' : List St), v = .slice A' L'.length c' ∧ (updV V 12 v 14 = none → AppT B l a0 (K + 6) w0 RT n (.slice Av L.length cv) (.slice A' L'.length c') L' w2)) : A6 B l a0 K w0 wX RT n Av cv L (updV V 12 v) w2 := by
  have n14 : V 14 = none := none_of d.d14_12 hi
  have p10 := d.d11_10 p11
  have p8 := d.d9_8 p9
  have p7 := d.d9_7 p9
  have p6 := d.d10_6 p10
  have p5 := d.d6_5 p6
  have p4 := d.d10_4 p10
  have p3 := d.d6_3 p6
  have p2 := d.d3_2 p3
  have p0 := d.d1_0 p1
  exact {
    sz := (Nat.le_trans h.sz hg.size),
    s0 := (fun hn => noS p3 ((updV_ne (by decide)).symm.trans hn)),
    s1 := (fun hs hn => noS p6 ((updV_ne (by decide)).symm.trans hn)),
    s2 := (fun hs hn => noS p9 ((updV_ne (by decide)).symm.trans hn)),
    s3 := (fun hs hn => no (updV_same _ _ _) hn),
    r0 := (fun u hu => h.r0 u ((updV_ne (by decide)).symm.trans hu)),
    r1 := (fun u hu => h.r1 u ((updV_ne (by decide)).symm.trans hu)),
    r2 := (fun u hu => h.r2 u ((updV_ne (by decide)).symm.trans hu)),
    r3 := (fun u hu => h.r3 u ((updV_ne (by decide)).symm.trans hu)),
    r4 := (fun u hu => h.r4 u ((updV_ne (by decide)).symm.trans hu)),
    r5 := (fun u hu => h.r5 u ((updV_ne (by decide)).symm.trans hu)),
    r6 := (fun u hu => h.r6 u ((updV_ne (by decide)).symm.trans hu)),
    r7 := (fun u hu => h.r7 u ((updV_ne (by decide)).symm.trans hu)),
    r8 := (fun u hu hd => noS p9 ((updV_ne (by decide)).symm.trans hd)),
    r9 := (fun u hu => h.r9 u ((updV_ne (by decide)).symm.trans hu)),
    r10 := (fun u hu => h.r10 u ((updV_ne (by decide)).symm.trans hu)),
    r11 := (fun u hu hd => no (updV_same _ _ _) hd),
    r12 := (fun u hu => by have e := Option.some.inj ((updV_same _ _ _).symm.trans hu); subst e; exact hv),
    r13 := (fun u hu => h.r13 u ((updV_ne (by decide)).symm.trans hu)),
    r14 := (fun u hu => no ((updV_ne (by decide)).symm.trans hu) n14) }
theorem A6_13 {B : Nat} {l : List Int} {a0 K : Nat} {w0 wX : World} {RT : Nat} {n : Int} {Av : Option Addr} {cv : Nat} {L : List St} {V : Nat → Option Value} {w : World} (h : A6 B l a0 K w0 wX RT n Av cv L V w) (d : DA6 V) (hi : V 13 = none) (hWX : w0.heap.size ≤ wX.heap.size) (hRT : RT < wX.heap.size) (v : Value) (hv : v = .pointer (some ⟨RT, 1, none⟩)) : A6 B l a0 K w0 wX RT n Av cv L (updV V 13 v) w := by
  have n14 : V 14 = none := none_of d.d14_13 hi
  exact {
    sz := (h.sz),
    s0 := (fun hn => h.s0 ((updV_ne (by decide)).symm.trans hn)),
    s1 := (fun hs hn => h.s1 (upd_some hs (by decide)) ((updV_ne (by decide)).symm.trans hn)),
    s2 := (fun hs hn => h.s2 (upd_some hs (by decide)) ((updV_ne (by decide)).symm.trans hn)),
    s3 := (fun hs hn => h.s3 (upd_some hs (by decide)) ((updV_ne (by decide)).symm.trans hn)),
    r0 := (fun u hu => h.r0 u ((updV_ne (by decide)).symm.trans hu)),
    r1 := (fun u hu => h.r1 u ((updV_ne (by decide)).symm.trans hu)),
    r2 := (fun u hu => h.r2 u ((updV_ne (by decide)).symm.trans hu)),
    r3 := (fun u hu => h.r3 u ((updV_ne (by decide)).symm.trans hu)),
    r4 := (fun u hu => h.r4 u ((updV_ne (by decide)).symm.trans hu)),
    r5 := (fun u hu => h.r5 u ((updV_ne (by decide)).symm.trans hu)),
    r6 := (fun u hu => h.r6 u ((updV_ne (by decide)).symm.trans hu)),
    r7 := (fun u hu => h.r7 u ((updV_ne (by decide)).symm.trans hu)),
    r8 := (fun u hu hd => h.r8 u ((updV_ne (by decide)).symm.trans hu) ((updV_ne (by decide)).symm.trans hd)),
    r9 := (fun u hu => h.r9 u ((updV_ne (by decide)).symm.trans hu)),
    r10 := (fun u hu => h.r10 u ((updV_ne (by decide)).symm.trans hu)),
    r11 := (fun u hu hd => h.r11 u ((updV_ne (by decide)).symm.trans hu) ((updV_ne (by decide)).symm.trans hd)),
    r12 := (fun u hu => by obtain ⟨A', c', L', e, hh⟩ := h.r12 u ((updV_ne (by decide)).symm.trans hu); exact ⟨A', c', L', e, fun hz => hh ((updV_ne (by decide)).symm.trans hz)⟩),
    r13 := (fun u hu => by have e := Option.some.inj ((updV_same _ _ _).symm.trans hu); subst e; exact hv),
    r14 := (fun u hu => no ((updV_ne (by decide)).symm.trans hu) n14) }
theorem A6_14 {B : Nat} {l : List Int} {a0 K : Nat} {w0 wX : World} {RT : Nat} {n : Int} {Av : Option Addr} {cv : Nat} {L : List St} {V : Nat → Option Value} {w : World} (h : A6 B l a0 K w0 wX RT n Av cv L V w) (d : DA6 V) (hi : V 14 = none) (p13 : (V 13).isSome = true) (p12 : (V 12).isSome = true) (hWX : w0.heap.size ≤ wX.heap.size) (hRT : RT < wX.heap.size) (w2 : World) (hs2 : w.heap.size ≤ w2.heap.size) (v : Value) (hv : ∃ (A' : Option Addr) (c' : Nat) (L' : List St), updV V 14 v 12 = some (.slice A' L'.length c') ∧ AnyT B l a0 (K + 6) w0 RT n (.slice A' L'.length c') L' w2) : A6 B l a0 K w0 wX RT n Av cv L (updV V 14 v) w2 := by
  have p11 := d.d12_11 p12
  have p10 := d.d11_10 p11
  have p9 := d.d12_9 p12
  have p8 := d.d9_8 p9
  have p7 := d.d9_7 p9
  have p6 := d.d10_6 p10
  have p5 := d.d6_5 p6
  have p4 := d.d10_4 p10
  have p3 := d.d6_3 p6
  have p2 := d.d3_2 p3
  have p1 := d.d12_1 p12
  have p0 := d.d1_0 p1
  exact {
    sz := (Nat.le_trans h.sz hs2),
    s0 := (fun hn => noS p3 ((updV_ne (by decide)).symm.trans hn)),
    s1 := (fun hs hn => noS p6 ((updV_ne (by decide)).symm.trans hn)),
    s2 := (fun hs hn => noS p9 ((updV_ne (by decide)).symm.trans hn)),
    s3 := (fun hs hn => noS p12 ((updV_ne (by decide)).symm.trans hn)),
    r0 := (fun u hu => h.r0 u ((updV_ne (by decide)).symm.trans hu)),
    r1 := (fun u hu => h.r1 u ((updV_ne (by decide)).symm.trans hu)),
    r2 := (fun u hu => h.r2 u ((updV_ne (by decide)).symm.trans hu)),
    r3 := (fun u hu => h.r3 u ((updV_ne (by decide)).symm.trans hu)),
    r4 := (fun u hu => h.r4 u ((updV_ne (by decide)).symm.trans hu)),
    r5 := (fun u hu => h.r5 u ((updV_ne (by decide)).symm.trans hu)),
    r6 := (fun u hu => h.r6 u ((updV_ne (by decide)).symm.trans hu)),
    r7 := (fun u hu => h.r7 u ((updV_ne (by decide)).symm.trans hu)),
    r8 := (fun u hu hd => noS p9 ((updV_ne (by decide)).symm.trans hd)),
    r9 := (fun u hu => h.r9 u ((updV_ne (by decide)).symm.trans hu)),
    r10 := (fun u hu => h.r10 u ((updV_ne (by decide)).symm.trans hu)),
    r11 := (fun u hu hd => noS p12 ((updV_ne (by decide)).symm.trans hd)),
    r12 := (fun u hu => by obtain ⟨A', c', L', e, hh⟩ := h.r12 u ((updV_ne (by decide)).symm.trans hu); exact ⟨A', c', L', e, fun hz => no (updV_same _ _ _) hz⟩),
    r13 := (fun u hu => h.r13 u ((updV_ne (by decide)).symm.trans hu)),
    r14 := (fun u hu => by have e := Option.some.inj ((updV_same _ _ _).symm.trans hu); subst e; exact hv) }
theorem A6_start {B : Nat} {l : List Int} {a0 K : Nat} {w0 wX : World} {RT : Nat} {n : Int} {Av : Option Addr} {cv : Nat} {L : List St} (h : AnyT B l a0 (K + 0) w0 RT n (.slice Av L.length cv) L wX) : A6 B l a0 K w0 wX RT n Av cv L (fun _ => none) wX.drew := {
    sz := (Nat.le_refl _),
    s0 := (fun _ => anyT_bel h (bel_dr (Below.refl _ _))),
    s1 := (fun hs => by cases hs),
    s2 := (fun hs => by cases hs),
    s3 := (fun hs => by cases hs),
    r0 := (fun v hv => by cases hv),
    r1 := (fun v hv => by cases hv),
    r2 := (fun v hv => by cases hv),
    r3 := (fun v hv => by cases hv),
    r4 := (fun v hv => by cases hv),
    r5 := (fun v hv => by cases hv),
    r6 := (fun v hv => by cases hv),
    r7 := (fun v hv => by cases hv),
    r8 := (fun v hv => by cases hv),
    r9 := (fun v hv => by cases hv),
    r10 := (fun v hv => by cases hv),
    r11 := (fun v hv => by cases hv),
    r12 := (fun v hv => by cases hv),
    r13 := (fun v hv => by cases hv),
    r14 := (fun v hv => by cases hv) }
set_option maxRecDepth 100000 in
theorem A6_op0 {B : Nat} {l : List Int} {a0 K : Nat} {w0 wX : World} {RT : Nat} {n : Int} {Av : Option Addr} {cv : Nat} {L : List St} {V : Nat → Option Value} {w : World} {a : Act} {KK : Act → World → Prop} {Q : Exit → Act → World → Prop} {ty : TypeId} {pp : String} {af : Array Edge} {gg : Option (Nat × Bool)} (HL : BytesOk l) (ha : a0 + K ≤ 4611686018427380000) (hB : B < w0.heap.size) (hWX : w0.heap.size ≤ wX.heap.size) (hRT : RT < wX.heap.size) (hL40 : L.length ≤ 40) (h : A6 B l a0 K w0 wX RT n Av cv L V w) (d : DA6 V) (hi : V 0 = none) (o3 : a.eval (.tmp 3) = .pointer (some ⟨RT, 0, none⟩)) (hK : ∀ v w', A6 B l a0 K w0 wX RT n Av cv L (updV V 0 v) w' → KK (a.put (some 18) v) w') : Oper.wp Tryz.prog { dst := some 18, op := .fieldAddr 47 (.tmp 3) 1, type := ty, pos := pp, after := af, guard := gg } a w KK Q := by
  unfold Oper.wp execOp
  simp only [List.map_toArray, List.map_cons, List.map_nil, List.size_toArray, o3]
  go_simp
  exact hK _ _ (A6_0 h d hi hWX hRT _ rfl)
set_option maxRecDepth 100000 in
theorem A6_op1 {B : Nat} {l : List Int} {a0 K : Nat} {w0 wX : World} {RT : Nat} {n : Int} {Av : Option Addr} {cv : Nat} {L : List St} {V : Nat → Option Value} {w : World} {a : Act} {KK : Act → World → Prop} {Q : Exit → Act → World → Prop} {ty : TypeId} {pp : String} {af : Array Edge} {gg : Option (Nat × Bool)} (HL : BytesOk l) (ha : a0 + K ≤ 4611686018427380000) (hB : B < w0.heap.size) (hWX : w0.heap.size ≤ wX.heap.size) (hRT : RT < wX.heap.size) (hL40 : L.length ≤ 40) (h : A6 B l a0 K w0 wX RT n Av cv L V w) (d : DA6 V) (hi : V 1 = none) (E18 : ∀ v, V 0 = some v → a.eval (.tmp 18) = v) (p0 : (V 0).isSome = true) (hK : ∀ v w', A6 B l a0 K w0 wX RT n Av cv L (updV V 1 v) w' → KK (a.put (some 19) v) w') : Oper.wp Tryz.prog { dst := some 19, op := .load 45 (.tmp 18), type := ty, pos := pp, after := af, guard := gg } a w KK Q := by
  obtain ⟨v0, hv0⟩ := some_of p0
  have e18 := E18 v0 hv0
  rw [h.r0 v0 hv0] at e18
  have n12 : V 12 = none := none_of d.d12_1 hi
  obtain ⟨k9, hk9, hst⟩ := h.any n12
  have t0 := hst.1.cellAt 0 (by omega)
  have t1 := hst.1.cellAt 1 (by omega)
  dsimp only [List.getElem?_cons_zero, List.getElem?_cons_succ] at t0 t1
  clear hst
  unfold Oper.wp execOp
  simp only [List.map_toArray, List.map_cons, List.map_nil, List.size_toArray, e18]
  go_simp
  exact hK _ _ (A6_1 h d hi p0 hWX hRT _ rfl)
set_option maxRecDepth 100000 in
theorem A6_op2 {B : Nat} {l : List Int} {a0 K : Nat} {w0 wX : World} {RT : Nat} {n : Int} {Av : Option Addr} {cv : Nat} {L : List St} {V : Nat → Option Value} {w : World} {a : Act} {KK : Act → World → Prop} {Q : Exit → Act → World → Prop} {ty : TypeId} {pp : String} {af : Array Edge} {gg : Option (Nat × Bool)} (HL : BytesOk l) (ha : a0 + K ≤ 4611686018427380000) (hB : B < w0.heap.size) (hWX : w0.heap.size ≤ wX.heap.size) (hRT : RT < wX.heap.size) (hL40 : L.length ≤ 40) (h : A6 B l a0 K w0 wX RT n Av cv L V w) (d : DA6 V) (hi : V 2 = none) (o0 : a.eval (.tmp 0) = .pointer (some ⟨B, 0, none⟩)) (hK : ∀ v w', A6 B l a0 K w0 wX RT n Av cv L (updV V 2 v) w' → KK (a.put (some 20) v) w') : Oper.wp Tryz.prog { dst := some 20, op := .move (.tmp 0), type := ty, pos := pp, after := af, guard := gg } a w KK Q := by
  unfold Oper.wp execOp
  simp only [List.map_toArray, List.map_cons, List.map_nil, List.size_toArray, o0]
  go_simp
  exact hK _ _ (A6_2 h d hi hWX hRT _ rfl)
set_option maxRecDepth 100000 in
theorem A6_op3 {B : Nat} {l : List Int} {a0 K : Nat} {w0 wX : World} {RT : Nat} {n : Int} {Av : Option Addr} {cv : Nat} {L : List St} {V : Nat → Option Value} {w : World} {a : Act} {KK : Act → World → Prop} {Q : Exit → Act → World → Prop} {ty : TypeId} {pp : String} {af : Array Edge} {gg : Option (Nat × Bool)} (HL : BytesOk l) (ha : a0 + K ≤ 4611686018427380000) (hB : B < w0.heap.size) (hWX : w0.heap.size ≤ wX.heap.size) (hRT : RT < wX.heap.size) (hL40 : L.length ≤ 40) (h : A6 B l a0 K w0 wX RT n Av cv L V w) (d : DA6 V) (hi : V 3 = none) (E20 : ∀ v, V 2 = some v → a.eval (.tmp 20) = v) (p2 : (V 2).isSome = true) (hK : ∀ v w', A6 B l a0 K w0 wX RT n Av cv L (updV V 3 v) w' → KK (a.put (some 21) v) w') : Oper.wp Tryz.prog { dst := some 21, op := .call { callee := .value (.func 71), args := #[.tmp 20, .const (.int .i64 3)], argTypes := #[78, 3] }, type := ty, pos := pp, after := af, guard := gg } a w KK Q := by
  obtain ⟨v2, hv2⟩ := some_of p2
  have e20 := E20 v2 hv2
  rw [h.r2 v2 hv2] at e20
  have hst := h.s0 hi
  have hc := hst.2.2.2.2.1.1
  clear hst
  unfold Oper.wp execOp
  go_simp
  rw [ev_get e20]
  refine (pick_c B l HL (a0 + (K + 0)) (by omega) 3 (by omega) w hc).mono ?_
  rintro e w2 ⟨x, rfl, hx, hd⟩
  exact hK _ _ (A6_3 h d hi p2 hWX hRT w2 hd hB _ ⟨_, rfl⟩)
set_option maxRecDepth 100000 in
theorem A6_op4 {B : Nat} {l : List Int} {a0 K : Nat} {w0 wX : World} {RT : Nat} {n : Int} {Av : Option Addr} {cv : Nat} {L : List St} {V : Nat → Option Value} {w : World} {a : Act} {KK : Act → World → Prop} {Q : Exit → Act → World → Prop} {ty : TypeId} {pp : String} {af : Array Edge} {gg : Option (Nat × Bool)} (HL : BytesOk l) (ha : a0 + K ≤ 4611686018427380000) (hB : B < w0.heap.size) (hWX : w0.heap.size ≤ wX.heap.size) (hRT : RT < wX.heap.size) (hL40 : L.length ≤ 40) (h : A6 B l a0 K w0 wX RT n Av cv L V w) (d : DA6 V) (hi : V 4 = none) (E21 : ∀ v, V 3 = some v → a.eval (.tmp 21) = v) (p3 : (V 3).isSome = true) (hK : ∀ v w', A6 B l a0 K w0 wX RT n Av cv L (updV V 4 v) w' → KK (a.put (some 22) v) w') : Oper.wp Tryz.prog { dst := some 22, op := .binOp .sub 3 (.tmp 21) (.const (.int .i64 1)) 3, type := ty, pos := pp, after := af, guard := gg } a w KK Q := by
  obtain ⟨v3, hv3⟩ := some_of p3
  have e21 := E21 v3 hv3
  obtain ⟨x3, q3⟩ := h.r3 v3 hv3
  rw [q3] at e21
  unfold Oper.wp execOp
  simp only [List.map_toArray, List.map_cons, List.map_nil, List.size_toArray, e21]
  go_simp
  exact hK _ _ (A6_4 h d hi p3 hWX hRT _ ⟨_, rfl⟩)
set_option maxRecDepth 100000 in
theorem A6_op5 {B : Nat} {l : List Int} {a0 K : Nat} {w0 wX : World} {RT : Nat} {n : Int} {Av : Option Addr} {cv : Nat} {L : List St} {V : Nat → Option Value} {w : World} {a : Act} {KK : Act → World → Prop} {Q : Exit → Act → World → Prop} {ty : TypeId} {pp : String} {af : Array Edge} {gg : Option (Nat × Bool)} (HL : BytesOk l) (ha : a0 + K ≤ 4611686018427380000) (hB : B < w0.heap.size) (hWX : w0.heap.size ≤ wX.heap.size) (hRT : RT < wX.heap.size) (hL40 : L.length ≤ 40) (h : A6 B l a0 K w0 wX RT n Av cv L V w) (d : DA6 V) (hi : V 5 = none) (o0 : a.eval (.tmp 0) = .pointer (some ⟨B, 0, none⟩)) (hK : ∀ v w', A6 B l a0 K w0 wX RT n Av cv L (updV V 5 v) w' → KK (a.put (some 23) v) w') : Oper.wp Tryz.prog { dst := some 23, op := .move (.tmp 0), type := ty, pos := pp, after := af, guard := gg } a w KK Q := by
  unfold Oper.wp execOp
  simp only [List.map_toArray, List.map_cons, List.map_nil, List.size_toArray, o0]
  go_simp
  exact hK _ _ (A6_5 h d hi hWX hRT _ rfl)
set_option maxRecDepth 100000 in
theorem A6_op6 {B : Nat} {l : List Int} {a0 K : Nat} {w0 wX : World} {RT : Nat} {n : Int} {Av : Option Addr} {cv : Nat} {L : List St} {V : Nat → Option Value} {w : World} {a : Act} {KK : Act → World → Prop} {Q : Exit → Act → World → Prop} {ty : TypeId} {pp : String} {af : Array Edge} {gg : Option (Nat × Bool)} (HL : BytesOk l) (ha : a0 + K ≤ 4611686018427380000) (hB : B < w0.heap.size) (hWX : w0.heap.size ≤ wX.heap.size) (hRT : RT < wX.heap.size) (hL40 : L.length ≤ 40) (h : A6 B l a0 K w0 wX RT n Av cv L V w) (d : DA6 V) (hi : V 6 = none) (E23 : ∀ v, V 5 = some v → a.eval (.tmp 23) = v) (p5 : (V 5).isSome = true) (p3 : (V 3).isSome = true) (hK : ∀ v w', A6 B l a0 K w0 wX RT n Av cv L (updV V 6 v) w' → KK (a.put (some 24) v) w') : Oper.wp Tryz.prog { dst := some 24, op := .call { callee := .value (.func 71), args := #[.tmp 23, .const (.int .i64 4)], argTypes := #[78, 3] }, type := ty, pos := pp, after := af, guard := gg } a w KK Q := by
  obtain ⟨v5, hv5⟩ := some_of p5
  have e23 := E23 v5 hv5
  rw [h.r5 v5 hv5] at e23
  have hst := h.s1 p3 hi
  have hc := hst.2.2.2.2.1.1
  clear hst
  unfold Oper.wp execOp
  go_simp
  rw [ev_get e23]
  refine (pick_c B l HL (a0 + (K + 2)) (by omega) 4 (by omega) w hc).mono ?_
  rintro e w2 ⟨x, rfl, hx, hd⟩
  exact hK _ _ (A6_6 h d hi p5 p3 hWX hRT w2 hd hB _ ⟨_, rfl⟩)
set_option maxRecDepth 100000 in
theorem A6_op7 {B : Nat} {l : List Int} {a0 K : Nat} {w0 wX : World} {RT : Nat} {n : Int} {Av : Option Addr} {cv : Nat} {L : List St} {V : Nat → Option Value} {w : World} {a : Act} {KK : Act → World → Prop} {Q : Exit → Act → World → Prop} {ty : TypeId} {pp : String} {af : Array Edge} {gg : Option (Nat × Bool)} (HL : BytesOk l) (ha : a0 + K ≤ 4611686018427380000) (hB : B < w0.heap.size) (hWX : w0.heap.size ≤ wX.heap.size) (hRT : RT < wX.heap.size) (hL40 : L.length ≤ 40) (h : A6 B l a0 K w0 wX RT n Av cv L V w) (d : DA6 V) (hi : V 7 = none) (o0 : a.eval (.tmp 0) = .pointer (some ⟨B, 0, none⟩)) (hK : ∀ v w', A6 B l a0 K w0 wX RT n Av cv L (updV V 7 v) w' → KK (a.put (some 25) v) w') : Oper.wp Tryz.prog { dst := some 25, op := .move (.tmp 0), type := ty, pos := pp, after := af, guard := gg } a w KK Q := by
  unfold Oper.wp execOp
  simp only [List.map_toArray, List.map_cons, List.map_nil, List.size_toArray, o0]
  go_simp
  exact hK _ _ (A6_7 h d hi hWX hRT _ rfl)
set_option maxRecDepth 100000 in
theorem A6_op8 {B : Nat} {l : List Int} {a0 K : Nat} {w0 wX : World} {RT : Nat} {n : Int} {Av : Option Addr} {cv : Nat} {L : List St} {V : Nat → Option Value} {w : World} {a : Act} {KK : Act → World → Prop} {Q : Exit → Act → World → Prop} {ty : TypeId} {pp : String} {af : Array Edge} {gg : Option (Nat × Bool)} (HL : BytesOk l) (ha : a0 + K ≤ 4611686018427380000) (hB : B < w0.heap.size) (hWX : w0.heap.size ≤ wX.heap.size) (hRT : RT < wX.heap.size) (hL40 : L.length ≤ 40) (h : A6 B l a0 K w0 wX RT n Av cv L V w) (d : DA6 V) (hi : V 8 = none)  (hK : ∀ v w', A6 B l a0 K w0 wX RT n Av cv L (updV V 8 v) w' → KK (a.put (some 26) v) w') : Oper.wp Tryz.prog { dst := some 26, op := .buildSlice 48 3 #[(0, .const (.int .i64 60)), (1, .const (.int .i64 0)), (2, .const (.int .i64 3601))], type := ty, pos := pp, after := af, guard := gg } a w KK Q := by
  have n9 : V 9 = none := none_of d.d9_8 hi
  have n10 : V 10 = none := none_of d.d10_9 n9
  have n11 : V 11 = none := none_of d.d11_10 n10
  have n12 : V 12 = none := none_of d.d12_11 n11
  obtain ⟨k9, hk9, hst⟩ := h.any n12
  have hc := hst.2.2.2.2.1.1
  clear hst
  unfold Oper.wp execOp
  go_simp
  exact hK _ _ (A6_8 h d hi hWX hRT _ _ ⟨0, rs_new (q := [60, 0, 3601]) hc (Below.refl _ _) (by simp) rfl⟩)
set_option maxRecDepth 100000 in
theorem A6_op9 {B : Nat} {l : List Int} {a0 K : Nat} {w0 wX : World} {RT : Nat} {n : Int} {Av : Option Addr} {cv : Nat} {L : List St} {V : Nat → Option Value} {w : World} {a : Act} {KK : Act → World → Prop} {Q : Exit → Act → World → Prop} {ty : TypeId} {pp : String} {af : Array Edge} {gg : Option (Nat × Bool)} (HL : BytesOk l) (ha : a0 + K ≤ 4611686018427380000) (hB : B < w0.heap.size) (hWX : w0.heap.size ≤ wX.heap.size) (hRT : RT < wX.heap.size) (hL40 : L.length ≤ 40) (h : A6 B l a0 K w0 wX RT n Av cv L V w) (d : DA6 V) (hi : V 9 = none) (E25 : ∀ v, V 7 = some v → a.eval (.tmp 25) = v) (E26 : ∀ v, V 8 = some v → a.eval (.tmp 26) = v) (p7 : (V 7).isSome = true) (p8 : (V 8).isSome = true) (p6 : (V 6).isSome = true) (hK : ∀ v w', A6 B l a0 K w0 wX RT n Av cv L (updV V 9 v) w' → KK (a.put (some 27) v) w') : Oper.wp Tryz.prog { dst := some 27, op := .call { callee := .value (.func 63), args := #[.tmp 25, .tmp 26], argTypes := #[78, 48] }, type := ty, pos := pp, after := af, guard := gg } a w KK Q := by
  obtain ⟨v7, hv7⟩ := some_of p7
  have e25 := E25 v7 hv7
  rw [h.r7 v7 hv7] at e25
  obtain ⟨v8, hv8⟩ := some_of p8
  have e26 := E26 v8 hv8
  obtain ⟨y8, hrs8⟩ := h.r8 v8 hv8 hi
  have hst := h.s2 p6 hi
  have hc := hst.2.2.2.2.1.1
  clear hst
  unfold Oper.wp execOp
  go_simp
  rw [ev_get e25, ev_get e26]
  refine (among_c B l HL (a0 + (K + 4)) (by omega) v8 [60, 0, 3601] (by simp) (by simp) w hc hrs8.1 hrs8.2).mono ?_
  rintro e w2 ⟨x, rfl, _, hd⟩
  exact hK _ _ (A6_9 h d hi p7 p8 p6 hWX hRT w2 hd hB _ ⟨_, rfl⟩)
set_option maxRecDepth 100000 in
theorem A6_op10 {B : Nat} {l : List Int} {a0 K : Nat} {w0 wX : World} {RT : Nat} {n : Int} {Av : Option Addr} {cv : Nat} {L : List St} {V : Nat → Option Value} {w : World} {a : Act} {KK : Act → World → Prop} {Q : Exit → Act → World → Prop} {ty : TypeId} {pp : String} {af : Array Edge} {gg : Option (Nat × Bool)} (HL : BytesOk l) (ha : a0 + K ≤ 4611686018427380000) (hB : B < w0.heap.size) (hWX : w0.heap.size ≤ wX.heap.size) (hRT : RT < wX.heap.size) (hL40 : L.length ≤ 40) (h : A6 B l a0 K w0 wX RT n Av cv L V w) (d : DA6 V) (hi : V 10 = none) (E22 : ∀ v, V 4 = some v → a.eval (.tmp 22) = v) (E24 : ∀ v, V 6 = some v → a.eval (.tmp 24) = v) (E27 : ∀ v, V 9 = some v → a.eval (.tmp 27) = v) (p4 : (V 4).isSome = true) (p6 : (V 6).isSome = true) (p9 : (V 9).isSome = true) (hK : ∀ v w', A6 B l a0 K w0 wX RT n Av cv L (updV V 10 v) w' → KK (a.put (some 28) v) w') : Oper.wp Tryz.prog { dst := some 28, op := .build 144 #[(0, .tmp 22), (1, .tmp 24), (2, .tmp 27)], type := ty, pos := pp, after := af, guard := gg } a w KK Q := by
  obtain ⟨v4, hv4⟩ := some_of p4
  have e22 := E22 v4 hv4
  obtain ⟨x4, q4⟩ := h.r4 v4 hv4
  rw [q4] at e22
  obtain ⟨v6, hv6⟩ := some_of p6
  have e24 := E24 v6 hv6
  obtain ⟨x6, q6⟩ := h.r6 v6 hv6
  rw [q6] at e24
  obtain ⟨v9, hv9⟩ := some_of p9
  have e27 := E27 v9 hv9
  obtain ⟨x9, q9⟩ := h.r9 v9 hv9
  rw [q9] at e27
  unfold Oper.wp execOp
  simp only [List.map_toArray, List.map_cons, List.map_nil, List.size_toArray, e22, e24, e27]
  go_simp
  exact hK _ _ (A6_10 h d hi p4 p6 p9 hWX hRT _ ⟨_, _, _, rfl⟩)
set_option maxRecDepth 100000 in
theorem A6_op11 {B : Nat} {l : List Int} {a0 K : Nat} {w0 wX : World} {RT : Nat} {n : Int} {Av : Option Addr} {cv : Nat} {L : List St} {V : Nat → Option Value} {w : World} {a : Act} {KK : Act → World → Prop} {Q : Exit → Act → World → Prop} {ty : TypeId} {pp : String} {af : Array Edge} {gg : Option (Nat × Bool)} (HL : BytesOk l) (ha : a0 + K ≤ 4611686018427380000) (hB : B < w0.heap.size) (hWX : w0.heap.size ≤ wX.heap.size) (hRT : RT < wX.heap.size) (hL40 : L.length ≤ 40) (h : A6 B l a0 K w0 wX RT n Av cv L V w) (d : DA6 V) (hi : V 11 = none) (E28 : ∀ v, V 10 = some v → a.eval (.tmp 28) = v) (p10 : (V 10).isSome = true) (hK : ∀ v w', A6 B l a0 K w0 wX RT n Av cv L (updV V 11 v) w' → KK (a.put (some 29) v) w') : Oper.wp Tryz.prog { dst := some 29, op := .buildSlice 45 1 #[(0, .tmp 28)], type := ty, pos := pp, after := af, guard := gg } a w KK Q := by
  obtain ⟨v10, hv10⟩ := some_of p10
  have e28 := E28 v10 hv10
  obtain ⟨f10, t10, s10, q10⟩ := h.r10 v10 hv10
  rw [q10] at e28
  unfold Oper.wp execOp
  simp only [List.map_toArray, List.map_cons, List.map_nil, List.size_toArray, e28]
  go_simp
  exact hK _ _ (A6_11 h d hi p10 hWX hRT _ _ ⟨f10, t10, s10, rowS w _ _ _ _ _ _ rfl h.sz⟩)
set_option maxRecDepth 100000 in
theorem A6_op12 {B : Nat} {l : List Int} {a0 K : Nat} {w0 wX : World} {RT : Nat} {n : Int} {Av : Option Addr} {cv : Nat} {L : List St} {V : Nat → Option Value} {w : World} {a : Act} {KK : Act → World → Prop} {Q : Exit → Act → World → Prop} {ty : TypeId} {pp : String} {af : Array Edge} {gg : Option (Nat × Bool)} (HL : BytesOk l) (ha : a0 + K ≤ 4611686018427380000) (hB : B < w0.heap.size) (hWX : w0.heap.size ≤ wX.heap.size) (hRT : RT < wX.heap.size) (hL40 : L.length ≤ 40) (h : A6 B l a0 K w0 wX RT n Av cv L V w) (d : DA6 V) (hi : V 12 = none) (E19 : ∀ v, V 1 = some v → a.eval (.tmp 19) = v) (E29 : ∀ v, V 11 = some v → a.eval (.tmp 29) = v) (p1 : (V 1).isSome = true) (p11 : (V 11).isSome = true) (p9 : (V 9).isSome = true) (hK : ∀ v w', A6 B l a0 K w0 wX RT n Av cv L (updV V 12 v) w' → KK (a.put (some 30) v) w') : Oper.wp Tryz.prog { dst := some 30, op := .call { callee := .builtin .append, args := #[.tmp 19, .tmp 29], argTypes := #[45, 45] }, type := ty, pos := pp, after := af, guard := gg } a w KK Q := by
  obtain ⟨v1, hv1⟩ := some_of p1
  have e19 := E19 v1 hv1
  rw [h.r1 v1 hv1] at e19
  obtain ⟨v11, hv11⟩ := some_of p11
  have e29 := E29 v11 hv11
  obtain ⟨f, t, sx, ho9⟩ := h.r11 v11 hv11 hi
  have hst := h.s3 p9 hi
  obtain ⟨i0, hi0, hz0, hz1, hz2⟩ := info_parts Tryz.infoSt
  refine wp_app_rd w (.tmp 19) (.tmp 29) 45 rfl w0.heap.size 144 i0 _ 3 24 Tryz.underlying45 hi0 hz0 hz1 hz2 rfl (by decide) _ L.length (L.flatMap St.cells) e19 hst.2.1 _ 1 [.int .i64 f, .int .i64 t, .int .i64 sx] e29 (own_rd ho9) rfl (by intro u hu; simp at hu; rcases hu with rfl | rfl | rfl <;> rfl) (by rw [maxLen_eq]; omega) (by omega) (Nat.le_trans hWX h.sz) ?_
  intro v1 w1 ho hg _
  obtain ⟨A', c', rfl, -⟩ := own_rd ho
  have e0 : (L ++ [(⟨f, t, sx⟩ : St)]).length = L.length + 1 := by simp
  have e1 : (L ++ [(⟨f, t, sx⟩ : St)]).flatMap St.cells = L.flatMap St.cells ++ [.int .i64 f, .int .i64 t, .int .i64 sx] := by rw [List.flatMap_append]; simp [St.cells]
  exact hK _ _ (A6_12 h d hi p1 p11 p9 hWX hRT w1 hg _ ⟨A', c', L ++ [⟨f, t, sx⟩], by rw [e0], fun _ => anyT_app hst hg (by rw [e0, e1]; exact ho) (by rw [e0]; omega) hB⟩)
set_option maxRecDepth 100000 in
theorem A6_op13 {B : Nat} {l : List Int} {a0 K : Nat} {w0 wX : World} {RT : Nat} {n : Int} {Av : Option Addr} {cv : Nat} {L : List St} {V : Nat → Option Value} {w : World} {a : Act} {KK : Act → World → Prop} {Q : Exit → Act → World → Prop} {ty : TypeId} {pp : String} {af : Array Edge} {gg : Option (Nat × Bool)} (HL : BytesOk l) (ha : a0 + K ≤ 4611686018427380000) (hB : B < w0.heap.size) (hWX : w0.heap.size ≤ wX.heap.size) (hRT : RT < wX.heap.size) (hL40 : L.length ≤ 40) (h : A6 B l a0 K w0 wX RT n Av cv L V w) (d : DA6 V) (hi : V 13 = none) (o3 : a.eval (.tmp 3) = .pointer (some ⟨RT, 0, none⟩)) (hK : ∀ v w', A6 B l a0 K w0 wX RT n Av cv L (updV V 13 v) w' → KK (a.put (some 31) v) w') : Oper.wp Tryz.prog { dst := some 31, op := .fieldAddr 47 (.tmp 3) 1, type := ty, pos := pp, after := af, guard := gg } a w KK Q := by
  unfold Oper.wp execOp
  simp only [List.map_toArray, List.map_cons, List.map_nil, List.size_toArray, o3]
  go_simp
  exact hK _ _ (A6_13 h d hi hWX hRT _ rfl)
set_option maxRecDepth 100000 in
theorem A6_op14 {B : Nat} {l : List Int} {a0 K : Nat} {w0 wX : World} {RT : Nat} {n : Int} {Av : Option Addr} {cv : Nat} {L : List St} {V : Nat → Option Value} {w : World} {a : Act} {KK : Act → World → Prop} {Q : Exit → Act → World → Prop} {ty : TypeId} {pp : String} {af : Array Edge} {gg : Option (Nat × Bool)} (HL : BytesOk l) (ha : a0 + K ≤ 4611686018427380000) (hB : B < w0.heap.size) (hWX : w0.heap.size ≤ wX.heap.size) (hRT : RT < wX.heap.size) (hL40 : L.length ≤ 40) (h : A6 B l a0 K w0 wX RT n Av cv L V w) (d : DA6 V) (hi : V 14 = none) (E31 : ∀ v, V 13 = some v → a.eval (.tmp 31) = v) (E30 : ∀ v, V 12 = some v → a.eval (.tmp 30) = v) (p13 : (V 13).isSome = true) (p12 : (V 12).isSome = true) (hK : ∀ v w', A6 B l a0 K w0 wX RT n Av cv L (updV V 14 v) w' → KK (a.put (none) v) w') : Oper.wp Tryz.prog { dst := none, op := .store 45 (.tmp 31) (.tmp 30), type := ty, pos := pp, after := af, guard := gg } a w KK Q := by
  obtain ⟨v13, hv13⟩ := some_of p13
  have e31 := E31 v13 hv13
  rw [h.r13 v13 hv13] at e31
  obtain ⟨v12, hv12⟩ := some_of p12
  have e30 := E30 v12 hv12
  obtain ⟨A', c', L', q, hap⟩ := h.r12 v12 hv12
  have hst := hap hi
  rw [q] at hv12 e30
  have t1 := hst.1.cellAt 1 (by omega)
  have f1 := hst.1.frozenAt 1
  dsimp only [List.getElem?_cons_zero, List.getElem?_cons_succ] at t1
  unfold Oper.wp execOp
  simp only [List.map_toArray, List.map_cons, List.map_nil, List.size_toArray, e31, e30]
  go_simp
  exact hK undef _ (A6_14 h d hi p13 p12 hWX hRT _ (by simp) _ ⟨A', c', L', (updV_ne (by decide)).trans hv12, app_store hst hB⟩)
theorem A6_end {B : Nat} {l : List Int} {a0 K : Nat} {w0 wX : World} {RT : Nat} {n : Int} {Av : Option Addr} {cv : Nat} {L : List St} {V : Nat → Option Value} {w : World} (h : A6 B l a0 K w0 wX RT n Av cv L V w) (hall : ∀ i, i < 15 → (V i).isSome = true) : ∃ (A' : Option Addr) (c' : Nat) (L' : List St), AnyT B l a0 (K + 6) w0 RT n (.slice A' L'.length c') L' w := by
  obtain ⟨v1, h1⟩ := some_of (hall 14 (by decide))
  obtain ⟨A', c', L', _, hh⟩ := h.r14 v1 h1
  exact ⟨A', c', L', hh⟩
end Go.Proofs.YthgegghdkoeofaaGreatDoor
