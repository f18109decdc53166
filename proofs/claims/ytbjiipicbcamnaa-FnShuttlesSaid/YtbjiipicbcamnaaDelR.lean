/-
  spec.Deliveries, region 22: three appends of rows, in whatever order (printed by gen_del22.py).
-/
import Derived.Test.YtbjiipicbcamnaaReg
import Derived.Test.YtbjiipicbcamnaaSS
import Derived.Test.YtbjiipicbcamnaaDelP
import Derived.Deep.RegionHeld3
namespace Go.Proofs.Ytbjiipicbcamnaa
open Go.RowKit

theorem dNone {V W : Option Value} (h : V.isSome = true → W.isSome = true) (hW : W = none) : V = none := by
  cases hV : V with
  | none => rfl
  | some v => rw [hV] at h; have := h rfl; rw [hW] at this; cases this
theorem dSome {V : Option Value} (h : V.isSome = true) : ∃ v, V = some v := Option.isSome_iff_exists.1 h
theorem dNo {α : Prop} {v : Value} {V : Option Value} (h : V = some v) (h' : V = none) : α := by rw [h] at h'; cases h'
theorem sepKept {a b : World} {base : Nat} {e : TypeId} {sz : Nat} {v v' : Value} {n : Nat} {xs : List Value} (h : a.ownsRow base e sz v n xs) (g : a.grownBy b v'.ownBlock) (sep : Sep v' v) : b.ownsRow base e sz v n xs :=
  kept2 h g sep.symm
theorem dRow0 (w : World) (t : TypeId) (base : Nat) (hb : base ≤ w.heap.size) : (w.alloc (.cells #[] t)).ownsRow base t 1 (.slice (some ⟨w.heap.size, 0, none⟩) 0 0) 0 [] :=
  own_base (World.ownsRow_lit (size := 1) w #[] 0 (Nat.le_refl _) (by rw [maxLen_eq]; omega) (by rfl)) hb
theorem dRow1 (w : World) (t : TypeId) (base : Nat) (x : Value) (hb : base ≤ w.heap.size) : (w.alloc (.cells #[x] t)).ownsRow base t 1 (.slice (some ⟨w.heap.size, 0, none⟩) 1 1) 1 [x] :=
  own_base (World.ownsRow_lit (size := 1) w #[x] 1 (Nat.le_refl _) (by rw [maxLen_eq]; omega) (by rfl)) hb
theorem dRow3 (w : World) (x y z : Int) (base : Nat) (hb : base ≤ w.heap.size) : (w.alloc (.cells #[.int .i64 x, .int .i64 y, .int .i64 z] 3)).ownsRow base 3 1 (.slice (some ⟨w.heap.size, 0, none⟩) 3 3) 3 (ints [x, y, z]) :=
  own_base (World.ownsRow_lit (size := 1) w #[.int .i64 x, .int .i64 y, .int .i64 z] 3 (Nat.le_refl _) (by rw [maxLen_eq]; omega) (by rfl)) hb
def Act22 (V : Nat → Option Value) (u : Value) : Prop := (V 0 = some u ∧ V 4 = none) ∨ (V 4 = some u ∧ V 11 = none) ∨ (V 11 = some u ∧ V 15 = none) ∨ V 15 = some u
structure I22 (wX : World) (RT : Nat) (at0 ii lt : Int) (A DA : Option Addr) (n c k : Nat) (vs : List Value) (V : Nat → Option Value) (w : World) : Prop where
  low : Below wX.heap.size wX w
  c1 : ∀ v, V 1 = some v → v = .slice A n c
  c2 : ∀ v, V 2 = some v → v = .int .i64 (k : Int)
  c3 : ∀ v, V 3 = some v → v = .slice A k c
  c5 : ∀ v, V 5 = some v → v = .int .i64 at0
  c6 : ∀ v, V 6 = some v → v = .int .i64 ii
  c7 : ∀ v, V 7 = some v → v = .pointer (some ⟨RT, 0, none⟩)
  c8 : ∀ v, V 8 = some v → v = .int .i64 lt
  c12 : ∀ v, V 12 = some v → v = .slice A n c
  c13 : ∀ v, V 13 = some v → v = .int .i64 (k : Int)
  c14 : ∀ v, V 14 = some v → v = .slice DA (n - k) (c - k)
  r0 : ∀ v, V 0 = some v → V 4 = none → w.ownsRow wX.heap.size 48 1 v (0) ([])
  r4 : ∀ v, V 4 = some v → V 11 = none → w.ownsRow wX.heap.size 48 1 v (k) (vs.take k)
  r9 : ∀ v, V 9 = some v → ∃ b, v = .slice (some ⟨b, 0, none⟩) 3 3 ∧ w.ownsRow wX.heap.size 3 1 v 3 (ints [at0, ii, lt])
  r10 : ∀ v, V 10 = some v → V 11 = none → ∃ u, V 9 = some u ∧ w.ownsRow wX.heap.size 48 1 v (1) ([u])
  r11 : ∀ v, V 11 = some v → V 15 = none → ∃ u, V 9 = some u ∧ w.ownsRow wX.heap.size 48 1 v (k + 1) (vs.take k ++ [u])
  r15 : ∀ v, V 15 = some v → ∃ u A3 c3, V 9 = some u ∧ v = .slice A3 (k + 1 + (n - k)) c3 ∧ w.ownsRow wX.heap.size 48 1 v (k + 1 + (n - k)) (vs.take k ++ [u] ++ vs.drop k)
  r16 : ∀ v, V 16 = some v → V 15 = some v
  s9 : ∀ v u, V 9 = some v → Act22 V u → Sep u v
  s10 : ∀ v u, V 10 = some v → V 11 = none → (V 0 = some u ∧ V 4 = none) ∨ V 4 = some u → Sep u v
/-- What waits for what. -/
structure D22 (V : Nat → Option Value) : Prop where
  d4 : (V 4).isSome = true → (V 0).isSome = true
  d10 : (V 10).isSome = true → (V 9).isSome = true
  d11 : (V 11).isSome = true → (V 4).isSome = true ∧ (V 10).isSome = true
  d15 : (V 15).isSome = true → (V 11).isSome = true
  d16 : (V 16).isSome = true → (V 15).isSome = true
theorem act_lt {wX : World} {RT : Nat} {at0 ii lt : Int} {A DA : Option Addr} {n c k : Nat} {vs : List Value} {V : Nat → Option Value} {w : World} (h : I22 wX RT at0 ii lt A DA n c k vs V w) {u : Value} (hu : Act22 V u) : ∀ q, u.ownBlock = some q → q < w.heap.size := by
  intro q hq
  rcases hu with ⟨a, b⟩ | ⟨a, b⟩ | ⟨a, b⟩ | a
  · exact ((h.r0 u a b).lt q hq).2
  · exact ((h.r4 u a b).lt q hq).2
  · obtain ⟨_, _, k⟩ := h.r11 u a b; exact (k.lt q hq).2
  · obtain ⟨_, _, _, _, _, k⟩ := h.r15 u a; exact (k.lt q hq).2
theorem act_of {V : Nat → Option Value} {i : Nat} {v u : Value} (hi : i ≠ 0 ∧ i ≠ 4 ∧ i ≠ 11 ∧ i ≠ 15) (h : Act22 (updV V i v) u) : Act22 V u := by
  unfold Act22 at h ⊢
  rwa [updV_ne (Ne.symm hi.1), updV_ne (Ne.symm hi.2.1), updV_ne (Ne.symm hi.2.2.1), updV_ne (Ne.symm hi.2.2.2)] at h

theorem i22_1 {wX : World} {RT : Nat} {at0 ii lt : Int} {A DA : Option Addr} {n c k : Nat} {vs : List Value} {V : Nat → Option Value} {w : World} (h : I22 wX RT at0 ii lt A DA n c k vs V w) (d : D22 V) (hi : V 1 = none) : I22 wX RT at0 ii lt A DA n c k vs (updV V 1 (.slice A n c)) (w) := by
  skip
  exact {
    low := (h.low),
    c1 := (fun u hu => (Option.some.inj ((updV_same _ _ _).symm.trans hu)).symm),
    c2 := (fun u hu => h.c2 u ((updV_ne (by decide)).symm.trans hu)),
    c3 := (fun u hu => h.c3 u ((updV_ne (by decide)).symm.trans hu)),
    c5 := (fun u hu => h.c5 u ((updV_ne (by decide)).symm.trans hu)),
    c6 := (fun u hu => h.c6 u ((updV_ne (by decide)).symm.trans hu)),
    c7 := (fun u hu => h.c7 u ((updV_ne (by decide)).symm.trans hu)),
    c8 := (fun u hu => h.c8 u ((updV_ne (by decide)).symm.trans hu)),
    c12 := (fun u hu => h.c12 u ((updV_ne (by decide)).symm.trans hu)),
    c13 := (fun u hu => h.c13 u ((updV_ne (by decide)).symm.trans hu)),
    c14 := (fun u hu => h.c14 u ((updV_ne (by decide)).symm.trans hu)),
    r0 := (fun u hu h4 => (h.r0 u ((updV_ne (by decide)).symm.trans hu) ((updV_ne (by decide)).symm.trans h4))),
    r4 := (fun u hu h11 => (h.r4 u ((updV_ne (by decide)).symm.trans hu) ((updV_ne (by decide)).symm.trans h11))),
    r9 := (fun u hu => by obtain ⟨b, e, ho⟩ := h.r9 u ((updV_ne (by decide)).symm.trans hu); exact ⟨b, e, ho⟩),
    r10 := (fun u hu h11 => by obtain ⟨x, hx, ho⟩ := h.r10 u ((updV_ne (by decide)).symm.trans hu) ((updV_ne (by decide)).symm.trans h11); exact ⟨x, ((updV_ne (by decide)).trans hx), ho⟩),
    r11 := (fun u hu h15 => by obtain ⟨x, hx, ho⟩ := h.r11 u ((updV_ne (by decide)).symm.trans hu) ((updV_ne (by decide)).symm.trans h15); exact ⟨x, ((updV_ne (by decide)).trans hx), ho⟩),
    r15 := (fun u hu => by obtain ⟨x, A3, c3, hx, e, ho⟩ := h.r15 u ((updV_ne (by decide)).symm.trans hu); exact ⟨x, A3, c3, ((updV_ne (by decide)).trans hx), e, ho⟩),
    r16 := (fun u hu => ((updV_ne (by decide)).trans (h.r16 u ((updV_ne (by decide)).symm.trans hu)))),
    s9 := (fun v u hv ha => h.s9 v u ((updV_ne (by decide)).symm.trans hv) (act_of (by decide) ha)),
    s10 := (fun v u hv h11 hd => h.s10 v u ((updV_ne (by decide)).symm.trans hv) ((updV_ne (by decide)).symm.trans h11) (hd.imp (fun e => ⟨((updV_ne (by decide)).symm.trans e.1), ((updV_ne (by decide)).symm.trans e.2)⟩) (fun e => ((updV_ne (by decide)).symm.trans e)))) }
theorem i22_2 {wX : World} {RT : Nat} {at0 ii lt : Int} {A DA : Option Addr} {n c k : Nat} {vs : List Value} {V : Nat → Option Value} {w : World} (h : I22 wX RT at0 ii lt A DA n c k vs V w) (d : D22 V) (hi : V 2 = none) : I22 wX RT at0 ii lt A DA n c k vs (updV V 2 (.int .i64 (k : Int))) (w) := by
  skip
  exact {
    low := (h.low),
    c1 := (fun u hu => h.c1 u ((updV_ne (by decide)).symm.trans hu)),
    c2 := (fun u hu => (Option.some.inj ((updV_same _ _ _).symm.trans hu)).symm),
    c3 := (fun u hu => h.c3 u ((updV_ne (by decide)).symm.trans hu)),
    c5 := (fun u hu => h.c5 u ((updV_ne (by decide)).symm.trans hu)),
    c6 := (fun u hu => h.c6 u ((updV_ne (by decide)).symm.trans hu)),
    c7 := (fun u hu => h.c7 u ((updV_ne (by decide)).symm.trans hu)),
    c8 := (fun u hu => h.c8 u ((updV_ne (by decide)).symm.trans hu)),
    c12 := (fun u hu => h.c12 u ((updV_ne (by decide)).symm.trans hu)),
    c13 := (fun u hu => h.c13 u ((updV_ne (by decide)).symm.trans hu)),
    c14 := (fun u hu => h.c14 u ((updV_ne (by decide)).symm.trans hu)),
    r0 := (fun u hu h4 => (h.r0 u ((updV_ne (by decide)).symm.trans hu) ((updV_ne (by decide)).symm.trans h4))),
    r4 := (fun u hu h11 => (h.r4 u ((updV_ne (by decide)).symm.trans hu) ((updV_ne (by decide)).symm.trans h11))),
    r9 := (fun u hu => by obtain ⟨b, e, ho⟩ := h.r9 u ((updV_ne (by decide)).symm.trans hu); exact ⟨b, e, ho⟩),
    r10 := (fun u hu h11 => by obtain ⟨x, hx, ho⟩ := h.r10 u ((updV_ne (by decide)).symm.trans hu) ((updV_ne (by decide)).symm.trans h11); exact ⟨x, ((updV_ne (by decide)).trans hx), ho⟩),
    r11 := (fun u hu h15 => by obtain ⟨x, hx, ho⟩ := h.r11 u ((updV_ne (by decide)).symm.trans hu) ((updV_ne (by decide)).symm.trans h15); exact ⟨x, ((updV_ne (by decide)).trans hx), ho⟩),
    r15 := (fun u hu => by obtain ⟨x, A3, c3, hx, e, ho⟩ := h.r15 u ((updV_ne (by decide)).symm.trans hu); exact ⟨x, A3, c3, ((updV_ne (by decide)).trans hx), e, ho⟩),
    r16 := (fun u hu => ((updV_ne (by decide)).trans (h.r16 u ((updV_ne (by decide)).symm.trans hu)))),
    s9 := (fun v u hv ha => h.s9 v u ((updV_ne (by decide)).symm.trans hv) (act_of (by decide) ha)),
    s10 := (fun v u hv h11 hd => h.s10 v u ((updV_ne (by decide)).symm.trans hv) ((updV_ne (by decide)).symm.trans h11) (hd.imp (fun e => ⟨((updV_ne (by decide)).symm.trans e.1), ((updV_ne (by decide)).symm.trans e.2)⟩) (fun e => ((updV_ne (by decide)).symm.trans e)))) }
theorem i22_3 {wX : World} {RT : Nat} {at0 ii lt : Int} {A DA : Option Addr} {n c k : Nat} {vs : List Value} {V : Nat → Option Value} {w : World} (h : I22 wX RT at0 ii lt A DA n c k vs V w) (d : D22 V) (hi : V 3 = none) : I22 wX RT at0 ii lt A DA n c k vs (updV V 3 (.slice A k c)) (w) := by
  skip
  exact {
    low := (h.low),
    c1 := (fun u hu => h.c1 u ((updV_ne (by decide)).symm.trans hu)),
    c2 := (fun u hu => h.c2 u ((updV_ne (by decide)).symm.trans hu)),
    c3 := (fun u hu => (Option.some.inj ((updV_same _ _ _).symm.trans hu)).symm),
    c5 := (fun u hu => h.c5 u ((updV_ne (by decide)).symm.trans hu)),
    c6 := (fun u hu => h.c6 u ((updV_ne (by decide)).symm.trans hu)),
    c7 := (fun u hu => h.c7 u ((updV_ne (by decide)).symm.trans hu)),
    c8 := (fun u hu => h.c8 u ((updV_ne (by decide)).symm.trans hu)),
    c12 := (fun u hu => h.c12 u ((updV_ne (by decide)).symm.trans hu)),
    c13 := (fun u hu => h.c13 u ((updV_ne (by decide)).symm.trans hu)),
    c14 := (fun u hu => h.c14 u ((updV_ne (by decide)).symm.trans hu)),
    r0 := (fun u hu h4 => (h.r0 u ((updV_ne (by decide)).symm.trans hu) ((updV_ne (by decide)).symm.trans h4))),
    r4 := (fun u hu h11 => (h.r4 u ((updV_ne (by decide)).symm.trans hu) ((updV_ne (by decide)).symm.trans h11))),
    r9 := (fun u hu => by obtain ⟨b, e, ho⟩ := h.r9 u ((updV_ne (by decide)).symm.trans hu); exact ⟨b, e, ho⟩),
    r10 := (fun u hu h11 => by obtain ⟨x, hx, ho⟩ := h.r10 u ((updV_ne (by decide)).symm.trans hu) ((updV_ne (by decide)).symm.trans h11); exact ⟨x, ((updV_ne (by decide)).trans hx), ho⟩),
    r11 := (fun u hu h15 => by obtain ⟨x, hx, ho⟩ := h.r11 u ((updV_ne (by decide)).symm.trans hu) ((updV_ne (by decide)).symm.trans h15); exact ⟨x, ((updV_ne (by decide)).trans hx), ho⟩),
    r15 := (fun u hu => by obtain ⟨x, A3, c3, hx, e, ho⟩ := h.r15 u ((updV_ne (by decide)).symm.trans hu); exact ⟨x, A3, c3, ((updV_ne (by decide)).trans hx), e, ho⟩),
    r16 := (fun u hu => ((updV_ne (by decide)).trans (h.r16 u ((updV_ne (by decide)).symm.trans hu)))),
    s9 := (fun v u hv ha => h.s9 v u ((updV_ne (by decide)).symm.trans hv) (act_of (by decide) ha)),
    s10 := (fun v u hv h11 hd => h.s10 v u ((updV_ne (by decide)).symm.trans hv) ((updV_ne (by decide)).symm.trans h11) (hd.imp (fun e => ⟨((updV_ne (by decide)).symm.trans e.1), ((updV_ne (by decide)).symm.trans e.2)⟩) (fun e => ((updV_ne (by decide)).symm.trans e)))) }
theorem i22_5 {wX : World} {RT : Nat} {at0 ii lt : Int} {A DA : Option Addr} {n c k : Nat} {vs : List Value} {V : Nat → Option Value} {w : World} (h : I22 wX RT at0 ii lt A DA n c k vs V w) (d : D22 V) (hi : V 5 = none) : I22 wX RT at0 ii lt A DA n c k vs (updV V 5 (.int .i64 at0)) (w) := by
  skip
  exact {
    low := (h.low),
    c1 := (fun u hu => h.c1 u ((updV_ne (by decide)).symm.trans hu)),
    c2 := (fun u hu => h.c2 u ((updV_ne (by decide)).symm.trans hu)),
    c3 := (fun u hu => h.c3 u ((updV_ne (by decide)).symm.trans hu)),
    c5 := (fun u hu => (Option.some.inj ((updV_same _ _ _).symm.trans hu)).symm),
    c6 := (fun u hu => h.c6 u ((updV_ne (by decide)).symm.trans hu)),
    c7 := (fun u hu => h.c7 u ((updV_ne (by decide)).symm.trans hu)),
    c8 := (fun u hu => h.c8 u ((updV_ne (by decide)).symm.trans hu)),
    c12 := (fun u hu => h.c12 u ((updV_ne (by decide)).symm.trans hu)),
    c13 := (fun u hu => h.c13 u ((updV_ne (by decide)).symm.trans hu)),
    c14 := (fun u hu => h.c14 u ((updV_ne (by decide)).symm.trans hu)),
    r0 := (fun u hu h4 => (h.r0 u ((updV_ne (by decide)).symm.trans hu) ((updV_ne (by decide)).symm.trans h4))),
    r4 := (fun u hu h11 => (h.r4 u ((updV_ne (by decide)).symm.trans hu) ((updV_ne (by decide)).symm.trans h11))),
    r9 := (fun u hu => by obtain ⟨b, e, ho⟩ := h.r9 u ((updV_ne (by decide)).symm.trans hu); exact ⟨b, e, ho⟩),
    r10 := (fun u hu h11 => by obtain ⟨x, hx, ho⟩ := h.r10 u ((updV_ne (by decide)).symm.trans hu) ((updV_ne (by decide)).symm.trans h11); exact ⟨x, ((updV_ne (by decide)).trans hx), ho⟩),
    r11 := (fun u hu h15 => by obtain ⟨x, hx, ho⟩ := h.r11 u ((updV_ne (by decide)).symm.trans hu) ((updV_ne (by decide)).symm.trans h15); exact ⟨x, ((updV_ne (by decide)).trans hx), ho⟩),
    r15 := (fun u hu => by obtain ⟨x, A3, c3, hx, e, ho⟩ := h.r15 u ((updV_ne (by decide)).symm.trans hu); exact ⟨x, A3, c3, ((updV_ne (by decide)).trans hx), e, ho⟩),
    r16 := (fun u hu => ((updV_ne (by decide)).trans (h.r16 u ((updV_ne (by decide)).symm.trans hu)))),
    s9 := (fun v u hv ha => h.s9 v u ((updV_ne (by decide)).symm.trans hv) (act_of (by decide) ha)),
    s10 := (fun v u hv h11 hd => h.s10 v u ((updV_ne (by decide)).symm.trans hv) ((updV_ne (by decide)).symm.trans h11) (hd.imp (fun e => ⟨((updV_ne (by decide)).symm.trans e.1), ((updV_ne (by decide)).symm.trans e.2)⟩) (fun e => ((updV_ne (by decide)).symm.trans e)))) }
theorem i22_6 {wX : World} {RT : Nat} {at0 ii lt : Int} {A DA : Option Addr} {n c k : Nat} {vs : List Value} {V : Nat → Option Value} {w : World} (h : I22 wX RT at0 ii lt A DA n c k vs V w) (d : D22 V) (hi : V 6 = none) : I22 wX RT at0 ii lt A DA n c k vs (updV V 6 (.int .i64 ii)) (w) := by
  skip
  exact {
    low := (h.low),
    c1 := (fun u hu => h.c1 u ((updV_ne (by decide)).symm.trans hu)),
    c2 := (fun u hu => h.c2 u ((updV_ne (by decide)).symm.trans hu)),
    c3 := (fun u hu => h.c3 u ((updV_ne (by decide)).symm.trans hu)),
    c5 := (fun u hu => h.c5 u ((updV_ne (by decide)).symm.trans hu)),
    c6 := (fun u hu => (Option.some.inj ((updV_same _ _ _).symm.trans hu)).symm),
    c7 := (fun u hu => h.c7 u ((updV_ne (by decide)).symm.trans hu)),
    c8 := (fun u hu => h.c8 u ((updV_ne (by decide)).symm.trans hu)),
    c12 := (fun u hu => h.c12 u ((updV_ne (by decide)).symm.trans hu)),
    c13 := (fun u hu => h.c13 u ((updV_ne (by decide)).symm.trans hu)),
    c14 := (fun u hu => h.c14 u ((updV_ne (by decide)).symm.trans hu)),
    r0 := (fun u hu h4 => (h.r0 u ((updV_ne (by decide)).symm.trans hu) ((updV_ne (by decide)).symm.trans h4))),
    r4 := (fun u hu h11 => (h.r4 u ((updV_ne (by decide)).symm.trans hu) ((updV_ne (by decide)).symm.trans h11))),
    r9 := (fun u hu => by obtain ⟨b, e, ho⟩ := h.r9 u ((updV_ne (by decide)).symm.trans hu); exact ⟨b, e, ho⟩),
    r10 := (fun u hu h11 => by obtain ⟨x, hx, ho⟩ := h.r10 u ((updV_ne (by decide)).symm.trans hu) ((updV_ne (by decide)).symm.trans h11); exact ⟨x, ((updV_ne (by decide)).trans hx), ho⟩),
    r11 := (fun u hu h15 => by obtain ⟨x, hx, ho⟩ := h.r11 u ((updV_ne (by decide)).symm.trans hu) ((updV_ne (by decide)).symm.trans h15); exact ⟨x, ((updV_ne (by decide)).trans hx), ho⟩),
    r15 := (fun u hu => by obtain ⟨x, A3, c3, hx, e, ho⟩ := h.r15 u ((updV_ne (by decide)).symm.trans hu); exact ⟨x, A3, c3, ((updV_ne (by decide)).trans hx), e, ho⟩),
    r16 := (fun u hu => ((updV_ne (by decide)).trans (h.r16 u ((updV_ne (by decide)).symm.trans hu)))),
    s9 := (fun v u hv ha => h.s9 v u ((updV_ne (by decide)).symm.trans hv) (act_of (by decide) ha)),
    s10 := (fun v u hv h11 hd => h.s10 v u ((updV_ne (by decide)).symm.trans hv) ((updV_ne (by decide)).symm.trans h11) (hd.imp (fun e => ⟨((updV_ne (by decide)).symm.trans e.1), ((updV_ne (by decide)).symm.trans e.2)⟩) (fun e => ((updV_ne (by decide)).symm.trans e)))) }
theorem i22_7 {wX : World} {RT : Nat} {at0 ii lt : Int} {A DA : Option Addr} {n c k : Nat} {vs : List Value} {V : Nat → Option Value} {w : World} (h : I22 wX RT at0 ii lt A DA n c k vs V w) (d : D22 V) (hi : V 7 = none) : I22 wX RT at0 ii lt A DA n c k vs (updV V 7 (.pointer (some ⟨RT, 0, none⟩))) (w) := by
  skip
  exact {
    low := (h.low),
    c1 := (fun u hu => h.c1 u ((updV_ne (by decide)).symm.trans hu)),
    c2 := (fun u hu => h.c2 u ((updV_ne (by decide)).symm.trans hu)),
    c3 := (fun u hu => h.c3 u ((updV_ne (by decide)).symm.trans hu)),
    c5 := (fun u hu => h.c5 u ((updV_ne (by decide)).symm.trans hu)),
    c6 := (fun u hu => h.c6 u ((updV_ne (by decide)).symm.trans hu)),
    c7 := (fun u hu => (Option.some.inj ((updV_same _ _ _).symm.trans hu)).symm),
    c8 := (fun u hu => h.c8 u ((updV_ne (by decide)).symm.trans hu)),
    c12 := (fun u hu => h.c12 u ((updV_ne (by decide)).symm.trans hu)),
    c13 := (fun u hu => h.c13 u ((updV_ne (by decide)).symm.trans hu)),
    c14 := (fun u hu => h.c14 u ((updV_ne (by decide)).symm.trans hu)),
    r0 := (fun u hu h4 => (h.r0 u ((updV_ne (by decide)).symm.trans hu) ((updV_ne (by decide)).symm.trans h4))),
    r4 := (fun u hu h11 => (h.r4 u ((updV_ne (by decide)).symm.trans hu) ((updV_ne (by decide)).symm.trans h11))),
    r9 := (fun u hu => by obtain ⟨b, e, ho⟩ := h.r9 u ((updV_ne (by decide)).symm.trans hu); exact ⟨b, e, ho⟩),
    r10 := (fun u hu h11 => by obtain ⟨x, hx, ho⟩ := h.r10 u ((updV_ne (by decide)).symm.trans hu) ((updV_ne (by decide)).symm.trans h11); exact ⟨x, ((updV_ne (by decide)).trans hx), ho⟩),
    r11 := (fun u hu h15 => by obtain ⟨x, hx, ho⟩ := h.r11 u ((updV_ne (by decide)).symm.trans hu) ((updV_ne (by decide)).symm.trans h15); exact ⟨x, ((updV_ne (by decide)).trans hx), ho⟩),
    r15 := (fun u hu => by obtain ⟨x, A3, c3, hx, e, ho⟩ := h.r15 u ((updV_ne (by decide)).symm.trans hu); exact ⟨x, A3, c3, ((updV_ne (by decide)).trans hx), e, ho⟩),
    r16 := (fun u hu => ((updV_ne (by decide)).trans (h.r16 u ((updV_ne (by decide)).symm.trans hu)))),
    s9 := (fun v u hv ha => h.s9 v u ((updV_ne (by decide)).symm.trans hv) (act_of (by decide) ha)),
    s10 := (fun v u hv h11 hd => h.s10 v u ((updV_ne (by decide)).symm.trans hv) ((updV_ne (by decide)).symm.trans h11) (hd.imp (fun e => ⟨((updV_ne (by decide)).symm.trans e.1), ((updV_ne (by decide)).symm.trans e.2)⟩) (fun e => ((updV_ne (by decide)).symm.trans e)))) }
theorem i22_8 {wX : World} {RT : Nat} {at0 ii lt : Int} {A DA : Option Addr} {n c k : Nat} {vs : List Value} {V : Nat → Option Value} {w : World} (h : I22 wX RT at0 ii lt A DA n c k vs V w) (d : D22 V) (hi : V 8 = none) : I22 wX RT at0 ii lt A DA n c k vs (updV V 8 (.int .i64 lt)) (w) := by
  skip
  exact {
    low := (h.low),
    c1 := (fun u hu => h.c1 u ((updV_ne (by decide)).symm.trans hu)),
    c2 := (fun u hu => h.c2 u ((updV_ne (by decide)).symm.trans hu)),
    c3 := (fun u hu => h.c3 u ((updV_ne (by decide)).symm.trans hu)),
    c5 := (fun u hu => h.c5 u ((updV_ne (by decide)).symm.trans hu)),
    c6 := (fun u hu => h.c6 u ((updV_ne (by decide)).symm.trans hu)),
    c7 := (fun u hu => h.c7 u ((updV_ne (by decide)).symm.trans hu)),
    c8 := (fun u hu => (Option.some.inj ((updV_same _ _ _).symm.trans hu)).symm),
    c12 := (fun u hu => h.c12 u ((updV_ne (by decide)).symm.trans hu)),
    c13 := (fun u hu => h.c13 u ((updV_ne (by decide)).symm.trans hu)),
    c14 := (fun u hu => h.c14 u ((updV_ne (by decide)).symm.trans hu)),
    r0 := (fun u hu h4 => (h.r0 u ((updV_ne (by decide)).symm.trans hu) ((updV_ne (by decide)).symm.trans h4))),
    r4 := (fun u hu h11 => (h.r4 u ((updV_ne (by decide)).symm.trans hu) ((updV_ne (by decide)).symm.trans h11))),
    r9 := (fun u hu => by obtain ⟨b, e, ho⟩ := h.r9 u ((updV_ne (by decide)).symm.trans hu); exact ⟨b, e, ho⟩),
    r10 := (fun u hu h11 => by obtain ⟨x, hx, ho⟩ := h.r10 u ((updV_ne (by decide)).symm.trans hu) ((updV_ne (by decide)).symm.trans h11); exact ⟨x, ((updV_ne (by decide)).trans hx), ho⟩),
    r11 := (fun u hu h15 => by obtain ⟨x, hx, ho⟩ := h.r11 u ((updV_ne (by decide)).symm.trans hu) ((updV_ne (by decide)).symm.trans h15); exact ⟨x, ((updV_ne (by decide)).trans hx), ho⟩),
    r15 := (fun u hu => by obtain ⟨x, A3, c3, hx, e, ho⟩ := h.r15 u ((updV_ne (by decide)).symm.trans hu); exact ⟨x, A3, c3, ((updV_ne (by decide)).trans hx), e, ho⟩),
    r16 := (fun u hu => ((updV_ne (by decide)).trans (h.r16 u ((updV_ne (by decide)).symm.trans hu)))),
    s9 := (fun v u hv ha => h.s9 v u ((updV_ne (by decide)).symm.trans hv) (act_of (by decide) ha)),
    s10 := (fun v u hv h11 hd => h.s10 v u ((updV_ne (by decide)).symm.trans hv) ((updV_ne (by decide)).symm.trans h11) (hd.imp (fun e => ⟨((updV_ne (by decide)).symm.trans e.1), ((updV_ne (by decide)).symm.trans e.2)⟩) (fun e => ((updV_ne (by decide)).symm.trans e)))) }
theorem i22_12 {wX : World} {RT : Nat} {at0 ii lt : Int} {A DA : Option Addr} {n c k : Nat} {vs : List Value} {V : Nat → Option Value} {w : World} (h : I22 wX RT at0 ii lt A DA n c k vs V w) (d : D22 V) (hi : V 12 = none) : I22 wX RT at0 ii lt A DA n c k vs (updV V 12 (.slice A n c)) (w) := by
  skip
  exact {
    low := (h.low),
    c1 := (fun u hu => h.c1 u ((updV_ne (by decide)).symm.trans hu)),
    c2 := (fun u hu => h.c2 u ((updV_ne (by decide)).symm.trans hu)),
    c3 := (fun u hu => h.c3 u ((updV_ne (by decide)).symm.trans hu)),
    c5 := (fun u hu => h.c5 u ((updV_ne (by decide)).symm.trans hu)),
    c6 := (fun u hu => h.c6 u ((updV_ne (by decide)).symm.trans hu)),
    c7 := (fun u hu => h.c7 u ((updV_ne (by decide)).symm.trans hu)),
    c8 := (fun u hu => h.c8 u ((updV_ne (by decide)).symm.trans hu)),
    c12 := (fun u hu => (Option.some.inj ((updV_same _ _ _).symm.trans hu)).symm),
    c13 := (fun u hu => h.c13 u ((updV_ne (by decide)).symm.trans hu)),
    c14 := (fun u hu => h.c14 u ((updV_ne (by decide)).symm.trans hu)),
    r0 := (fun u hu h4 => (h.r0 u ((updV_ne (by decide)).symm.trans hu) ((updV_ne (by decide)).symm.trans h4))),
    r4 := (fun u hu h11 => (h.r4 u ((updV_ne (by decide)).symm.trans hu) ((updV_ne (by decide)).symm.trans h11))),
    r9 := (fun u hu => by obtain ⟨b, e, ho⟩ := h.r9 u ((updV_ne (by decide)).symm.trans hu); exact ⟨b, e, ho⟩),
    r10 := (fun u hu h11 => by obtain ⟨x, hx, ho⟩ := h.r10 u ((updV_ne (by decide)).symm.trans hu) ((updV_ne (by decide)).symm.trans h11); exact ⟨x, ((updV_ne (by decide)).trans hx), ho⟩),
    r11 := (fun u hu h15 => by obtain ⟨x, hx, ho⟩ := h.r11 u ((updV_ne (by decide)).symm.trans hu) ((updV_ne (by decide)).symm.trans h15); exact ⟨x, ((updV_ne (by decide)).trans hx), ho⟩),
    r15 := (fun u hu => by obtain ⟨x, A3, c3, hx, e, ho⟩ := h.r15 u ((updV_ne (by decide)).symm.trans hu); exact ⟨x, A3, c3, ((updV_ne (by decide)).trans hx), e, ho⟩),
    r16 := (fun u hu => ((updV_ne (by decide)).trans (h.r16 u ((updV_ne (by decide)).symm.trans hu)))),
    s9 := (fun v u hv ha => h.s9 v u ((updV_ne (by decide)).symm.trans hv) (act_of (by decide) ha)),
    s10 := (fun v u hv h11 hd => h.s10 v u ((updV_ne (by decide)).symm.trans hv) ((updV_ne (by decide)).symm.trans h11) (hd.imp (fun e => ⟨((updV_ne (by decide)).symm.trans e.1), ((updV_ne (by decide)).symm.trans e.2)⟩) (fun e => ((updV_ne (by decide)).symm.trans e)))) }
theorem i22_13 {wX : World} {RT : Nat} {at0 ii lt : Int} {A DA : Option Addr} {n c k : Nat} {vs : List Value} {V : Nat → Option Value} {w : World} (h : I22 wX RT at0 ii lt A DA n c k vs V w) (d : D22 V) (hi : V 13 = none) : I22 wX RT at0 ii lt A DA n c k vs (updV V 13 (.int .i64 (k : Int))) (w) := by
  skip
  exact {
    low := (h.low),
    c1 := (fun u hu => h.c1 u ((updV_ne (by decide)).symm.trans hu)),
    c2 := (fun u hu => h.c2 u ((updV_ne (by decide)).symm.trans hu)),
    c3 := (fun u hu => h.c3 u ((updV_ne (by decide)).symm.trans hu)),
    c5 := (fun u hu => h.c5 u ((updV_ne (by decide)).symm.trans hu)),
    c6 := (fun u hu => h.c6 u ((updV_ne (by decide)).symm.trans hu)),
    c7 := (fun u hu => h.c7 u ((updV_ne (by decide)).symm.trans hu)),
    c8 := (fun u hu => h.c8 u ((updV_ne (by decide)).symm.trans hu)),
    c12 := (fun u hu => h.c12 u ((updV_ne (by decide)).symm.trans hu)),
    c13 := (fun u hu => (Option.some.inj ((updV_same _ _ _).symm.trans hu)).symm),
    c14 := (fun u hu => h.c14 u ((updV_ne (by decide)).symm.trans hu)),
    r0 := (fun u hu h4 => (h.r0 u ((updV_ne (by decide)).symm.trans hu) ((updV_ne (by decide)).symm.trans h4))),
    r4 := (fun u hu h11 => (h.r4 u ((updV_ne (by decide)).symm.trans hu) ((updV_ne (by decide)).symm.trans h11))),
    r9 := (fun u hu => by obtain ⟨b, e, ho⟩ := h.r9 u ((updV_ne (by decide)).symm.trans hu); exact ⟨b, e, ho⟩),
    r10 := (fun u hu h11 => by obtain ⟨x, hx, ho⟩ := h.r10 u ((updV_ne (by decide)).symm.trans hu) ((updV_ne (by decide)).symm.trans h11); exact ⟨x, ((updV_ne (by decide)).trans hx), ho⟩),
    r11 := (fun u hu h15 => by obtain ⟨x, hx, ho⟩ := h.r11 u ((updV_ne (by decide)).symm.trans hu) ((updV_ne (by decide)).symm.trans h15); exact ⟨x, ((updV_ne (by decide)).trans hx), ho⟩),
    r15 := (fun u hu => by obtain ⟨x, A3, c3, hx, e, ho⟩ := h.r15 u ((updV_ne (by decide)).symm.trans hu); exact ⟨x, A3, c3, ((updV_ne (by decide)).trans hx), e, ho⟩),
    r16 := (fun u hu => ((updV_ne (by decide)).trans (h.r16 u ((updV_ne (by decide)).symm.trans hu)))),
    s9 := (fun v u hv ha => h.s9 v u ((updV_ne (by decide)).symm.trans hv) (act_of (by decide) ha)),
    s10 := (fun v u hv h11 hd => h.s10 v u ((updV_ne (by decide)).symm.trans hv) ((updV_ne (by decide)).symm.trans h11) (hd.imp (fun e => ⟨((updV_ne (by decide)).symm.trans e.1), ((updV_ne (by decide)).symm.trans e.2)⟩) (fun e => ((updV_ne (by decide)).symm.trans e)))) }
theorem i22_14 {wX : World} {RT : Nat} {at0 ii lt : Int} {A DA : Option Addr} {n c k : Nat} {vs : List Value} {V : Nat → Option Value} {w : World} (h : I22 wX RT at0 ii lt A DA n c k vs V w) (d : D22 V) (hi : V 14 = none) : I22 wX RT at0 ii lt A DA n c k vs (updV V 14 (.slice DA (n - k) (c - k))) (w) := by
  skip
  exact {
    low := (h.low),
    c1 := (fun u hu => h.c1 u ((updV_ne (by decide)).symm.trans hu)),
    c2 := (fun u hu => h.c2 u ((updV_ne (by decide)).symm.trans hu)),
    c3 := (fun u hu => h.c3 u ((updV_ne (by decide)).symm.trans hu)),
    c5 := (fun u hu => h.c5 u ((updV_ne (by decide)).symm.trans hu)),
    c6 := (fun u hu => h.c6 u ((updV_ne (by decide)).symm.trans hu)),
    c7 := (fun u hu => h.c7 u ((updV_ne (by decide)).symm.trans hu)),
    c8 := (fun u hu => h.c8 u ((updV_ne (by decide)).symm.trans hu)),
    c12 := (fun u hu => h.c12 u ((updV_ne (by decide)).symm.trans hu)),
    c13 := (fun u hu => h.c13 u ((updV_ne (by decide)).symm.trans hu)),
    c14 := (fun u hu => (Option.some.inj ((updV_same _ _ _).symm.trans hu)).symm),
    r0 := (fun u hu h4 => (h.r0 u ((updV_ne (by decide)).symm.trans hu) ((updV_ne (by decide)).symm.trans h4))),
    r4 := (fun u hu h11 => (h.r4 u ((updV_ne (by decide)).symm.trans hu) ((updV_ne (by decide)).symm.trans h11))),
    r9 := (fun u hu => by obtain ⟨b, e, ho⟩ := h.r9 u ((updV_ne (by decide)).symm.trans hu); exact ⟨b, e, ho⟩),
    r10 := (fun u hu h11 => by obtain ⟨x, hx, ho⟩ := h.r10 u ((updV_ne (by decide)).symm.trans hu) ((updV_ne (by decide)).symm.trans h11); exact ⟨x, ((updV_ne (by decide)).trans hx), ho⟩),
    r11 := (fun u hu h15 => by obtain ⟨x, hx, ho⟩ := h.r11 u ((updV_ne (by decide)).symm.trans hu) ((updV_ne (by decide)).symm.trans h15); exact ⟨x, ((updV_ne (by decide)).trans hx), ho⟩),
    r15 := (fun u hu => by obtain ⟨x, A3, c3, hx, e, ho⟩ := h.r15 u ((updV_ne (by decide)).symm.trans hu); exact ⟨x, A3, c3, ((updV_ne (by decide)).trans hx), e, ho⟩),
    r16 := (fun u hu => ((updV_ne (by decide)).trans (h.r16 u ((updV_ne (by decide)).symm.trans hu)))),
    s9 := (fun v u hv ha => h.s9 v u ((updV_ne (by decide)).symm.trans hv) (act_of (by decide) ha)),
    s10 := (fun v u hv h11 hd => h.s10 v u ((updV_ne (by decide)).symm.trans hv) ((updV_ne (by decide)).symm.trans h11) (hd.imp (fun e => ⟨((updV_ne (by decide)).symm.trans e.1), ((updV_ne (by decide)).symm.trans e.2)⟩) (fun e => ((updV_ne (by decide)).symm.trans e)))) }
theorem i22_0 {wX : World} {RT : Nat} {at0 ii lt : Int} {A DA : Option Addr} {n c k : Nat} {vs : List Value} {V : Nat → Option Value} {w : World} (h : I22 wX RT at0 ii lt A DA n c k vs V w) (d : D22 V) (hi : V 0 = none) : I22 wX RT at0 ii lt A DA n c k vs (updV V 0 (.slice (some ⟨w.heap.size, 0, none⟩) 0 0)) (w.alloc (.cells #[] 48)) := by
  have n4 : V 4 = none := dNone d.d4 hi
  have n11 : V 11 = none := dNone (fun e => (d.d11 e).1) n4
  have n15 : V 15 = none := dNone d.d15 n11
  have n16 : V 16 = none := dNone d.d16 n15
  exact {
    low := (bel_al h.low _),
    c1 := (fun u hu => h.c1 u ((updV_ne (by decide)).symm.trans hu)),
    c2 := (fun u hu => h.c2 u ((updV_ne (by decide)).symm.trans hu)),
    c3 := (fun u hu => h.c3 u ((updV_ne (by decide)).symm.trans hu)),
    c5 := (fun u hu => h.c5 u ((updV_ne (by decide)).symm.trans hu)),
    c6 := (fun u hu => h.c6 u ((updV_ne (by decide)).symm.trans hu)),
    c7 := (fun u hu => h.c7 u ((updV_ne (by decide)).symm.trans hu)),
    c8 := (fun u hu => h.c8 u ((updV_ne (by decide)).symm.trans hu)),
    c12 := (fun u hu => h.c12 u ((updV_ne (by decide)).symm.trans hu)),
    c13 := (fun u hu => h.c13 u ((updV_ne (by decide)).symm.trans hu)),
    c14 := (fun u hu => h.c14 u ((updV_ne (by decide)).symm.trans hu)),
    r0 := (fun u hu _ => by have e := (Option.some.inj ((updV_same _ _ _).symm.trans hu)); subst e; exact dRow0 w _ _ h.low.size),
    r4 := (fun u hu h11 => (World.ownsRow.alloc (h.r4 u ((updV_ne (by decide)).symm.trans hu) ((updV_ne (by decide)).symm.trans h11)) _)),
    r9 := (fun u hu => by obtain ⟨b, e, ho⟩ := h.r9 u ((updV_ne (by decide)).symm.trans hu); exact ⟨b, e, (World.ownsRow.alloc ho _)⟩),
    r10 := (fun u hu h11 => by obtain ⟨x, hx, ho⟩ := h.r10 u ((updV_ne (by decide)).symm.trans hu) ((updV_ne (by decide)).symm.trans h11); exact ⟨x, ((updV_ne (by decide)).trans hx), (World.ownsRow.alloc ho _)⟩),
    r11 := (fun u hu h15 => by obtain ⟨x, hx, ho⟩ := h.r11 u ((updV_ne (by decide)).symm.trans hu) ((updV_ne (by decide)).symm.trans h15); exact ⟨x, ((updV_ne (by decide)).trans hx), (World.ownsRow.alloc ho _)⟩),
    r15 := (fun u hu => by obtain ⟨x, A3, c3, hx, e, ho⟩ := h.r15 u ((updV_ne (by decide)).symm.trans hu); exact ⟨x, A3, c3, ((updV_ne (by decide)).trans hx), e, (World.ownsRow.alloc ho _)⟩),
    r16 := (fun u hu => ((updV_ne (by decide)).trans (h.r16 u ((updV_ne (by decide)).symm.trans hu)))),
    s9 := (fun v u hv ha q q' eq eq' => by
      obtain ⟨b, _, ho⟩ := h.r9 v ((updV_ne (by decide)).symm.trans hv)
      have hlt := (ho.lt q' eq').2
      rcases ha with ⟨e, _⟩ | ⟨e, _⟩ | ⟨e, _⟩ | e
      · have e := (Option.some.inj ((updV_same _ _ _).symm.trans e)); subst e; have hq : w.heap.size = q := Option.some.inj eq; omega
      · exact dNo ((updV_ne (by decide)).symm.trans e) n4
      · exact dNo ((updV_ne (by decide)).symm.trans e) n11
      · exact dNo ((updV_ne (by decide)).symm.trans e) n15),
    s10 := (fun v u hv h11 hd q q' eq eq' => by
      obtain ⟨x, _, ho⟩ := h.r10 v ((updV_ne (by decide)).symm.trans hv) ((updV_ne (by decide)).symm.trans h11)
      have hlt := (ho.lt q' eq').2
      rcases hd with ⟨e, _⟩ | e
      · have e := (Option.some.inj ((updV_same _ _ _).symm.trans e)); subst e; have hq : w.heap.size = q := Option.some.inj eq; omega
      · exact dNo ((updV_ne (by decide)).symm.trans e) n4) }
theorem i22_9 {wX : World} {RT : Nat} {at0 ii lt : Int} {A DA : Option Addr} {n c k : Nat} {vs : List Value} {V : Nat → Option Value} {w : World} (h : I22 wX RT at0 ii lt A DA n c k vs V w) (d : D22 V) (hi : V 9 = none) : I22 wX RT at0 ii lt A DA n c k vs (updV V 9 (.slice (some ⟨w.heap.size, 0, none⟩) 3 3)) (w.alloc (.cells #[.int .i64 at0, .int .i64 ii, .int .i64 lt] 3)) := by
  have n10 : V 10 = none := dNone d.d10 hi
  have n11 : V 11 = none := dNone (fun e => (d.d11 e).2) n10
  have n15 : V 15 = none := dNone d.d15 n11
  have n16 : V 16 = none := dNone d.d16 n15
  exact {
    low := (bel_al h.low _),
    c1 := (fun u hu => h.c1 u ((updV_ne (by decide)).symm.trans hu)),
    c2 := (fun u hu => h.c2 u ((updV_ne (by decide)).symm.trans hu)),
    c3 := (fun u hu => h.c3 u ((updV_ne (by decide)).symm.trans hu)),
    c5 := (fun u hu => h.c5 u ((updV_ne (by decide)).symm.trans hu)),
    c6 := (fun u hu => h.c6 u ((updV_ne (by decide)).symm.trans hu)),
    c7 := (fun u hu => h.c7 u ((updV_ne (by decide)).symm.trans hu)),
    c8 := (fun u hu => h.c8 u ((updV_ne (by decide)).symm.trans hu)),
    c12 := (fun u hu => h.c12 u ((updV_ne (by decide)).symm.trans hu)),
    c13 := (fun u hu => h.c13 u ((updV_ne (by decide)).symm.trans hu)),
    c14 := (fun u hu => h.c14 u ((updV_ne (by decide)).symm.trans hu)),
    r0 := (fun u hu h4 => (World.ownsRow.alloc (h.r0 u ((updV_ne (by decide)).symm.trans hu) ((updV_ne (by decide)).symm.trans h4)) _)),
    r4 := (fun u hu h11 => (World.ownsRow.alloc (h.r4 u ((updV_ne (by decide)).symm.trans hu) ((updV_ne (by decide)).symm.trans h11)) _)),
    r9 := (fun u hu => ⟨w.heap.size, (Option.some.inj ((updV_same _ _ _).symm.trans hu)).symm, by have e := (Option.some.inj ((updV_same _ _ _).symm.trans hu)); subst e; exact dRow3 w _ _ _ _ h.low.size⟩),
    r10 := (fun u hu _ => dNo ((updV_ne (by decide)).symm.trans hu) n10),
    r11 := (fun u hu _ => dNo ((updV_ne (by decide)).symm.trans hu) n11),
    r15 := (fun u hu => dNo ((updV_ne (by decide)).symm.trans hu) n15),
    r16 := (fun u hu => ((updV_ne (by decide)).trans (h.r16 u ((updV_ne (by decide)).symm.trans hu)))),
    s9 := (fun v u hv ha q q' eq eq' => by
      have hlt := act_lt h (act_of (by decide) ha) q eq
      have e := (Option.some.inj ((updV_same _ _ _).symm.trans hv))
      subst e
      have hq : w.heap.size = q' := Option.some.inj eq'
      omega),
    s10 := (fun v u hv => dNo ((updV_ne (by decide)).symm.trans hv) n10) }
theorem i22_10 {wX : World} {RT : Nat} {at0 ii lt : Int} {A DA : Option Addr} {n c k : Nat} {vs : List Value} {V : Nat → Option Value} {w : World} (h : I22 wX RT at0 ii lt A DA n c k vs V w) (d : D22 V) (hi : V 10 = none) (x : Value) (hx : V 9 = some x) : I22 wX RT at0 ii lt A DA n c k vs (updV V 10 (.slice (some ⟨w.heap.size, 0, none⟩) 1 1)) (w.alloc (.cells #[x] 48)) := by
  have n11 : V 11 = none := dNone (fun e => (d.d11 e).2) hi
  have n15 : V 15 = none := dNone d.d15 n11
  have n16 : V 16 = none := dNone d.d16 n15
  exact {
    low := (bel_al h.low _),
    c1 := (fun u hu => h.c1 u ((updV_ne (by decide)).symm.trans hu)),
    c2 := (fun u hu => h.c2 u ((updV_ne (by decide)).symm.trans hu)),
    c3 := (fun u hu => h.c3 u ((updV_ne (by decide)).symm.trans hu)),
    c5 := (fun u hu => h.c5 u ((updV_ne (by decide)).symm.trans hu)),
    c6 := (fun u hu => h.c6 u ((updV_ne (by decide)).symm.trans hu)),
    c7 := (fun u hu => h.c7 u ((updV_ne (by decide)).symm.trans hu)),
    c8 := (fun u hu => h.c8 u ((updV_ne (by decide)).symm.trans hu)),
    c12 := (fun u hu => h.c12 u ((updV_ne (by decide)).symm.trans hu)),
    c13 := (fun u hu => h.c13 u ((updV_ne (by decide)).symm.trans hu)),
    c14 := (fun u hu => h.c14 u ((updV_ne (by decide)).symm.trans hu)),
    r0 := (fun u hu h4 => (World.ownsRow.alloc (h.r0 u ((updV_ne (by decide)).symm.trans hu) ((updV_ne (by decide)).symm.trans h4)) _)),
    r4 := (fun u hu h11 => (World.ownsRow.alloc (h.r4 u ((updV_ne (by decide)).symm.trans hu) ((updV_ne (by decide)).symm.trans h11)) _)),
    r9 := (fun u hu => by obtain ⟨b, e, ho⟩ := h.r9 u ((updV_ne (by decide)).symm.trans hu); exact ⟨b, e, (World.ownsRow.alloc ho _)⟩),
    r10 := (fun u hu _ => ⟨x, ((updV_ne (by decide)).trans hx), by have e := (Option.some.inj ((updV_same _ _ _).symm.trans hu)); subst e; exact dRow1 w _ _ _ h.low.size⟩),
    r11 := (fun u hu _ => dNo ((updV_ne (by decide)).symm.trans hu) n11),
    r15 := (fun u hu => dNo ((updV_ne (by decide)).symm.trans hu) n15),
    r16 := (fun u hu => ((updV_ne (by decide)).trans (h.r16 u ((updV_ne (by decide)).symm.trans hu)))),
    s9 := (fun v u hv ha => h.s9 v u ((updV_ne (by decide)).symm.trans hv) (act_of (by decide) ha)),
    s10 := (fun v u hv h11 hd q q' eq eq' => by
      have e := (Option.some.inj ((updV_same _ _ _).symm.trans hv))
      subst e
      have hq : w.heap.size = q' := Option.some.inj eq'
      have hlt := act_lt h (hd.elim (fun e => .inl ⟨((updV_ne (by decide)).symm.trans e.1), ((updV_ne (by decide)).symm.trans e.2)⟩) (fun e => .inr (.inl ⟨((updV_ne (by decide)).symm.trans e), n11⟩))) q eq
      omega) }
theorem i22_16 {wX : World} {RT : Nat} {at0 ii lt : Int} {A DA : Option Addr} {n c k : Nat} {vs : List Value} {V : Nat → Option Value} {w : World} (h : I22 wX RT at0 ii lt A DA n c k vs V w) (d : D22 V) (hi : V 16 = none) (x : Value) (hx : V 15 = some x) : I22 wX RT at0 ii lt A DA n c k vs (updV V 16 (x)) (w) := by
  skip
  exact {
    low := (h.low),
    c1 := (fun u hu => h.c1 u ((updV_ne (by decide)).symm.trans hu)),
    c2 := (fun u hu => h.c2 u ((updV_ne (by decide)).symm.trans hu)),
    c3 := (fun u hu => h.c3 u ((updV_ne (by decide)).symm.trans hu)),
    c5 := (fun u hu => h.c5 u ((updV_ne (by decide)).symm.trans hu)),
    c6 := (fun u hu => h.c6 u ((updV_ne (by decide)).symm.trans hu)),
    c7 := (fun u hu => h.c7 u ((updV_ne (by decide)).symm.trans hu)),
    c8 := (fun u hu => h.c8 u ((updV_ne (by decide)).symm.trans hu)),
    c12 := (fun u hu => h.c12 u ((updV_ne (by decide)).symm.trans hu)),
    c13 := (fun u hu => h.c13 u ((updV_ne (by decide)).symm.trans hu)),
    c14 := (fun u hu => h.c14 u ((updV_ne (by decide)).symm.trans hu)),
    r0 := (fun u hu h4 => (h.r0 u ((updV_ne (by decide)).symm.trans hu) ((updV_ne (by decide)).symm.trans h4))),
    r4 := (fun u hu h11 => (h.r4 u ((updV_ne (by decide)).symm.trans hu) ((updV_ne (by decide)).symm.trans h11))),
    r9 := (fun u hu => by obtain ⟨b, e, ho⟩ := h.r9 u ((updV_ne (by decide)).symm.trans hu); exact ⟨b, e, ho⟩),
    r10 := (fun u hu h11 => by obtain ⟨x, hx, ho⟩ := h.r10 u ((updV_ne (by decide)).symm.trans hu) ((updV_ne (by decide)).symm.trans h11); exact ⟨x, ((updV_ne (by decide)).trans hx), ho⟩),
    r11 := (fun u hu h15 => by obtain ⟨x, hx, ho⟩ := h.r11 u ((updV_ne (by decide)).symm.trans hu) ((updV_ne (by decide)).symm.trans h15); exact ⟨x, ((updV_ne (by decide)).trans hx), ho⟩),
    r15 := (fun u hu => by obtain ⟨x, A3, c3, hx, e, ho⟩ := h.r15 u ((updV_ne (by decide)).symm.trans hu); exact ⟨x, A3, c3, ((updV_ne (by decide)).trans hx), e, ho⟩),
    r16 := (fun u hu => by have e := (Option.some.inj ((updV_same _ _ _).symm.trans hu)); subst e; exact ((updV_ne (by decide)).trans hx)),
    s9 := (fun v u hv ha => h.s9 v u ((updV_ne (by decide)).symm.trans hv) (act_of (by decide) ha)),
    s10 := (fun v u hv h11 hd => h.s10 v u ((updV_ne (by decide)).symm.trans hv) ((updV_ne (by decide)).symm.trans h11) (hd.imp (fun e => ⟨((updV_ne (by decide)).symm.trans e.1), ((updV_ne (by decide)).symm.trans e.2)⟩) (fun e => ((updV_ne (by decide)).symm.trans e)))) }
theorem i22_4 {wX : World} {RT : Nat} {at0 ii lt : Int} {A DA : Option Addr} {n c k : Nat} {vs : List Value} {V : Nat → Option Value} {w : World} (h : I22 wX RT at0 ii lt A DA n c k vs V w) (d : D22 V) (hi : V 4 = none) (u0 : Value) (h0 : V 0 = some u0) (v1 : Value) (w1 : World) (hg : w.grownBy w1 u0.ownBlock) (he : v1.ownBlock = u0.ownBlock ∨ v1.ownBlock = some w.heap.size) (ho : w1.ownsRow wX.heap.size 48 1 v1 (k) (vs.take k)) : I22 wX RT at0 ii lt A DA n c k vs (updV V 4 (v1)) (w1) := by
  have hown := h.r0 u0 h0 hi
  have n11 : V 11 = none := dNone (fun e => (d.d11 e).1) hi
  have n15 : V 15 = none := dNone d.d15 n11
  have n16 : V 16 = none := dNone d.d16 n15
  exact {
    low := (bel_grown h.low hg (fun q e => (hown.lt q e).1)),
    c1 := (fun u hu => h.c1 u ((updV_ne (by decide)).symm.trans hu)),
    c2 := (fun u hu => h.c2 u ((updV_ne (by decide)).symm.trans hu)),
    c3 := (fun u hu => h.c3 u ((updV_ne (by decide)).symm.trans hu)),
    c5 := (fun u hu => h.c5 u ((updV_ne (by decide)).symm.trans hu)),
    c6 := (fun u hu => h.c6 u ((updV_ne (by decide)).symm.trans hu)),
    c7 := (fun u hu => h.c7 u ((updV_ne (by decide)).symm.trans hu)),
    c8 := (fun u hu => h.c8 u ((updV_ne (by decide)).symm.trans hu)),
    c12 := (fun u hu => h.c12 u ((updV_ne (by decide)).symm.trans hu)),
    c13 := (fun u hu => h.c13 u ((updV_ne (by decide)).symm.trans hu)),
    c14 := (fun u hu => h.c14 u ((updV_ne (by decide)).symm.trans hu)),
    r0 := (fun u hu h4 => dNo (updV_same _ _ _) h4),
    r4 := (fun u hu _ => by have e := (Option.some.inj ((updV_same _ _ _).symm.trans hu)); subst e; exact ho),
    r9 := (fun u hu => by obtain ⟨b, e, ho9⟩ := h.r9 u ((updV_ne (by decide)).symm.trans hu); exact ⟨b, e, sepKept ho9 hg (h.s9 u u0 ((updV_ne (by decide)).symm.trans hu) (.inl ⟨h0, hi⟩))⟩),
    r10 := (fun u hu h11 => by obtain ⟨x, hx, ho1⟩ := h.r10 u ((updV_ne (by decide)).symm.trans hu) ((updV_ne (by decide)).symm.trans h11); exact ⟨x, ((updV_ne (by decide)).trans hx), sepKept ho1 hg (h.s10 u u0 ((updV_ne (by decide)).symm.trans hu) ((updV_ne (by decide)).symm.trans h11) (.inl ⟨h0, hi⟩))⟩),
    r11 := (fun u hu _ => dNo ((updV_ne (by decide)).symm.trans hu) n11),
    r15 := (fun u hu => dNo ((updV_ne (by decide)).symm.trans hu) n15),
    r16 := (fun u hu => ((updV_ne (by decide)).trans (h.r16 u ((updV_ne (by decide)).symm.trans hu)))),
    s9 := (fun v u hv ha q q' eq eq' => by
      obtain ⟨b, _, ho9⟩ := h.r9 v ((updV_ne (by decide)).symm.trans hv)
      have hlt := (ho9.lt q' eq').2
      have hu : u = v1 := by
        rcases ha with ⟨e, e2⟩ | ⟨e, e2⟩ | ⟨e, e2⟩ | e
        · exact dNo (updV_same _ _ _) e2
        · exact (Option.some.inj ((updV_same _ _ _).symm.trans e)).symm
        · exact dNo ((updV_ne (by decide)).symm.trans e) n11
        · exact dNo ((updV_ne (by decide)).symm.trans e) n15
      subst hu
      rcases he with he | he
      · exact h.s9 v u0 ((updV_ne (by decide)).symm.trans hv) (.inl ⟨h0, hi⟩) q q' (he.symm.trans eq) eq'
      · have := Option.some.inj (he.symm.trans eq); omega),
    s10 := (fun v u hv h11 hd q q' eq eq' => by
      obtain ⟨x, _, ho1⟩ := h.r10 v ((updV_ne (by decide)).symm.trans hv) ((updV_ne (by decide)).symm.trans h11)
      have hlt := (ho1.lt q' eq').2
      rcases hd with ⟨_, e⟩ | e
      · exact dNo (updV_same _ _ _) e
      · have e := (Option.some.inj ((updV_same _ _ _).symm.trans e))
        subst e
        rcases he with he | he
        · exact h.s10 v u0 ((updV_ne (by decide)).symm.trans hv) ((updV_ne (by decide)).symm.trans h11) (.inl ⟨h0, hi⟩) q q' (he.symm.trans eq) eq'
        · have := Option.some.inj (he.symm.trans eq); omega) }
theorem i22_11 {wX : World} {RT : Nat} {at0 ii lt : Int} {A DA : Option Addr} {n c k : Nat} {vs : List Value} {V : Nat → Option Value} {w : World} (h : I22 wX RT at0 ii lt A DA n c k vs V w) (d : D22 V) (hi : V 11 = none) (u0 : Value) (h0 : V 4 = some u0) (v1 : Value) (w1 : World) (hg : w.grownBy w1 u0.ownBlock) (he : v1.ownBlock = u0.ownBlock ∨ v1.ownBlock = some w.heap.size) (x : Value) (hx : V 9 = some x) (ho : w1.ownsRow wX.heap.size 48 1 v1 (k + 1) (vs.take k ++ [x])) : I22 wX RT at0 ii lt A DA n c k vs (updV V 11 (v1)) (w1) := by
  have hown := h.r4 u0 h0 hi
  have n15 : V 15 = none := dNone d.d15 hi
  have n16 : V 16 = none := dNone d.d16 n15
  exact {
    low := (bel_grown h.low hg (fun q e => (hown.lt q e).1)),
    c1 := (fun u hu => h.c1 u ((updV_ne (by decide)).symm.trans hu)),
    c2 := (fun u hu => h.c2 u ((updV_ne (by decide)).symm.trans hu)),
    c3 := (fun u hu => h.c3 u ((updV_ne (by decide)).symm.trans hu)),
    c5 := (fun u hu => h.c5 u ((updV_ne (by decide)).symm.trans hu)),
    c6 := (fun u hu => h.c6 u ((updV_ne (by decide)).symm.trans hu)),
    c7 := (fun u hu => h.c7 u ((updV_ne (by decide)).symm.trans hu)),
    c8 := (fun u hu => h.c8 u ((updV_ne (by decide)).symm.trans hu)),
    c12 := (fun u hu => h.c12 u ((updV_ne (by decide)).symm.trans hu)),
    c13 := (fun u hu => h.c13 u ((updV_ne (by decide)).symm.trans hu)),
    c14 := (fun u hu => h.c14 u ((updV_ne (by decide)).symm.trans hu)),
    r0 := (fun u hu h4 => dNo h0 ((updV_ne (by decide)).symm.trans h4)),
    r4 := (fun u hu h11 => dNo (updV_same _ _ _) h11),
    r9 := (fun u hu => by obtain ⟨b, e, ho9⟩ := h.r9 u ((updV_ne (by decide)).symm.trans hu); exact ⟨b, e, sepKept ho9 hg (h.s9 u u0 ((updV_ne (by decide)).symm.trans hu) (.inr (.inl ⟨h0, hi⟩)))⟩),
    r10 := (fun u hu h11 => dNo (updV_same _ _ _) h11),
    r11 := (fun u hu _ => ⟨x, ((updV_ne (by decide)).trans hx), by have e := (Option.some.inj ((updV_same _ _ _).symm.trans hu)); subst e; exact ho⟩),
    r15 := (fun u hu => dNo ((updV_ne (by decide)).symm.trans hu) n15),
    r16 := (fun u hu => ((updV_ne (by decide)).trans (h.r16 u ((updV_ne (by decide)).symm.trans hu)))),
    s9 := (fun v u hv ha q q' eq eq' => by
      obtain ⟨b, _, ho9⟩ := h.r9 v ((updV_ne (by decide)).symm.trans hv)
      have hlt := (ho9.lt q' eq').2
      have hu : u = v1 := by
        rcases ha with ⟨e, e2⟩ | ⟨e, e2⟩ | ⟨e, e2⟩ | e
        · exact dNo h0 ((updV_ne (by decide)).symm.trans e2)
        · exact dNo (updV_same _ _ _) e2
        · exact (Option.some.inj ((updV_same _ _ _).symm.trans e)).symm
        · exact dNo ((updV_ne (by decide)).symm.trans e) n15
      subst hu
      rcases he with he | he
      · exact h.s9 v u0 ((updV_ne (by decide)).symm.trans hv) (.inr (.inl ⟨h0, hi⟩)) q q' (he.symm.trans eq) eq'
      · have := Option.some.inj (he.symm.trans eq); omega),
    s10 := (fun v u hv h11 => dNo (updV_same _ _ _) h11) }
theorem i22_15 {wX : World} {RT : Nat} {at0 ii lt : Int} {A DA : Option Addr} {n c k : Nat} {vs : List Value} {V : Nat → Option Value} {w : World} (h : I22 wX RT at0 ii lt A DA n c k vs V w) (d : D22 V) (hi : V 15 = none) (u0 : Value) (h0 : V 11 = some u0) (v1 : Value) (w1 : World) (hg : w.grownBy w1 u0.ownBlock) (he : v1.ownBlock = u0.ownBlock ∨ v1.ownBlock = some w.heap.size) (x : Value) (hx : V 9 = some x) (h4 : (V 4).isSome = true) (ho : w1.ownsRow wX.heap.size 48 1 v1 (k + 1 + (n - k)) (vs.take k ++ [x] ++ vs.drop k)) : I22 wX RT at0 ii lt A DA n c k vs (updV V 15 (v1)) (w1) := by
  obtain ⟨x2, _, hown⟩ := h.r11 u0 h0 hi
  have n16 : V 16 = none := dNone d.d16 hi
  obtain ⟨A3, c3, hv3, -⟩ := own_rd ho
  exact {
    low := (bel_grown h.low hg (fun q e => (hown.lt q e).1)),
    c1 := (fun u hu => h.c1 u ((updV_ne (by decide)).symm.trans hu)),
    c2 := (fun u hu => h.c2 u ((updV_ne (by decide)).symm.trans hu)),
    c3 := (fun u hu => h.c3 u ((updV_ne (by decide)).symm.trans hu)),
    c5 := (fun u hu => h.c5 u ((updV_ne (by decide)).symm.trans hu)),
    c6 := (fun u hu => h.c6 u ((updV_ne (by decide)).symm.trans hu)),
    c7 := (fun u hu => h.c7 u ((updV_ne (by decide)).symm.trans hu)),
    c8 := (fun u hu => h.c8 u ((updV_ne (by decide)).symm.trans hu)),
    c12 := (fun u hu => h.c12 u ((updV_ne (by decide)).symm.trans hu)),
    c13 := (fun u hu => h.c13 u ((updV_ne (by decide)).symm.trans hu)),
    c14 := (fun u hu => h.c14 u ((updV_ne (by decide)).symm.trans hu)),
    r0 := (fun u hu h4n => by have h4n := ((updV_ne (by decide)).symm.trans h4n); rw [h4n] at h4; cases h4),
    r4 := (fun u hu h11 => dNo h0 ((updV_ne (by decide)).symm.trans h11)),
    r9 := (fun u hu => by obtain ⟨b, e, ho9⟩ := h.r9 u ((updV_ne (by decide)).symm.trans hu); exact ⟨b, e, sepKept ho9 hg (h.s9 u u0 ((updV_ne (by decide)).symm.trans hu) (.inr (.inr (.inl ⟨h0, hi⟩))))⟩),
    r10 := (fun u hu h11 => dNo h0 ((updV_ne (by decide)).symm.trans h11)),
    r11 := (fun u hu h15 => dNo (updV_same _ _ _) h15),
    r15 := (fun u hu => ⟨x, A3, c3, ((updV_ne (by decide)).trans hx), by have e := (Option.some.inj ((updV_same _ _ _).symm.trans hu)); subst e; exact ⟨hv3, ho⟩⟩),
    r16 := (fun u hu => dNo ((updV_ne (by decide)).symm.trans hu) n16),
    s9 := (fun v u hv ha q q' eq eq' => by
      obtain ⟨b, _, ho9⟩ := h.r9 v ((updV_ne (by decide)).symm.trans hv)
      have hlt := (ho9.lt q' eq').2
      have hu : u = v1 := by
        rcases ha with ⟨e, e2⟩ | ⟨e, e2⟩ | ⟨e, e2⟩ | e
        · have h4n := ((updV_ne (by decide)).symm.trans e2); rw [h4n] at h4; cases h4
        · exact dNo h0 ((updV_ne (by decide)).symm.trans e2)
        · exact dNo (updV_same _ _ _) e2
        · exact (Option.some.inj ((updV_same _ _ _).symm.trans e)).symm
      subst hu
      rcases he with he | he
      · exact h.s9 v u0 ((updV_ne (by decide)).symm.trans hv) (.inr (.inr (.inl ⟨h0, hi⟩))) q q' (he.symm.trans eq) eq'
      · have := Option.some.inj (he.symm.trans eq); omega),
    s10 := (fun v u hv h11 => dNo h0 ((updV_ne (by decide)).symm.trans h11)) }
theorem below_cD {wX w : World} {b o : Nat} {v : Value} (h : Below wX.heap.size wX w) (hb : b < wX.heap.size) (hc : wX.cell? ⟨b, o, none⟩ = some v) : w.cell? ⟨b, o, none⟩ = some v := (h.cell (p := ⟨b, o, none⟩) hb).trans hc
set_option maxRecDepth 100000 in
theorem op22_0 {wX : World} {RT : Nat} {at0 ii lt : Int} {A DA : Option Addr} {n c k : Nat} {vs : List Value} {V : Nat → Option Value} {w : World} {a : Act} {K : Act → World → Prop} {Q : Exit → Act → World → Prop} {ty : TypeId} {pp : String} {af : Array Edge} {gg : Option (Nat × Bool)} (h : I22 wX RT at0 ii lt A DA n c k vs V w) (d : D22 V) (hi : V 0 = none) (hK : ∀ v w', I22 wX RT at0 ii lt A DA n c k vs (updV V 0 v) w' → K (a.put (some 75) v) w') : Oper.wp Try.prog { dst := some 75, op := .buildSlice 24 0 #[], type := ty, pos := pp, after := af, guard := gg } a w K Q := by
  unfold Oper.wp execOp
  go_simp
  exact hK _ _ (i22_0 h d hi)
set_option maxRecDepth 100000 in
theorem op22_1 {wX : World} {RT : Nat} {at0 ii lt : Int} {A DA : Option Addr} {n c k : Nat} {vs : List Value} {V : Nat → Option Value} {w : World} {a : Act} {K : Act → World → Prop} {Q : Exit → Act → World → Prop} {ty : TypeId} {pp : String} {af : Array Edge} {gg : Option (Nat × Bool)} (h : I22 wX RT at0 ii lt A DA n c k vs V w) (d : D22 V) (hi : V 1 = none) (E9 : a.eval (.tmp 9) = .slice A n c) (hK : ∀ v w', I22 wX RT at0 ii lt A DA n c k vs (updV V 1 v) w' → K (a.put (some 76) v) w') : Oper.wp Try.prog { dst := some 76, op := .move (.tmp 9), type := ty, pos := pp, after := af, guard := gg } a w K Q := by
  unfold Oper.wp execOp
  simp only [E9]
  go_simp
  exact hK _ _ (i22_1 h d hi)
set_option maxRecDepth 100000 in
theorem op22_2 {wX : World} {RT : Nat} {at0 ii lt : Int} {A DA : Option Addr} {n c k : Nat} {vs : List Value} {V : Nat → Option Value} {w : World} {a : Act} {K : Act → World → Prop} {Q : Exit → Act → World → Prop} {ty : TypeId} {pp : String} {af : Array Edge} {gg : Option (Nat × Bool)} (h : I22 wX RT at0 ii lt A DA n c k vs V w) (d : D22 V) (hi : V 2 = none) (E14 : a.eval (.tmp 14) = .int .i64 (k : Int)) (hK : ∀ v w', I22 wX RT at0 ii lt A DA n c k vs (updV V 2 v) w' → K (a.put (some 77) v) w') : Oper.wp Try.prog { dst := some 77, op := .move (.tmp 14), type := ty, pos := pp, after := af, guard := gg } a w K Q := by
  unfold Oper.wp execOp
  simp only [E14]
  go_simp
  exact hK _ _ (i22_2 h d hi)
set_option maxRecDepth 100000 in
theorem op22_3 {wX : World} {RT : Nat} {at0 ii lt : Int} {A DA : Option Addr} {n c k : Nat} {vs : List Value} {V : Nat → Option Value} {w : World} {a : Act} {K : Act → World → Prop} {Q : Exit → Act → World → Prop} {ty : TypeId} {pp : String} {af : Array Edge} {gg : Option (Nat × Bool)} (h : I22 wX RT at0 ii lt A DA n c k vs V w) (d : D22 V) (hi : V 3 = none) (E76 : ∀ v, V 1 = some v → a.eval (.tmp 76) = v) (E77 : ∀ v, V 2 = some v → a.eval (.tmp 77) = v) (p1 : (V 1).isSome = true) (p2 : (V 2).isSome = true) (hvs : vs.length = n) (hk : k ≤ n) (hc : n ≤ c) (hn : n ≤ 200) (h1 : ∀ u ∈ vs, u.oneCell' = true) (hK : ∀ v w', I22 wX RT at0 ii lt A DA n c k vs (updV V 3 v) w' → K (a.put (some 78) v) w') : Oper.wp Try.prog { dst := some 78, op := .slice 24 (.tmp 76) none (some (.tmp 77)) none, type := ty, pos := pp, after := af, guard := gg } a w K Q := by
  obtain ⟨v1, hv1⟩ := dSome p1
  have e76 := E76 v1 hv1
  rw [h.c1 v1 hv1] at e76
  obtain ⟨v2, hv2⟩ := dSome p2
  have e77 := E77 v2 hv2
  rw [h.c2 v2 hv2] at e77
  have q0 : (0 : Int) ≤ (k : Int) := by omega
  have q1 : (k : Int) ≤ (n : Int) := by omega
  have q2 : (k : Int) ≤ (c : Int) := by omega
  unfold Oper.wp execOp
  simp only [Option.map_none, Option.map_some, e76, e77]
  cases A
  · go_simp
    exact hK _ _ (i22_3 h d hi)
  · go_simp
    exact hK _ _ (i22_3 h d hi)
set_option maxRecDepth 100000 in
theorem op22_4 {wX : World} {RT : Nat} {at0 ii lt : Int} {A DA : Option Addr} {n c k : Nat} {vs : List Value} {V : Nat → Option Value} {w : World} {a : Act} {K : Act → World → Prop} {Q : Exit → Act → World → Prop} {ty : TypeId} {pp : String} {af : Array Edge} {gg : Option (Nat × Bool)} (h : I22 wX RT at0 ii lt A DA n c k vs V w) (d : D22 V) (hi : V 4 = none) (E75 : ∀ v, V 0 = some v → a.eval (.tmp 75) = v) (E78 : ∀ v, V 3 = some v → a.eval (.tmp 78) = v) (p0 : (V 0).isSome = true) (p3 : (V 3).isSome = true) (hP : Rd wX (.slice A k c) k (vs.take k)) (hvs : vs.length = n) (hk : k ≤ n) (hc : n ≤ c) (hn : n ≤ 200) (h1 : ∀ u ∈ vs, u.oneCell' = true) (hK : ∀ v w', I22 wX RT at0 ii lt A DA n c k vs (updV V 4 v) w' → K (a.put (some 79) v) w') : Oper.wp Try.prog { dst := some 79, op := .call { callee := .builtin .append, args := #[.tmp 75, .tmp 78], argTypes := #[24, 24] }, type := ty, pos := pp, after := af, guard := gg } a w K Q := by
  obtain ⟨v3, hv3⟩ := dSome p3
  have e78 := E78 v3 hv3
  rw [h.c3 v3 hv3] at e78
  obtain ⟨u0, hu0⟩ := dSome p0
  obtain ⟨iS, hiS, hzS0, hzS1, hzS2⟩ := info_parts Try.infoSS
  have hTL : (vs.take k).length = k * 1 := by rw [List.length_take]; omega
  have hDL : (vs.drop k).length = (n - k) * 1 := by rw [List.length_drop]; omega
  refine wp_app_rd w (.tmp 75) (.tmp 78) 24 rfl wX.heap.size 48 iS (.slice none 0 0) 1 24 Try.underlying24 hiS hzS0 hzS1 hzS2 rfl (by decide) u0 (0) ([]) (E75 u0 hu0) (h.r0 u0 hu0 hi) _ (k) (vs.take k) e78 (rd_below hP h.low) hTL (fun u hu => h1 u (List.mem_of_mem_take hu)) (by rw [maxLen_eq]; omega) (by omega) h.low.size ?_
  intro v1 w1 ho hg he
  rw [Nat.zero_add, List.nil_append] at ho
  exact hK _ _ (i22_4 h d hi u0 hu0 v1 w1 hg he ho)
set_option maxRecDepth 100000 in
theorem op22_5 {wX : World} {RT : Nat} {at0 ii lt : Int} {A DA : Option Addr} {n c k : Nat} {vs : List Value} {V : Nat → Option Value} {w : World} {a : Act} {K : Act → World → Prop} {Q : Exit → Act → World → Prop} {ty : TypeId} {pp : String} {af : Array Edge} {gg : Option (Nat × Bool)} (h : I22 wX RT at0 ii lt A DA n c k vs V w) (d : D22 V) (hi : V 5 = none) (E13 : a.eval (.tmp 13) = .int .i64 at0) (hK : ∀ v w', I22 wX RT at0 ii lt A DA n c k vs (updV V 5 v) w' → K (a.put (some 80) v) w') : Oper.wp Try.prog { dst := some 80, op := .move (.tmp 13), type := ty, pos := pp, after := af, guard := gg } a w K Q := by
  unfold Oper.wp execOp
  simp only [E13]
  go_simp
  exact hK _ _ (i22_5 h d hi)
set_option maxRecDepth 100000 in
theorem op22_6 {wX : World} {RT : Nat} {at0 ii lt : Int} {A DA : Option Addr} {n c k : Nat} {vs : List Value} {V : Nat → Option Value} {w : World} {a : Act} {K : Act → World → Prop} {Q : Exit → Act → World → Prop} {ty : TypeId} {pp : String} {af : Array Edge} {gg : Option (Nat × Bool)} (h : I22 wX RT at0 ii lt A DA n c k vs V w) (d : D22 V) (hi : V 6 = none) (E10 : a.eval (.tmp 10) = .int .i64 ii) (hK : ∀ v w', I22 wX RT at0 ii lt A DA n c k vs (updV V 6 v) w' → K (a.put (some 81) v) w') : Oper.wp Try.prog { dst := some 81, op := .move (.tmp 10), type := ty, pos := pp, after := af, guard := gg } a w K Q := by
  unfold Oper.wp execOp
  simp only [E10]
  go_simp
  exact hK _ _ (i22_6 h d hi)
set_option maxRecDepth 100000 in
theorem op22_7 {wX : World} {RT : Nat} {at0 ii lt : Int} {A DA : Option Addr} {n c k : Nat} {vs : List Value} {V : Nat → Option Value} {w : World} {a : Act} {K : Act → World → Prop} {Q : Exit → Act → World → Prop} {ty : TypeId} {pp : String} {af : Array Edge} {gg : Option (Nat × Bool)} (h : I22 wX RT at0 ii lt A DA n c k vs V w) (d : D22 V) (hi : V 7 = none) (E11 : a.eval (.tmp 11) = .pointer (some ⟨RT, 0, none⟩)) (hK : ∀ v w', I22 wX RT at0 ii lt A DA n c k vs (updV V 7 v) w' → K (a.put (some 82) v) w') : Oper.wp Try.prog { dst := some 82, op := .fieldAddr 42 (.tmp 11) 0, type := ty, pos := pp, after := af, guard := gg } a w K Q := by
  unfold Oper.wp execOp
  simp only [E11]
  go_simp
  exact hK _ _ (i22_7 h d hi)
set_option maxRecDepth 100000 in
theorem op22_8 {wX : World} {RT : Nat} {at0 ii lt : Int} {A DA : Option Addr} {n c k : Nat} {vs : List Value} {V : Nat → Option Value} {w : World} {a : Act} {K : Act → World → Prop} {Q : Exit → Act → World → Prop} {ty : TypeId} {pp : String} {af : Array Edge} {gg : Option (Nat × Bool)} (h : I22 wX RT at0 ii lt A DA n c k vs V w) (d : D22 V) (hi : V 8 = none) (E82 : ∀ v, V 7 = some v → a.eval (.tmp 82) = v) (p7 : (V 7).isSome = true) (hR : RT < wX.heap.size) (u0 : wX.cell? ⟨RT, 0, none⟩ = some (.int .i64 lt)) (hK : ∀ v w', I22 wX RT at0 ii lt A DA n c k vs (updV V 8 v) w' → K (a.put (some 83) v) w') : Oper.wp Try.prog { dst := some 83, op := .load 3 (.tmp 82), type := ty, pos := pp, after := af, guard := gg } a w K Q := by
  obtain ⟨v7, hv7⟩ := dSome p7
  have e82 := E82 v7 hv7
  rw [h.c7 v7 hv7] at e82
  have c0 := below_cD h.low hR u0
  unfold Oper.wp execOp
  simp only [e82]
  go_simp
  exact hK _ _ (i22_8 h d hi)
set_option maxRecDepth 100000 in
theorem op22_9 {wX : World} {RT : Nat} {at0 ii lt : Int} {A DA : Option Addr} {n c k : Nat} {vs : List Value} {V : Nat → Option Value} {w : World} {a : Act} {K : Act → World → Prop} {Q : Exit → Act → World → Prop} {ty : TypeId} {pp : String} {af : Array Edge} {gg : Option (Nat × Bool)} (h : I22 wX RT at0 ii lt A DA n c k vs V w) (d : D22 V) (hi : V 9 = none) (E80 : ∀ v, V 5 = some v → a.eval (.tmp 80) = v) (E81 : ∀ v, V 6 = some v → a.eval (.tmp 81) = v) (E83 : ∀ v, V 8 = some v → a.eval (.tmp 83) = v) (p5 : (V 5).isSome = true) (p6 : (V 6).isSome = true) (p8 : (V 8).isSome = true) (hK : ∀ v w', I22 wX RT at0 ii lt A DA n c k vs (updV V 9 v) w' → K (a.put (some 84) v) w') : Oper.wp Try.prog { dst := some 84, op := .buildSlice 48 3 #[(0, .tmp 80), (1, .tmp 81), (2, .tmp 83)], type := ty, pos := pp, after := af, guard := gg } a w K Q := by
  obtain ⟨v5, hv5⟩ := dSome p5
  have e80 := E80 v5 hv5
  rw [h.c5 v5 hv5] at e80
  obtain ⟨v6, hv6⟩ := dSome p6
  have e81 := E81 v6 hv6
  rw [h.c6 v6 hv6] at e81
  obtain ⟨v8, hv8⟩ := dSome p8
  have e83 := E83 v8 hv8
  rw [h.c8 v8 hv8] at e83
  unfold Oper.wp execOp
  simp only [List.map_toArray, List.map_cons, List.map_nil, e80, e81, e83]
  go_simp
  exact hK _ _ (i22_9 h d hi)
set_option maxRecDepth 100000 in
theorem op22_10 {wX : World} {RT : Nat} {at0 ii lt : Int} {A DA : Option Addr} {n c k : Nat} {vs : List Value} {V : Nat → Option Value} {w : World} {a : Act} {K : Act → World → Prop} {Q : Exit → Act → World → Prop} {ty : TypeId} {pp : String} {af : Array Edge} {gg : Option (Nat × Bool)} (h : I22 wX RT at0 ii lt A DA n c k vs V w) (d : D22 V) (hi : V 10 = none) (E84 : ∀ v, V 9 = some v → a.eval (.tmp 84) = v) (p9 : (V 9).isSome = true) (hK : ∀ v w', I22 wX RT at0 ii lt A DA n c k vs (updV V 10 v) w' → K (a.put (some 85) v) w') : Oper.wp Try.prog { dst := some 85, op := .buildSlice 24 1 #[(0, .tmp 84)], type := ty, pos := pp, after := af, guard := gg } a w K Q := by
  obtain ⟨v9, hv9⟩ := dSome p9
  have e84 := E84 v9 hv9
  obtain ⟨b, q9, -⟩ := h.r9 v9 hv9
  rw [q9] at e84 hv9
  unfold Oper.wp execOp
  simp only [List.map_toArray, List.map_cons, List.map_nil, e84]
  go_simp
  exact hK _ _ (i22_10 h d hi _ hv9)
set_option maxRecDepth 100000 in
theorem op22_11 {wX : World} {RT : Nat} {at0 ii lt : Int} {A DA : Option Addr} {n c k : Nat} {vs : List Value} {V : Nat → Option Value} {w : World} {a : Act} {K : Act → World → Prop} {Q : Exit → Act → World → Prop} {ty : TypeId} {pp : String} {af : Array Edge} {gg : Option (Nat × Bool)} (h : I22 wX RT at0 ii lt A DA n c k vs V w) (d : D22 V) (hi : V 11 = none) (E79 : ∀ v, V 4 = some v → a.eval (.tmp 79) = v) (E85 : ∀ v, V 10 = some v → a.eval (.tmp 85) = v) (p4 : (V 4).isSome = true) (p10 : (V 10).isSome = true) (hvs : vs.length = n) (hk : k ≤ n) (hc : n ≤ c) (hn : n ≤ 200) (h1 : ∀ u ∈ vs, u.oneCell' = true) (hK : ∀ v w', I22 wX RT at0 ii lt A DA n c k vs (updV V 11 v) w' → K (a.put (some 86) v) w') : Oper.wp Try.prog { dst := some 86, op := .call { callee := .builtin .append, args := #[.tmp 79, .tmp 85], argTypes := #[24, 24] }, type := ty, pos := pp, after := af, guard := gg } a w K Q := by
  obtain ⟨u10, hu10⟩ := dSome p10
  have e85 := E85 u10 hu10
  obtain ⟨x, hx, hox⟩ := h.r10 u10 hu10 hi
  obtain ⟨bx, qx, -⟩ := h.r9 x hx
  obtain ⟨u0, hu0⟩ := dSome p4
  obtain ⟨iS, hiS, hzS0, hzS1, hzS2⟩ := info_parts Try.infoSS
  have hTL : (vs.take k).length = k * 1 := by rw [List.length_take]; omega
  have hDL : (vs.drop k).length = (n - k) * 1 := by rw [List.length_drop]; omega
  refine wp_app_rd w (.tmp 79) (.tmp 85) 24 rfl wX.heap.size 48 iS (.slice none 0 0) 1 24 Try.underlying24 hiS hzS0 hzS1 hzS2 rfl (by decide) u0 (k) (vs.take k) (E79 u0 hu0) (h.r4 u0 hu0 hi) _ (1) ([x]) e85 (own_rd hox) rfl (by intro u hu; simp at hu; subst hu; rw [qx]; rfl) (by rw [maxLen_eq]; omega) (by omega) h.low.size ?_
  intro v1 w1 ho hg he
  exact hK _ _ (i22_11 h d hi u0 hu0 v1 w1 hg he x hx ho)
set_option maxRecDepth 100000 in
theorem op22_12 {wX : World} {RT : Nat} {at0 ii lt : Int} {A DA : Option Addr} {n c k : Nat} {vs : List Value} {V : Nat → Option Value} {w : World} {a : Act} {K : Act → World → Prop} {Q : Exit → Act → World → Prop} {ty : TypeId} {pp : String} {af : Array Edge} {gg : Option (Nat × Bool)} (h : I22 wX RT at0 ii lt A DA n c k vs V w) (d : D22 V) (hi : V 12 = none) (E9 : a.eval (.tmp 9) = .slice A n c) (hK : ∀ v w', I22 wX RT at0 ii lt A DA n c k vs (updV V 12 v) w' → K (a.put (some 87) v) w') : Oper.wp Try.prog { dst := some 87, op := .move (.tmp 9), type := ty, pos := pp, after := af, guard := gg } a w K Q := by
  unfold Oper.wp execOp
  simp only [E9]
  go_simp
  exact hK _ _ (i22_12 h d hi)
set_option maxRecDepth 100000 in
theorem op22_13 {wX : World} {RT : Nat} {at0 ii lt : Int} {A DA : Option Addr} {n c k : Nat} {vs : List Value} {V : Nat → Option Value} {w : World} {a : Act} {K : Act → World → Prop} {Q : Exit → Act → World → Prop} {ty : TypeId} {pp : String} {af : Array Edge} {gg : Option (Nat × Bool)} (h : I22 wX RT at0 ii lt A DA n c k vs V w) (d : D22 V) (hi : V 13 = none) (E14 : a.eval (.tmp 14) = .int .i64 (k : Int)) (hK : ∀ v w', I22 wX RT at0 ii lt A DA n c k vs (updV V 13 v) w' → K (a.put (some 88) v) w') : Oper.wp Try.prog { dst := some 88, op := .move (.tmp 14), type := ty, pos := pp, after := af, guard := gg } a w K Q := by
  unfold Oper.wp execOp
  simp only [E14]
  go_simp
  exact hK _ _ (i22_13 h d hi)
set_option maxRecDepth 100000 in
theorem op22_14 {wX : World} {RT : Nat} {at0 ii lt : Int} {A DA : Option Addr} {n c k : Nat} {vs : List Value} {V : Nat → Option Value} {w : World} {a : Act} {K : Act → World → Prop} {Q : Exit → Act → World → Prop} {ty : TypeId} {pp : String} {af : Array Edge} {gg : Option (Nat × Bool)} (h : I22 wX RT at0 ii lt A DA n c k vs V w) (d : D22 V) (hi : V 14 = none) (E87 : ∀ v, V 12 = some v → a.eval (.tmp 87) = v) (E88 : ∀ v, V 13 = some v → a.eval (.tmp 88) = v) (p12 : (V 12).isSome = true) (p13 : (V 13).isSome = true) (hs : ∀ w : World, (Instr.sliceAt 24 (.slice A n c) (some (.int .i64 (k : Int))) none none).run Try.prog w = .ok (.slice DA (n - k) (c - k)) w) (hK : ∀ v w', I22 wX RT at0 ii lt A DA n c k vs (updV V 14 v) w' → K (a.put (some 89) v) w') : Oper.wp Try.prog { dst := some 89, op := .slice 24 (.tmp 87) (some (.tmp 88)) none none, type := ty, pos := pp, after := af, guard := gg } a w K Q := by
  obtain ⟨v12, hv12⟩ := dSome p12
  have e87 := E87 v12 hv12
  rw [h.c12 v12 hv12] at e87
  obtain ⟨v13, hv13⟩ := dSome p13
  have e88 := E88 v13 hv13
  rw [h.c13 v13 hv13] at e88
  unfold Oper.wp execOp
  simp only [Option.map_none, Option.map_some, e87, e88]
  rw [Sem.run_bind, hs]
  exact hK _ _ (i22_14 h d hi)
set_option maxRecDepth 100000 in
theorem op22_15 {wX : World} {RT : Nat} {at0 ii lt : Int} {A DA : Option Addr} {n c k : Nat} {vs : List Value} {V : Nat → Option Value} {w : World} {a : Act} {K : Act → World → Prop} {Q : Exit → Act → World → Prop} {ty : TypeId} {pp : String} {af : Array Edge} {gg : Option (Nat × Bool)} (h : I22 wX RT at0 ii lt A DA n c k vs V w) (d : D22 V) (hi : V 15 = none) (E86 : ∀ v, V 11 = some v → a.eval (.tmp 86) = v) (E89 : ∀ v, V 14 = some v → a.eval (.tmp 89) = v) (p11 : (V 11).isSome = true) (p14 : (V 14).isSome = true) (p4 : (V 4).isSome = true) (hD : Rd wX (.slice DA (n - k) (c - k)) (n - k) (vs.drop k)) (hvs : vs.length = n) (hk : k ≤ n) (hc : n ≤ c) (hn : n ≤ 200) (h1 : ∀ u ∈ vs, u.oneCell' = true) (hK : ∀ v w', I22 wX RT at0 ii lt A DA n c k vs (updV V 15 v) w' → K (a.put (some 90) v) w') : Oper.wp Try.prog { dst := some 90, op := .call { callee := .builtin .append, args := #[.tmp 86, .tmp 89], argTypes := #[24, 24] }, type := ty, pos := pp, after := af, guard := gg } a w K Q := by
  obtain ⟨v14, hv14⟩ := dSome p14
  have e89 := E89 v14 hv14
  rw [h.c14 v14 hv14] at e89
  obtain ⟨u0, hu0⟩ := dSome p11
  obtain ⟨x, hx, hox⟩ := h.r11 u0 hu0 hi
  obtain ⟨iS, hiS, hzS0, hzS1, hzS2⟩ := info_parts Try.infoSS
  have hTL : (vs.take k).length = k * 1 := by rw [List.length_take]; omega
  have hDL : (vs.drop k).length = (n - k) * 1 := by rw [List.length_drop]; omega
  refine wp_app_rd w (.tmp 86) (.tmp 89) 24 rfl wX.heap.size 48 iS (.slice none 0 0) 1 24 Try.underlying24 hiS hzS0 hzS1 hzS2 rfl (by decide) u0 (k + 1) (vs.take k ++ [x]) (E86 u0 hu0) (hox) _ (n - k) (vs.drop k) e89 (rd_below hD h.low) hDL (fun u hu => h1 u (List.mem_of_mem_drop hu)) (by rw [maxLen_eq]; omega) (by omega) h.low.size ?_
  intro v1 w1 ho hg he
  exact hK _ _ (i22_15 h d hi u0 hu0 v1 w1 hg he x hx p4 ho)
set_option maxRecDepth 100000 in
theorem op22_16 {wX : World} {RT : Nat} {at0 ii lt : Int} {A DA : Option Addr} {n c k : Nat} {vs : List Value} {V : Nat → Option Value} {w : World} {a : Act} {K : Act → World → Prop} {Q : Exit → Act → World → Prop} {ty : TypeId} {pp : String} {af : Array Edge} {gg : Option (Nat × Bool)} (h : I22 wX RT at0 ii lt A DA n c k vs V w) (d : D22 V) (hi : V 16 = none) (E90 : ∀ v, V 15 = some v → a.eval (.tmp 90) = v) (p15 : (V 15).isSome = true) (hK : ∀ v w', I22 wX RT at0 ii lt A DA n c k vs (updV V 16 v) w' → K (a.put (some 9) v) w') : Oper.wp Try.prog { dst := some 9, op := .assign (.tmp 90), type := ty, pos := pp, after := af, guard := gg } a w K Q := by
  obtain ⟨x, hx⟩ := dSome p15
  have e90 := E90 x hx
  obtain ⟨u, A3, c3, _, hv3, -⟩ := h.r15 x hx
  rw [hv3] at e90
  unfold Oper.wp execOp
  simp only [e90]
  go_simp
  refine hK _ _ ?_
  rw [← hv3]
  exact i22_16 h d hi x hx
theorem i22_start (wX : World) (RT : Nat) (at0 ii lt : Int) (A DA : Option Addr) (n c k : Nat) (vs : List Value) : I22 wX RT at0 ii lt A DA n c k vs (fun _ => none) wX.drew :=
  {
    low := (bel_dr (Below.refl _ _)),
    c1 := (fun v hv => by cases hv),
    c2 := (fun v hv => by cases hv),
    c3 := (fun v hv => by cases hv),
    c5 := (fun v hv => by cases hv),
    c6 := (fun v hv => by cases hv),
    c7 := (fun v hv => by cases hv),
    c8 := (fun v hv => by cases hv),
    c12 := (fun v hv => by cases hv),
    c13 := (fun v hv => by cases hv),
    c14 := (fun v hv => by cases hv),
    r0 := (fun v hv => by cases hv),
    r4 := (fun v hv => by cases hv),
    r9 := (fun v hv => by cases hv),
    r10 := (fun v hv => by cases hv),
    r11 := (fun v hv => by cases hv),
    r15 := (fun v hv => by cases hv),
    r16 := (fun v hv => by cases hv),
    s9 := (fun v u hv => by cases hv),
    s10 := (fun v u hv => by cases hv) }
set_option maxRecDepth 100000 in
/-- A row of rows is cut at a place. -/
theorem cut_rows {base : Nat} {wX : World} {A : Option Addr} {vs : List Value} {n c k : Nat} (ho : wX.ownsRow base 48 1 (.slice A n c) n vs) (hvs : vs.length = n) (hk : k ≤ n) (hc : n ≤ c) (hm : c ≤ 9223372036854775807) :
    ∃ DA : Option Addr, (∀ w : World, (Instr.sliceAt 24 (.slice A n c) (some (.int .i64 (k : Int))) none none).run Try.prog w = .ok (.slice DA (n - k) (c - k)) w) ∧ Rd wX (.slice DA (n - k) (c - k)) (n - k) (vs.drop k) ∧ Rd wX (.slice A k c) k (vs.take k) := by
  obtain ⟨A', c', hA, h1, h2, h3⟩ := own_rd ho
  injection hA with hA _ hcc
  subst hA; subst hcc
  have q0 : (0 : Int) ≤ (k : Int) := by omega
  have q1 : (k : Int) ≤ (n : Int) := by omega
  have q2 : (k : Int) ≤ (c : Int) := by omega
  have hP : Rd wX (.slice A k c) k (vs.take k) := by
    refine ⟨_, _, rfl, by omega, h2, fun hn => ?_⟩
    obtain ⟨b, off, e, hb, hcell⟩ := h3 (by omega)
    refine ⟨b, off, e, hb, fun q u hu => hcell q u ?_⟩
    have hq := (List.getElem?_eq_some_iff.1 hu).1
    rw [List.length_take] at hq
    rwa [List.getElem?_take_of_lt (by omega)] at hu
  rcases ho.2 with ⟨h, h0⟩ | ⟨g, cap, cur, hv, _⟩
  · injection h with g1 g2 g3
    subst g1
    obtain rfl : c = 0 := g3
    have hk0 : k = 0 := by omega
    subst hk0
    obtain rfl : n = 0 := g2
    have hl : vs = [] := List.length_eq_zero_iff.1 hvs
    subst hl
    refine ⟨none, fun w => ?_, ⟨none, _, rfl, by simp, by simp, fun h => absurd h (by simp)⟩, hP⟩
    go_simp
  · injection hv with hv1 _ hv3
    subst hv1
    subst hv3
    by_cases hck : c = k
    · refine ⟨some ⟨g, 0, none⟩, fun w => ?_, ?_, hP⟩
      · have e1 : n = k := by omega
        subst hck
        rw [e1]
        clear hP h3 ho hc hk e1 q0 q1 hvs
        go_simp
      · obtain rfl : k = n := by omega
        refine ⟨_, _, by rw [Nat.sub_self], by omega, by rw [maxLen_eq]; omega, fun h => absurd h (by omega)⟩
    · refine ⟨some ⟨g, k * 1, none⟩, fun w => ?_, ?_, hP⟩
      · go_simp
      · refine ⟨_, _, rfl, by omega, by rw [maxLen_eq] at *; omega, fun hn => ?_⟩
        obtain ⟨b, off, e, hb, hcell⟩ := h3 (by omega)
        injection e with e
        injection e with e1 e2
        subst e1; subst e2
        refine ⟨g, k * 1, rfl, hb, fun q u hu => ?_⟩
        rw [List.getElem?_drop] at hu
        have := hcell (k + q) u hu
        rw [Nat.zero_add] at this
        rw [Nat.mul_one]
        exact this
theorem ins_at {α : Type} (l : List α) (k : Nat) (hk : k ≤ l.length) (x : α) (i : Nat) (z : α) (h : (l.take k ++ [x] ++ l.drop k)[i]? = some z) : (i < k ∧ l[i]? = some z) ∨ (i = k ∧ z = x) ∨ (k < i ∧ l[i - 1]? = some z) := by
  have hl : (l.take k).length = k := by rw [List.length_take]; omega
  rcases Nat.lt_trichotomy i k with hik | hik | hik
  · rw [List.append_assoc, List.getElem?_append_left (by omega), List.getElem?_take_of_lt hik] at h
    exact .inl ⟨hik, h⟩
  · subst hik
    rw [List.append_assoc, List.getElem?_append_right (by omega), hl, Nat.sub_self] at h
    simp at h
    exact .inr (.inl ⟨rfl, h.symm⟩)
  · rw [List.getElem?_append_right (by simp; omega)] at h
    have e : i - (l.take k ++ [x]).length = i - k - 1 := by rw [List.length_append, hl]; simp; omega
    rw [e, List.getElem?_drop, show k + (i - k - 1) = i - 1 by omega] at h
    exact .inr (.inr ⟨hik, h⟩)
/-- A row of rows, one put in: a new row with the old ones' values. -/
theorem SSv.insert {a w : World} {base : Nat} {v v' u : Value} {vs : List Value} {ls : List (List Int)} {l : List Int} {k : Nat} (h : SSv a base v vs ls) (hb : Below a.heap.size a w) (hbase : base ≤ a.heap.size) (hk : k ≤ ls.length)
    (hu : w.ownsRow a.heap.size 3 1 u l.length (ints l)) (ho : w.ownsRow a.heap.size 48 1 v' (k + 1 + (ls.length - k)) (vs.take k ++ [u] ++ vs.drop k)) (hs : Sep v' u) :
    SSv w base v' (vs.take k ++ [u] ++ vs.drop k) (ls.take k ++ [l] ++ ls.drop k) := by
  have hl := h.len
  have hlen : (ls.take k ++ [l] ++ ls.drop k).length = k + 1 + (ls.length - k) := by simp; omega
  have old : ∀ (i : Nat) (x : Value), vs[i]? = some x → ∀ q, x.ownBlock = some q → q < a.heap.size := fun i x hx q e => (h.lt.2 i x hx q e).2
  have nu : ∀ q, u.ownBlock = some q → a.heap.size ≤ q := fun q e => (hu.lt q e).1
  have nv : ∀ q, v'.ownBlock = some q → a.heap.size ≤ q := fun q e => (ho.lt q e).1
  have so : ∀ (i : Nat) (x : Value), vs[i]? = some x → Sep x u := fun i x hx q q' e e' => by have := old i x hx q e; have := nu q' e'; omega
  refine ⟨by simp; omega, by rw [hlen]; exact own_base ho hbase, fun i x m hx hm => ?_, fun i x hx => ?_, fun i j x x' hij hx hx' => ?_⟩
  · rcases ins_at vs k (by omega) u i x hx with ⟨h1, h2⟩ | ⟨h1, rfl⟩ | ⟨h1, h2⟩ <;> rcases ins_at ls k hk l i m hm with ⟨h3, h4⟩ | ⟨h3, rfl⟩ | ⟨h3, h4⟩
    all_goals first
      | omega
      | exact own_below (h.inner _ x m h2 h4) hb
      | exact own_base hu hbase
  · rcases ins_at vs k (by omega) u i x hx with ⟨h1, h2⟩ | ⟨h1, rfl⟩ | ⟨h1, h2⟩
    · exact fun q q' e e' => by have := nv q e; have := old i x h2 q' e'; omega
    · exact hs
    · exact fun q q' e e' => by have := nv q e; have := old _ x h2 q' e'; omega
  · have hvk : k ≤ vs.length := by omega
    rcases ins_at vs k hvk u i x hx with ⟨h1, h2⟩ | ⟨h1, h2⟩ | ⟨h1, h2⟩ <;> rcases ins_at vs k hvk u j x' hx' with ⟨h3, h4⟩ | ⟨h3, h4⟩ | ⟨h3, h4⟩
    all_goals (try subst h2)
    all_goals (try subst h4)
    all_goals first
      | omega
      | exact h.apart _ _ x x' (by omega) h2 h4
      | exact so _ x h2
      | exact (so _ x' h4).symm
end Go.Proofs.Ytbjiipicbcamnaa
