/-
  A drawn region of (*spec.l1Cur).town, by what holds whatever has come up (printed by gen_townr.py). The draw of a town (printed by gen_town.py). The draw of any town (printed by gen_anytown.py). Public draws of towns, stations, movers and limits (printed by gen_drawcv.py). (joined by pack.py: TownR16 Town AnyTown DrawPu)
-/
import Derived.Test.YthgegghdkoeofaaGreatDoorK29
import Derived.Test.YthgegghdkoeofaaGreatDoorK30
import Derived.Test.YthgegghdkoeofaaGreatDoorK26
import Derived.Test.YthgegghdkoeofaaGreatDoorK31
import Derived.Deep.RegionHeld3
import Derived.Deep.DeepCutAuto
import Derived.Deep.CutBlock
import Derived.Deep.CutRange
import Derived.Test.YthgegghdkoeofaaGreatDoorK7
import Derived.Test.YthgegghdkoeofaaGreatDoorK27
namespace Go.Proofs.YthgegghdkoeofaaGreatDoor
set_option linter.unusedVariables false
set_option linter.unusedSimpArgs false
open Go.RowKit

structure T16 (B : Nat) (l : List Int) (a0 K : Nat) (w0 wX : World) (RT : Nat) (n : Int) (Av : Option Addr) (cv : Nat) (L : List St) (V : Nat → Option Value) (w : World) : Prop where
  sz : wX.heap.size ≤ w.heap.size
  s0 : V 4 = none → TownSt B l a0 (K + 0) w0 RT n (.slice Av L.length cv) L w
  s1 : (V 4).isSome = true → V 8 = none → TownSt B l a0 (K + 2) w0 RT n (.slice Av L.length cv) L w
  s2 : (V 8).isSome = true → V 11 = none → TownSt B l a0 (K + 4) w0 RT n (.slice Av L.length cv) L w
  s3 : (V 11).isSome = true → V 14 = none → TownSt B l a0 (K + 6) w0 RT n (.slice Av L.length cv) L w
  s4 : (V 14).isSome = true → TownSt B l a0 (K + 8) w0 RT n (.slice Av L.length cv) L w
  r0 : ∀ v, V 0 = some v → v = .agg #[.int .i64 n, .slice Av L.length cv]
  r1 : ∀ v, V 1 = some v → v = .pointer (some ⟨B, 0, none⟩)
  r2 : ∀ v, V 2 = some v → v = .pointer (some ⟨RT, 0, none⟩)
  r3 : ∀ v, V 3 = some v → v = .int .i64 n
  r4 : ∀ v, V 4 = some v → ∃ x : Int, v = .int .i64 x
  r5 : ∀ v, V 5 = some v → v = .pointer (some ⟨B, 0, none⟩)
  r6 : ∀ v, V 6 = some v → v = .pointer (some ⟨RT, 0, none⟩)
  r7 : ∀ v, V 7 = some v → v = .int .i64 n
  r8 : ∀ v, V 8 = some v → ∃ x : Int, v = .int .i64 x
  r9 : ∀ v, V 9 = some v → v = .pointer (some ⟨B, 0, none⟩)
  r10 : ∀ v, V 10 = some v → v = .pointer (some ⟨B, 0, none⟩)
  r11 : ∀ v, V 11 = some v → ∃ x : Int, v = .int .i64 x
  r12 : ∀ v, V 12 = some v → ∃ x : Int, v = .int .i64 x
  r13 : ∀ v, V 13 = some v → V 14 = none → ∃ y : Int, RS B w (v) [30, 60, 90, 300, 3600, y]
  r14 : ∀ v, V 14 = some v → ∃ x : Int, v = .int .i64 x
  r15 : ∀ v, V 15 = some v → ∃ f t s : Int, v = .agg #[.int .i64 f, .int .i64 t, .int .i64 s]
  r16 : ∀ v, V 16 = some v → ∃ (n' : Int) (A' : Option Addr) (c' : Nat) (L' : List St) (b : Bool), v = .tuple #[.agg #[.int .i64 n', .slice A' L'.length c'], .bool b] ∧ (b = true → n' = n) ∧ World.ownsRow w w0.heap.size 144 3 (.slice A' L'.length c') L'.length (L'.flatMap St.cells) ∧ L'.length ≤ 40
  r17 : ∀ v, V 17 = some v → V 16 = some v
  r18 : ∀ v, V 18 = some v → ∃ b : Value, V 16 = some (.tuple #[v, b])
  r19 : ∀ v, V 19 = some v → ∃ p : Value, V 16 = some (.tuple #[p, v])
  r20 : ∀ v, V 20 = some v → ∃ R, v = .pointer (some ⟨R, 0, none⟩) ∧ wX.heap.size ≤ R ∧ (V 21 = none → FreshT w R)
  r21 : ∀ v, V 21 = some v → ∃ (R : Nat) (n' : Int) (A' : Option Addr) (c' m' : Nat) (b : Value), V 20 = some (.pointer (some ⟨R, 0, none⟩)) ∧ V 16 = some (.tuple #[.agg #[.int .i64 n', .slice A' m' c'], b]) ∧ World.cell? w ⟨R, 0, none⟩ = some (.int .i64 n') ∧ World.cell? w ⟨R, 1, none⟩ = some (.slice A' m' c')
  r22 : ∀ v, V 22 = some v → V 19 = some v
structure DT16 (V : Nat → Option Value) : Prop where
  d3_2 : (V 3).isSome = true → (V 2).isSome = true
  d4_1 : (V 4).isSome = true → (V 1).isSome = true
  d4_3 : (V 4).isSome = true → (V 3).isSome = true
  d7_6 : (V 7).isSome = true → (V 6).isSome = true
  d8_4 : (V 8).isSome = true → (V 4).isSome = true
  d8_5 : (V 8).isSome = true → (V 5).isSome = true
  d8_7 : (V 8).isSome = true → (V 7).isSome = true
  d11_8 : (V 11).isSome = true → (V 8).isSome = true
  d11_10 : (V 11).isSome = true → (V 10).isSome = true
  d12_11 : (V 12).isSome = true → (V 11).isSome = true
  d13_12 : (V 13).isSome = true → (V 12).isSome = true
  d14_9 : (V 14).isSome = true → (V 9).isSome = true
  d14_13 : (V 14).isSome = true → (V 13).isSome = true
  d14_11 : (V 14).isSome = true → (V 11).isSome = true
  d15_4 : (V 15).isSome = true → (V 4).isSome = true
  d15_8 : (V 15).isSome = true → (V 8).isSome = true
  d15_14 : (V 15).isSome = true → (V 14).isSome = true
  d16_0 : (V 16).isSome = true → (V 0).isSome = true
  d16_15 : (V 16).isSome = true → (V 15).isSome = true
  d16_14 : (V 16).isSome = true → (V 14).isSome = true
  d17_16 : (V 17).isSome = true → (V 16).isSome = true
  d18_17 : (V 18).isSome = true → (V 17).isSome = true
  d19_17 : (V 19).isSome = true → (V 17).isSome = true
  d21_18 : (V 21).isSome = true → (V 18).isSome = true
  d21_20 : (V 21).isSome = true → (V 20).isSome = true
  d22_19 : (V 22).isSome = true → (V 19).isSome = true
theorem T16.any {B : Nat} {l : List Int} {a0 K : Nat} {w0 wX : World} {RT : Nat} {n : Int} {Av : Option Addr} {cv : Nat} {L : List St} {V : Nat → Option Value} {w : World} (h : T16 B l a0 K w0 wX RT n Av cv L V w) : ∃ k, k ≤ 8 ∧ TownSt B l a0 (K + k) w0 RT n (.slice Av L.length cv) L w := by
  cases h4 : V 4 with
  | none => exact ⟨0, by omega, h.s0 h4⟩
  | some v4 =>
  cases h8 : V 8 with
  | none => exact ⟨2, by omega, h.s1 (by rw [h4]; rfl) h8⟩
  | some v8 =>
  cases h11 : V 11 with
  | none => exact ⟨4, by omega, h.s2 (by rw [h8]; rfl) h11⟩
  | some v11 =>
  cases h14 : V 14 with
  | none => exact ⟨6, by omega, h.s3 (by rw [h11]; rfl) h14⟩
  | some v14 =>
  exact ⟨8, by omega, h.s4 (by rw [h14]; rfl)⟩
theorem T16_0 {B : Nat} {l : List Int} {a0 K : Nat} {w0 wX : World} {RT : Nat} {n : Int} {Av : Option Addr} {cv : Nat} {L : List St} {V : Nat → Option Value} {w : World} (h : T16 B l a0 K w0 wX RT n Av cv L V w) (d : DT16 V) (hi : V 0 = none) (hWX : w0.heap.size ≤ wX.heap.size) (hRT : RT < wX.heap.size) (v : Value) (hv : v = .agg #[.int .i64 n, .slice Av L.length cv]) : T16 B l a0 K w0 wX RT n Av cv L (updV V 0 v) w := by
  have n16 : V 16 = none := none_of d.d16_0 hi
  have n17 : V 17 = none := none_of d.d17_16 n16
  have n18 : V 18 = none := none_of d.d18_17 n17
  have n19 : V 19 = none := none_of d.d19_17 n17
  have n21 : V 21 = none := none_of d.d21_18 n18
  have n22 : V 22 = none := none_of d.d22_19 n19
  exact {
    sz := (h.sz),
    s0 := (fun hn => h.s0 ((updV_ne (by decide)).symm.trans hn)),
    s1 := (fun hs hn => h.s1 (upd_some hs (by decide)) ((updV_ne (by decide)).symm.trans hn)),
    s2 := (fun hs hn => h.s2 (upd_some hs (by decide)) ((updV_ne (by decide)).symm.trans hn)),
    s3 := (fun hs hn => h.s3 (upd_some hs (by decide)) ((updV_ne (by decide)).symm.trans hn)),
    s4 := (fun hs => h.s4 (upd_some hs (by decide))),
    r0 := (fun u hu => by have e := Option.some.inj ((updV_same _ _ _).symm.trans hu); subst e; exact hv),
    r1 := (fun u hu => h.r1 u ((updV_ne (by decide)).symm.trans hu)),
    r2 := (fun u hu => h.r2 u ((updV_ne (by decide)).symm.trans hu)),
    r3 := (fun u hu => h.r3 u ((updV_ne (by decide)).symm.trans hu)),
    r4 := (fun u hu => h.r4 u ((updV_ne (by decide)).symm.trans hu)),
    r5 := (fun u hu => h.r5 u ((updV_ne (by decide)).symm.trans hu)),
    r6 := (fun u hu => h.r6 u ((updV_ne (by decide)).symm.trans hu)),
    r7 := (fun u hu => h.r7 u ((updV_ne (by decide)).symm.trans hu)),
    r8 := (fun u hu => h.r8 u ((updV_ne (by decide)).symm.trans hu)),
    r9 := (fun u hu => h.r9 u ((updV_ne (by decide)).symm.trans hu)),
    r10 := (fun u hu => h.r10 u ((updV_ne (by decide)).symm.trans hu)),
    r11 := (fun u hu => h.r11 u ((updV_ne (by decide)).symm.trans hu)),
    r12 := (fun u hu => h.r12 u ((updV_ne (by decide)).symm.trans hu)),
    r13 := (fun u hu hd => h.r13 u ((updV_ne (by decide)).symm.trans hu) ((updV_ne (by decide)).symm.trans hd)),
    r14 := (fun u hu => h.r14 u ((updV_ne (by decide)).symm.trans hu)),
    r15 := (fun u hu => h.r15 u ((updV_ne (by decide)).symm.trans hu)),
    r16 := (fun u hu => no ((updV_ne (by decide)).symm.trans hu) n16),
    r17 := (fun u hu => no ((updV_ne (by decide)).symm.trans hu) n17),
    r18 := (fun u hu => no ((updV_ne (by decide)).symm.trans hu) n18),
    r19 := (fun u hu => no ((updV_ne (by decide)).symm.trans hu) n19),
    r20 := (fun u hu => by obtain ⟨R, e, hR, hf⟩ := h.r20 u ((updV_ne (by decide)).symm.trans hu); exact ⟨R, e, hR, fun hz => hf ((updV_ne (by decide)).symm.trans hz)⟩),
    r21 := (fun u hu => no ((updV_ne (by decide)).symm.trans hu) n21),
    r22 := (fun u hu => no ((updV_ne (by decide)).symm.trans hu) n22) }
theorem T16_1 {B : Nat} {l : List Int} {a0 K : Nat} {w0 wX : World} {RT : Nat} {n : Int} {Av : Option Addr} {cv : Nat} {L : List St} {V : Nat → Option Value} {w : World} (h : T16 B l a0 K w0 wX RT n Av cv L V w) (d : DT16 V) (hi : V 1 = none) (hWX : w0.heap.size ≤ wX.heap.size) (hRT : RT < wX.heap.size) (v : Value) (hv : v = .pointer (some ⟨B, 0, none⟩)) : T16 B l a0 K w0 wX RT n Av cv L (updV V 1 v) w := by
  have n4 : V 4 = none := none_of d.d4_1 hi
  have n8 : V 8 = none := none_of d.d8_4 n4
  have n11 : V 11 = none := none_of d.d11_8 n8
  have n12 : V 12 = none := none_of d.d12_11 n11
  have n13 : V 13 = none := none_of d.d13_12 n12
  have n14 : V 14 = none := none_of d.d14_13 n13
  have n15 : V 15 = none := none_of d.d15_4 n4
  have n16 : V 16 = none := none_of d.d16_15 n15
  have n17 : V 17 = none := none_of d.d17_16 n16
  have n18 : V 18 = none := none_of d.d18_17 n17
  have n19 : V 19 = none := none_of d.d19_17 n17
  have n21 : V 21 = none := none_of d.d21_18 n18
  have n22 : V 22 = none := none_of d.d22_19 n19
  exact {
    sz := (h.sz),
    s0 := (fun hn => h.s0 ((updV_ne (by decide)).symm.trans hn)),
    s1 := (fun hs hn => h.s1 (upd_some hs (by decide)) ((updV_ne (by decide)).symm.trans hn)),
    s2 := (fun hs hn => h.s2 (upd_some hs (by decide)) ((updV_ne (by decide)).symm.trans hn)),
    s3 := (fun hs hn => h.s3 (upd_some hs (by decide)) ((updV_ne (by decide)).symm.trans hn)),
    s4 := (fun hs => h.s4 (upd_some hs (by decide))),
    r0 := (fun u hu => h.r0 u ((updV_ne (by decide)).symm.trans hu)),
    r1 := (fun u hu => by have e := Option.some.inj ((updV_same _ _ _).symm.trans hu); subst e; exact hv),
    r2 := (fun u hu => h.r2 u ((updV_ne (by decide)).symm.trans hu)),
    r3 := (fun u hu => h.r3 u ((updV_ne (by decide)).symm.trans hu)),
    r4 := (fun u hu => no ((updV_ne (by decide)).symm.trans hu) n4),
    r5 := (fun u hu => h.r5 u ((updV_ne (by decide)).symm.trans hu)),
    r6 := (fun u hu => h.r6 u ((updV_ne (by decide)).symm.trans hu)),
    r7 := (fun u hu => h.r7 u ((updV_ne (by decide)).symm.trans hu)),
    r8 := (fun u hu => no ((updV_ne (by decide)).symm.trans hu) n8),
    r9 := (fun u hu => h.r9 u ((updV_ne (by decide)).symm.trans hu)),
    r10 := (fun u hu => h.r10 u ((updV_ne (by decide)).symm.trans hu)),
    r11 := (fun u hu => no ((updV_ne (by decide)).symm.trans hu) n11),
    r12 := (fun u hu => no ((updV_ne (by decide)).symm.trans hu) n12),
    r13 := (fun u hu hd => no ((updV_ne (by decide)).symm.trans hu) n13),
    r14 := (fun u hu => no ((updV_ne (by decide)).symm.trans hu) n14),
    r15 := (fun u hu => no ((updV_ne (by decide)).symm.trans hu) n15),
    r16 := (fun u hu => no ((updV_ne (by decide)).symm.trans hu) n16),
    r17 := (fun u hu => no ((updV_ne (by decide)).symm.trans hu) n17),
    r18 := (fun u hu => no ((updV_ne (by decide)).symm.trans hu) n18),
    r19 := (fun u hu => no ((updV_ne (by decide)).symm.trans hu) n19),
    r20 := (fun u hu => by obtain ⟨R, e, hR, hf⟩ := h.r20 u ((updV_ne (by decide)).symm.trans hu); exact ⟨R, e, hR, fun hz => hf ((updV_ne (by decide)).symm.trans hz)⟩),
    r21 := (fun u hu => no ((updV_ne (by decide)).symm.trans hu) n21),
    r22 := (fun u hu => no ((updV_ne (by decide)).symm.trans hu) n22) }
theorem T16_2 {B : Nat} {l : List Int} {a0 K : Nat} {w0 wX : World} {RT : Nat} {n : Int} {Av : Option Addr} {cv : Nat} {L : List St} {V : Nat → Option Value} {w : World} (h : T16 B l a0 K w0 wX RT n Av cv L V w) (d : DT16 V) (hi : V 2 = none) (hWX : w0.heap.size ≤ wX.heap.size) (hRT : RT < wX.heap.size) (v : Value) (hv : v = .pointer (some ⟨RT, 0, none⟩)) : T16 B l a0 K w0 wX RT n Av cv L (updV V 2 v) w := by
  have n3 : V 3 = none := none_of d.d3_2 hi
  have n4 : V 4 = none := none_of d.d4_3 n3
  have n8 : V 8 = none := none_of d.d8_4 n4
  have n11 : V 11 = none := none_of d.d11_8 n8
  have n12 : V 12 = none := none_of d.d12_11 n11
  have n13 : V 13 = none := none_of d.d13_12 n12
  have n14 : V 14 = none := none_of d.d14_13 n13
  have n15 : V 15 = none := none_of d.d15_4 n4
  have n16 : V 16 = none := none_of d.d16_15 n15
  have n17 : V 17 = none := none_of d.d17_16 n16
  have n18 : V 18 = none := none_of d.d18_17 n17
  have n19 : V 19 = none := none_of d.d19_17 n17
  have n21 : V 21 = none := none_of d.d21_18 n18
  have n22 : V 22 = none := none_of d.d22_19 n19
  exact {
    sz := (h.sz),
    s0 := (fun hn => h.s0 ((updV_ne (by decide)).symm.trans hn)),
    s1 := (fun hs hn => h.s1 (upd_some hs (by decide)) ((updV_ne (by decide)).symm.trans hn)),
    s2 := (fun hs hn => h.s2 (upd_some hs (by decide)) ((updV_ne (by decide)).symm.trans hn)),
    s3 := (fun hs hn => h.s3 (upd_some hs (by decide)) ((updV_ne (by decide)).symm.trans hn)),
    s4 := (fun hs => h.s4 (upd_some hs (by decide))),
    r0 := (fun u hu => h.r0 u ((updV_ne (by decide)).symm.trans hu)),
    r1 := (fun u hu => h.r1 u ((updV_ne (by decide)).symm.trans hu)),
    r2 := (fun u hu => by have e := Option.some.inj ((updV_same _ _ _).symm.trans hu); subst e; exact hv),
    r3 := (fun u hu => no ((updV_ne (by decide)).symm.trans hu) n3),
    r4 := (fun u hu => no ((updV_ne (by decide)).symm.trans hu) n4),
    r5 := (fun u hu => h.r5 u ((updV_ne (by decide)).symm.trans hu)),
    r6 := (fun u hu => h.r6 u ((updV_ne (by decide)).symm.trans hu)),
    r7 := (fun u hu => h.r7 u ((updV_ne (by decide)).symm.trans hu)),
    r8 := (fun u hu => no ((updV_ne (by decide)).symm.trans hu) n8),
    r9 := (fun u hu => h.r9 u ((updV_ne (by decide)).symm.trans hu)),
    r10 := (fun u hu => h.r10 u ((updV_ne (by decide)).symm.trans hu)),
    r11 := (fun u hu => no ((updV_ne (by decide)).symm.trans hu) n11),
    r12 := (fun u hu => no ((updV_ne (by decide)).symm.trans hu) n12),
    r13 := (fun u hu hd => no ((updV_ne (by decide)).symm.trans hu) n13),
    r14 := (fun u hu => no ((updV_ne (by decide)).symm.trans hu) n14),
    r15 := (fun u hu => no ((updV_ne (by decide)).symm.trans hu) n15),
    r16 := (fun u hu => no ((updV_ne (by decide)).symm.trans hu) n16),
    r17 := (fun u hu => no ((updV_ne (by decide)).symm.trans hu) n17),
    r18 := (fun u hu => no ((updV_ne (by decide)).symm.trans hu) n18),
    r19 := (fun u hu => no ((updV_ne (by decide)).symm.trans hu) n19),
    r20 := (fun u hu => by obtain ⟨R, e, hR, hf⟩ := h.r20 u ((updV_ne (by decide)).symm.trans hu); exact ⟨R, e, hR, fun hz => hf ((updV_ne (by decide)).symm.trans hz)⟩),
    r21 := (fun u hu => no ((updV_ne (by decide)).symm.trans hu) n21),
    r22 := (fun u hu => no ((updV_ne (by decide)).symm.trans hu) n22) }
theorem T16_3 {B : Nat} {l : List Int} {a0 K : Nat} {w0 wX : World} {RT : Nat} {n : Int} {Av : Option Addr} {cv : Nat} {L : List St} {V : Nat → Option Value} {w : World} (h : T16 B l a0 K w0 wX RT n Av cv L V w) (d : DT16 V) (hi : V 3 = none) (p2 : (V 2).isSome = true) (hWX : w0.heap.size ≤ wX.heap.size) (hRT : RT < wX.heap.size) (v : Value) (hv : v = .int .i64 n) : T16 B l a0 K w0 wX RT n Av cv L (updV V 3 v) w := by
  have n4 : V 4 = none := none_of d.d4_3 hi
  have n8 : V 8 = none := none_of d.d8_4 n4
  have n11 : V 11 = none := none_of d.d11_8 n8
  have n12 : V 12 = none := none_of d.d12_11 n11
  have n13 : V 13 = none := none_of d.d13_12 n12
  have n14 : V 14 = none := none_of d.d14_13 n13
  have n15 : V 15 = none := none_of d.d15_4 n4
  have n16 : V 16 = none := none_of d.d16_15 n15
  have n17 : V 17 = none := none_of d.d17_16 n16
  have n18 : V 18 = none := none_of d.d18_17 n17
  have n19 : V 19 = none := none_of d.d19_17 n17
  have n21 : V 21 = none := none_of d.d21_18 n18
  have n22 : V 22 = none := none_of d.d22_19 n19
  exact {
    sz := (h.sz),
    s0 := (fun hn => h.s0 ((updV_ne (by decide)).symm.trans hn)),
    s1 := (fun hs hn => h.s1 (upd_some hs (by decide)) ((updV_ne (by decide)).symm.trans hn)),
    s2 := (fun hs hn => h.s2 (upd_some hs (by decide)) ((updV_ne (by decide)).symm.trans hn)),
    s3 := (fun hs hn => h.s3 (upd_some hs (by decide)) ((updV_ne (by decide)).symm.trans hn)),
    s4 := (fun hs => h.s4 (upd_some hs (by decide))),
    r0 := (fun u hu => h.r0 u ((updV_ne (by decide)).symm.trans hu)),
    r1 := (fun u hu => h.r1 u ((updV_ne (by decide)).symm.trans hu)),
    r2 := (fun u hu => h.r2 u ((updV_ne (by decide)).symm.trans hu)),
    r3 := (fun u hu => by have e := Option.some.inj ((updV_same _ _ _).symm.trans hu); subst e; exact hv),
    r4 := (fun u hu => no ((updV_ne (by decide)).symm.trans hu) n4),
    r5 := (fun u hu => h.r5 u ((updV_ne (by decide)).symm.trans hu)),
    r6 := (fun u hu => h.r6 u ((updV_ne (by decide)).symm.trans hu)),
    r7 := (fun u hu => h.r7 u ((updV_ne (by decide)).symm.trans hu)),
    r8 := (fun u hu => no ((updV_ne (by decide)).symm.trans hu) n8),
    r9 := (fun u hu => h.r9 u ((updV_ne (by decide)).symm.trans hu)),
    r10 := (fun u hu => h.r10 u ((updV_ne (by decide)).symm.trans hu)),
    r11 := (fun u hu => no ((updV_ne (by decide)).symm.trans hu) n11),
    r12 := (fun u hu => no ((updV_ne (by decide)).symm.trans hu) n12),
    r13 := (fun u hu hd => no ((updV_ne (by decide)).symm.trans hu) n13),
    r14 := (fun u hu => no ((updV_ne (by decide)).symm.trans hu) n14),
    r15 := (fun u hu => no ((updV_ne (by decide)).symm.trans hu) n15),
    r16 := (fun u hu => no ((updV_ne (by decide)).symm.trans hu) n16),
    r17 := (fun u hu => no ((updV_ne (by decide)).symm.trans hu) n17),
    r18 := (fun u hu => no ((updV_ne (by decide)).symm.trans hu) n18),
    r19 := (fun u hu => no ((updV_ne (by decide)).symm.trans hu) n19),
    r20 := (fun u hu => by obtain ⟨R, e, hR, hf⟩ := h.r20 u ((updV_ne (by decide)).symm.trans hu); exact ⟨R, e, hR, fun hz => hf ((updV_ne (by decide)).symm.trans hz)⟩),
    r21 := (fun u hu => no ((updV_ne (by decide)).symm.trans hu) n21),
    r22 := (fun u hu => no ((updV_ne (by decide)).symm.trans hu) n22) }
theorem T16_4 {B : Nat} {l : List Int} {a0 K : Nat} {w0 wX : World} {RT : Nat} {n : Int} {Av : Option Addr} {cv : Nat} {L : List St} {V : Nat → Option Value} {w : World} (h : T16 B l a0 K w0 wX RT n Av cv L V w) (d : DT16 V) (hi : V 4 = none) (p1 : (V 1).isSome = true) (p3 : (V 3).isSome = true) (hWX : w0.heap.size ≤ wX.heap.size) (hRT : RT < wX.heap.size) (w2 : World) (hm : Drew B l (a0 + (K + 0)) 2 w w2) (hB : B < w0.heap.size) (v : Value) (hv : ∃ x : Int, v = .int .i64 x) : T16 B l a0 K w0 wX RT n Av cv L (updV V 4 v) w2 := by
  have n8 : V 8 = none := none_of d.d8_4 hi
  have n11 : V 11 = none := none_of d.d11_8 n8
  have n12 : V 12 = none := none_of d.d12_11 n11
  have n13 : V 13 = none := none_of d.d13_12 n12
  have n14 : V 14 = none := none_of d.d14_13 n13
  have n15 : V 15 = none := none_of d.d15_4 hi
  have n16 : V 16 = none := none_of d.d16_15 n15
  have n17 : V 17 = none := none_of d.d17_16 n16
  have n18 : V 18 = none := none_of d.d18_17 n17
  have n19 : V 19 = none := none_of d.d19_17 n17
  have n21 : V 21 = none := none_of d.d21_18 n18
  have n22 : V 22 = none := none_of d.d22_19 n19
  have p2 := d.d3_2 p3
  exact {
    sz := (Nat.le_trans h.sz hm.2.size),
    s0 := (fun hn => no (updV_same _ _ _) hn),
    s1 := (fun hs hn => town_more (town_drew (h.s0 hi) hm hB) (by omega)),
    s2 := (fun hs hn => noS (upd_some hs (by decide)) n8),
    s3 := (fun hs hn => noS (upd_some hs (by decide)) n11),
    s4 := (fun hs => noS (upd_some hs (by decide)) n14),
    r0 := (fun u hu => h.r0 u ((updV_ne (by decide)).symm.trans hu)),
    r1 := (fun u hu => h.r1 u ((updV_ne (by decide)).symm.trans hu)),
    r2 := (fun u hu => h.r2 u ((updV_ne (by decide)).symm.trans hu)),
    r3 := (fun u hu => h.r3 u ((updV_ne (by decide)).symm.trans hu)),
    r4 := (fun u hu => by have e := Option.some.inj ((updV_same _ _ _).symm.trans hu); subst e; exact hv),
    r5 := (fun u hu => h.r5 u ((updV_ne (by decide)).symm.trans hu)),
    r6 := (fun u hu => h.r6 u ((updV_ne (by decide)).symm.trans hu)),
    r7 := (fun u hu => h.r7 u ((updV_ne (by decide)).symm.trans hu)),
    r8 := (fun u hu => no ((updV_ne (by decide)).symm.trans hu) n8),
    r9 := (fun u hu => h.r9 u ((updV_ne (by decide)).symm.trans hu)),
    r10 := (fun u hu => h.r10 u ((updV_ne (by decide)).symm.trans hu)),
    r11 := (fun u hu => no ((updV_ne (by decide)).symm.trans hu) n11),
    r12 := (fun u hu => no ((updV_ne (by decide)).symm.trans hu) n12),
    r13 := (fun u hu hd => no ((updV_ne (by decide)).symm.trans hu) n13),
    r14 := (fun u hu => no ((updV_ne (by decide)).symm.trans hu) n14),
    r15 := (fun u hu => no ((updV_ne (by decide)).symm.trans hu) n15),
    r16 := (fun u hu => no ((updV_ne (by decide)).symm.trans hu) n16),
    r17 := (fun u hu => no ((updV_ne (by decide)).symm.trans hu) n17),
    r18 := (fun u hu => no ((updV_ne (by decide)).symm.trans hu) n18),
    r19 := (fun u hu => no ((updV_ne (by decide)).symm.trans hu) n19),
    r20 := (fun u hu => by obtain ⟨R, e, hR, hf⟩ := h.r20 u ((updV_ne (by decide)).symm.trans hu); exact ⟨R, e, hR, fun hz => own_draw (hf ((updV_ne (by decide)).symm.trans hz)) hm.2 (by have := hB; have := hR; have := hWX; omega)⟩),
    r21 := (fun u hu => no ((updV_ne (by decide)).symm.trans hu) n21),
    r22 := (fun u hu => no ((updV_ne (by decide)).symm.trans hu) n22) }
theorem T16_5 {B : Nat} {l : List Int} {a0 K : Nat} {w0 wX : World} {RT : Nat} {n : Int} {Av : Option Addr} {cv : Nat} {L : List St} {V : Nat → Option Value} {w : World} (h : T16 B l a0 K w0 wX RT n Av cv L V w) (d : DT16 V) (hi : V 5 = none) (hWX : w0.heap.size ≤ wX.heap.size) (hRT : RT < wX.heap.size) (v : Value) (hv : v = .pointer (some ⟨B, 0, none⟩)) : T16 B l a0 K w0 wX RT n Av cv L (updV V 5 v) w := by
  have n8 : V 8 = none := none_of d.d8_5 hi
  have n11 : V 11 = none := none_of d.d11_8 n8
  have n12 : V 12 = none := none_of d.d12_11 n11
  have n13 : V 13 = none := none_of d.d13_12 n12
  have n14 : V 14 = none := none_of d.d14_13 n13
  have n15 : V 15 = none := none_of d.d15_8 n8
  have n16 : V 16 = none := none_of d.d16_15 n15
  have n17 : V 17 = none := none_of d.d17_16 n16
  have n18 : V 18 = none := none_of d.d18_17 n17
  have n19 : V 19 = none := none_of d.d19_17 n17
  have n21 : V 21 = none := none_of d.d21_18 n18
  have n22 : V 22 = none := none_of d.d22_19 n19
  exact {
    sz := (h.sz),
    s0 := (fun hn => h.s0 ((updV_ne (by decide)).symm.trans hn)),
    s1 := (fun hs hn => h.s1 (upd_some hs (by decide)) ((updV_ne (by decide)).symm.trans hn)),
    s2 := (fun hs hn => h.s2 (upd_some hs (by decide)) ((updV_ne (by decide)).symm.trans hn)),
    s3 := (fun hs hn => h.s3 (upd_some hs (by decide)) ((updV_ne (by decide)).symm.trans hn)),
    s4 := (fun hs => h.s4 (upd_some hs (by decide))),
    r0 := (fun u hu => h.r0 u ((updV_ne (by decide)).symm.trans hu)),
    r1 := (fun u hu => h.r1 u ((updV_ne (by decide)).symm.trans hu)),
    r2 := (fun u hu => h.r2 u ((updV_ne (by decide)).symm.trans hu)),
    r3 := (fun u hu => h.r3 u ((updV_ne (by decide)).symm.trans hu)),
    r4 := (fun u hu => h.r4 u ((updV_ne (by decide)).symm.trans hu)),
    r5 := (fun u hu => by have e := Option.some.inj ((updV_same _ _ _).symm.trans hu); subst e; exact hv),
    r6 := (fun u hu => h.r6 u ((updV_ne (by decide)).symm.trans hu)),
    r7 := (fun u hu => h.r7 u ((updV_ne (by decide)).symm.trans hu)),
    r8 := (fun u hu => no ((updV_ne (by decide)).symm.trans hu) n8),
    r9 := (fun u hu => h.r9 u ((updV_ne (by decide)).symm.trans hu)),
    r10 := (fun u hu => h.r10 u ((updV_ne (by decide)).symm.trans hu)),
    r11 := (fun u hu => no ((updV_ne (by decide)).symm.trans hu) n11),
    r12 := (fun u hu => no ((updV_ne (by decide)).symm.trans hu) n12),
    r13 := (fun u hu hd => no ((updV_ne (by decide)).symm.trans hu) n13),
    r14 := (fun u hu => no ((updV_ne (by decide)).symm.trans hu) n14),
    r15 := (fun u hu => no ((updV_ne (by decide)).symm.trans hu) n15),
    r16 := (fun u hu => no ((updV_ne (by decide)).symm.trans hu) n16),
    r17 := (fun u hu => no ((updV_ne (by decide)).symm.trans hu) n17),
    r18 := (fun u hu => no ((updV_ne (by decide)).symm.trans hu) n18),
    r19 := (fun u hu => no ((updV_ne (by decide)).symm.trans hu) n19),
    r20 := (fun u hu => by obtain ⟨R, e, hR, hf⟩ := h.r20 u ((updV_ne (by decide)).symm.trans hu); exact ⟨R, e, hR, fun hz => hf ((updV_ne (by decide)).symm.trans hz)⟩),
    r21 := (fun u hu => no ((updV_ne (by decide)).symm.trans hu) n21),
    r22 := (fun u hu => no ((updV_ne (by decide)).symm.trans hu) n22) }
theorem T16_6 {B : Nat} {l : List Int} {a0 K : Nat} {w0 wX : World} {RT : Nat} {n : Int} {Av : Option Addr} {cv : Nat} {L : List St} {V : Nat → Option Value} {w : World} (h : T16 B l a0 K w0 wX RT n Av cv L V w) (d : DT16 V) (hi : V 6 = none) (hWX : w0.heap.size ≤ wX.heap.size) (hRT : RT < wX.heap.size) (v : Value) (hv : v = .pointer (some ⟨RT, 0, none⟩)) : T16 B l a0 K w0 wX RT n Av cv L (updV V 6 v) w := by
  have n7 : V 7 = none := none_of d.d7_6 hi
  have n8 : V 8 = none := none_of d.d8_7 n7
  have n11 : V 11 = none := none_of d.d11_8 n8
  have n12 : V 12 = none := none_of d.d12_11 n11
  have n13 : V 13 = none := none_of d.d13_12 n12
  have n14 : V 14 = none := none_of d.d14_13 n13
  have n15 : V 15 = none := none_of d.d15_8 n8
  have n16 : V 16 = none := none_of d.d16_15 n15
  have n17 : V 17 = none := none_of d.d17_16 n16
  have n18 : V 18 = none := none_of d.d18_17 n17
  have n19 : V 19 = none := none_of d.d19_17 n17
  have n21 : V 21 = none := none_of d.d21_18 n18
  have n22 : V 22 = none := none_of d.d22_19 n19
  exact {
    sz := (h.sz),
    s0 := (fun hn => h.s0 ((updV_ne (by decide)).symm.trans hn)),
    s1 := (fun hs hn => h.s1 (upd_some hs (by decide)) ((updV_ne (by decide)).symm.trans hn)),
    s2 := (fun hs hn => h.s2 (upd_some hs (by decide)) ((updV_ne (by decide)).symm.trans hn)),
    s3 := (fun hs hn => h.s3 (upd_some hs (by decide)) ((updV_ne (by decide)).symm.trans hn)),
    s4 := (fun hs => h.s4 (upd_some hs (by decide))),
    r0 := (fun u hu => h.r0 u ((updV_ne (by decide)).symm.trans hu)),
    r1 := (fun u hu => h.r1 u ((updV_ne (by decide)).symm.trans hu)),
    r2 := (fun u hu => h.r2 u ((updV_ne (by decide)).symm.trans hu)),
    r3 := (fun u hu => h.r3 u ((updV_ne (by decide)).symm.trans hu)),
    r4 := (fun u hu => h.r4 u ((updV_ne (by decide)).symm.trans hu)),
    r5 := (fun u hu => h.r5 u ((updV_ne (by decide)).symm.trans hu)),
    r6 := (fun u hu => by have e := Option.some.inj ((updV_same _ _ _).symm.trans hu); subst e; exact hv),
    r7 := (fun u hu => no ((updV_ne (by decide)).symm.trans hu) n7),
    r8 := (fun u hu => no ((updV_ne (by decide)).symm.trans hu) n8),
    r9 := (fun u hu => h.r9 u ((updV_ne (by decide)).symm.trans hu)),
    r10 := (fun u hu => h.r10 u ((updV_ne (by decide)).symm.trans hu)),
    r11 := (fun u hu => no ((updV_ne (by decide)).symm.trans hu) n11),
    r12 := (fun u hu => no ((updV_ne (by decide)).symm.trans hu) n12),
    r13 := (fun u hu hd => no ((updV_ne (by decide)).symm.trans hu) n13),
    r14 := (fun u hu => no ((updV_ne (by decide)).symm.trans hu) n14),
    r15 := (fun u hu => no ((updV_ne (by decide)).symm.trans hu) n15),
    r16 := (fun u hu => no ((updV_ne (by decide)).symm.trans hu) n16),
    r17 := (fun u hu => no ((updV_ne (by decide)).symm.trans hu) n17),
    r18 := (fun u hu => no ((updV_ne (by decide)).symm.trans hu) n18),
    r19 := (fun u hu => no ((updV_ne (by decide)).symm.trans hu) n19),
    r20 := (fun u hu => by obtain ⟨R, e, hR, hf⟩ := h.r20 u ((updV_ne (by decide)).symm.trans hu); exact ⟨R, e, hR, fun hz => hf ((updV_ne (by decide)).symm.trans hz)⟩),
    r21 := (fun u hu => no ((updV_ne (by decide)).symm.trans hu) n21),
    r22 := (fun u hu => no ((updV_ne (by decide)).symm.trans hu) n22) }
theorem T16_7 {B : Nat} {l : List Int} {a0 K : Nat} {w0 wX : World} {RT : Nat} {n : Int} {Av : Option Addr} {cv : Nat} {L : List St} {V : Nat → Option Value} {w : World} (h : T16 B l a0 K w0 wX RT n Av cv L V w) (d : DT16 V) (hi : V 7 = none) (p6 : (V 6).isSome = true) (hWX : w0.heap.size ≤ wX.heap.size) (hRT : RT < wX.heap.size) (v : Value) (hv : v = .int .i64 n) : T16 B l a0 K w0 wX RT n Av cv L (updV V 7 v) w := by
  have n8 : V 8 = none := none_of d.d8_7 hi
  have n11 : V 11 = none := none_of d.d11_8 n8
  have n12 : V 12 = none := none_of d.d12_11 n11
  have n13 : V 13 = none := none_of d.d13_12 n12
  have n14 : V 14 = none := none_of d.d14_13 n13
  have n15 : V 15 = none := none_of d.d15_8 n8
  have n16 : V 16 = none := none_of d.d16_15 n15
  have n17 : V 17 = none := none_of d.d17_16 n16
  have n18 : V 18 = none := none_of d.d18_17 n17
  have n19 : V 19 = none := none_of d.d19_17 n17
  have n21 : V 21 = none := none_of d.d21_18 n18
  have n22 : V 22 = none := none_of d.d22_19 n19
  exact {
    sz := (h.sz),
    s0 := (fun hn => h.s0 ((updV_ne (by decide)).symm.trans hn)),
    s1 := (fun hs hn => h.s1 (upd_some hs (by decide)) ((updV_ne (by decide)).symm.trans hn)),
    s2 := (fun hs hn => h.s2 (upd_some hs (by decide)) ((updV_ne (by decide)).symm.trans hn)),
    s3 := (fun hs hn => h.s3 (upd_some hs (by decide)) ((updV_ne (by decide)).symm.trans hn)),
    s4 := (fun hs => h.s4 (upd_some hs (by decide))),
    r0 := (fun u hu => h.r0 u ((updV_ne (by decide)).symm.trans hu)),
    r1 := (fun u hu => h.r1 u ((updV_ne (by decide)).symm.trans hu)),
    r2 := (fun u hu => h.r2 u ((updV_ne (by decide)).symm.trans hu)),
    r3 := (fun u hu => h.r3 u ((updV_ne (by decide)).symm.trans hu)),
    r4 := (fun u hu => h.r4 u ((updV_ne (by decide)).symm.trans hu)),
    r5 := (fun u hu => h.r5 u ((updV_ne (by decide)).symm.trans hu)),
    r6 := (fun u hu => h.r6 u ((updV_ne (by decide)).symm.trans hu)),
    r7 := (fun u hu => by have e := Option.some.inj ((updV_same _ _ _).symm.trans hu); subst e; exact hv),
    r8 := (fun u hu => no ((updV_ne (by decide)).symm.trans hu) n8),
    r9 := (fun u hu => h.r9 u ((updV_ne (by decide)).symm.trans hu)),
    r10 := (fun u hu => h.r10 u ((updV_ne (by decide)).symm.trans hu)),
    r11 := (fun u hu => no ((updV_ne (by decide)).symm.trans hu) n11),
    r12 := (fun u hu => no ((updV_ne (by decide)).symm.trans hu) n12),
    r13 := (fun u hu hd => no ((updV_ne (by decide)).symm.trans hu) n13),
    r14 := (fun u hu => no ((updV_ne (by decide)).symm.trans hu) n14),
    r15 := (fun u hu => no ((updV_ne (by decide)).symm.trans hu) n15),
    r16 := (fun u hu => no ((updV_ne (by decide)).symm.trans hu) n16),
    r17 := (fun u hu => no ((updV_ne (by decide)).symm.trans hu) n17),
    r18 := (fun u hu => no ((updV_ne (by decide)).symm.trans hu) n18),
    r19 := (fun u hu => no ((updV_ne (by decide)).symm.trans hu) n19),
    r20 := (fun u hu => by obtain ⟨R, e, hR, hf⟩ := h.r20 u ((updV_ne (by decide)).symm.trans hu); exact ⟨R, e, hR, fun hz => hf ((updV_ne (by decide)).symm.trans hz)⟩),
    r21 := (fun u hu => no ((updV_ne (by decide)).symm.trans hu) n21),
    r22 := (fun u hu => no ((updV_ne (by decide)).symm.trans hu) n22) }
theorem T16_8 {B : Nat} {l : List Int} {a0 K : Nat} {w0 wX : World} {RT : Nat} {n : Int} {Av : Option Addr} {cv : Nat} {L : List St} {V : Nat → Option Value} {w : World} (h : T16 B l a0 K w0 wX RT n Av cv L V w) (d : DT16 V) (hi : V 8 = none) (p4 : (V 4).isSome = true) (p5 : (V 5).isSome = true) (p7 : (V 7).isSome = true) (hWX : w0.heap.size ≤ wX.heap.size) (hRT : RT < wX.heap.size) (w2 : World) (hm : Drew B l (a0 + (K + 2)) 2 w w2) (hB : B < w0.heap.size) (v : Value) (hv : ∃ x : Int, v = .int .i64 x) : T16 B l a0 K w0 wX RT n Av cv L (updV V 8 v) w2 := by
  have n11 : V 11 = none := none_of d.d11_8 hi
  have n12 : V 12 = none := none_of d.d12_11 n11
  have n13 : V 13 = none := none_of d.d13_12 n12
  have n14 : V 14 = none := none_of d.d14_13 n13
  have n15 : V 15 = none := none_of d.d15_8 hi
  have n16 : V 16 = none := none_of d.d16_15 n15
  have n17 : V 17 = none := none_of d.d17_16 n16
  have n18 : V 18 = none := none_of d.d18_17 n17
  have n19 : V 19 = none := none_of d.d19_17 n17
  have n21 : V 21 = none := none_of d.d21_18 n18
  have n22 : V 22 = none := none_of d.d22_19 n19
  have p6 := d.d7_6 p7
  have p3 := d.d4_3 p4
  have p2 := d.d3_2 p3
  have p1 := d.d4_1 p4
  exact {
    sz := (Nat.le_trans h.sz hm.2.size),
    s0 := (fun hn => noS p4 ((updV_ne (by decide)).symm.trans hn)),
    s1 := (fun hs hn => no (updV_same _ _ _) hn),
    s2 := (fun hs hn => town_more (town_drew (h.s1 p4 hi) hm hB) (by omega)),
    s3 := (fun hs hn => noS (upd_some hs (by decide)) n11),
    s4 := (fun hs => noS (upd_some hs (by decide)) n14),
    r0 := (fun u hu => h.r0 u ((updV_ne (by decide)).symm.trans hu)),
    r1 := (fun u hu => h.r1 u ((updV_ne (by decide)).symm.trans hu)),
    r2 := (fun u hu => h.r2 u ((updV_ne (by decide)).symm.trans hu)),
    r3 := (fun u hu => h.r3 u ((updV_ne (by decide)).symm.trans hu)),
    r4 := (fun u hu => h.r4 u ((updV_ne (by decide)).symm.trans hu)),
    r5 := (fun u hu => h.r5 u ((updV_ne (by decide)).symm.trans hu)),
    r6 := (fun u hu => h.r6 u ((updV_ne (by decide)).symm.trans hu)),
    r7 := (fun u hu => h.r7 u ((updV_ne (by decide)).symm.trans hu)),
    r8 := (fun u hu => by have e := Option.some.inj ((updV_same _ _ _).symm.trans hu); subst e; exact hv),
    r9 := (fun u hu => h.r9 u ((updV_ne (by decide)).symm.trans hu)),
    r10 := (fun u hu => h.r10 u ((updV_ne (by decide)).symm.trans hu)),
    r11 := (fun u hu => no ((updV_ne (by decide)).symm.trans hu) n11),
    r12 := (fun u hu => no ((updV_ne (by decide)).symm.trans hu) n12),
    r13 := (fun u hu hd => no ((updV_ne (by decide)).symm.trans hu) n13),
    r14 := (fun u hu => no ((updV_ne (by decide)).symm.trans hu) n14),
    r15 := (fun u hu => no ((updV_ne (by decide)).symm.trans hu) n15),
    r16 := (fun u hu => no ((updV_ne (by decide)).symm.trans hu) n16),
    r17 := (fun u hu => no ((updV_ne (by decide)).symm.trans hu) n17),
    r18 := (fun u hu => no ((updV_ne (by decide)).symm.trans hu) n18),
    r19 := (fun u hu => no ((updV_ne (by decide)).symm.trans hu) n19),
    r20 := (fun u hu => by obtain ⟨R, e, hR, hf⟩ := h.r20 u ((updV_ne (by decide)).symm.trans hu); exact ⟨R, e, hR, fun hz => own_draw (hf ((updV_ne (by decide)).symm.trans hz)) hm.2 (by have := hB; have := hR; have := hWX; omega)⟩),
    r21 := (fun u hu => no ((updV_ne (by decide)).symm.trans hu) n21),
    r22 := (fun u hu => no ((updV_ne (by decide)).symm.trans hu) n22) }
theorem T16_9 {B : Nat} {l : List Int} {a0 K : Nat} {w0 wX : World} {RT : Nat} {n : Int} {Av : Option Addr} {cv : Nat} {L : List St} {V : Nat → Option Value} {w : World} (h : T16 B l a0 K w0 wX RT n Av cv L V w) (d : DT16 V) (hi : V 9 = none) (hWX : w0.heap.size ≤ wX.heap.size) (hRT : RT < wX.heap.size) (v : Value) (hv : v = .pointer (some ⟨B, 0, none⟩)) : T16 B l a0 K w0 wX RT n Av cv L (updV V 9 v) w := by
  have n14 : V 14 = none := none_of d.d14_9 hi
  have n15 : V 15 = none := none_of d.d15_14 n14
  have n16 : V 16 = none := none_of d.d16_15 n15
  have n17 : V 17 = none := none_of d.d17_16 n16
  have n18 : V 18 = none := none_of d.d18_17 n17
  have n19 : V 19 = none := none_of d.d19_17 n17
  have n21 : V 21 = none := none_of d.d21_18 n18
  have n22 : V 22 = none := none_of d.d22_19 n19
  exact {
    sz := (h.sz),
    s0 := (fun hn => h.s0 ((updV_ne (by decide)).symm.trans hn)),
    s1 := (fun hs hn => h.s1 (upd_some hs (by decide)) ((updV_ne (by decide)).symm.trans hn)),
    s2 := (fun hs hn => h.s2 (upd_some hs (by decide)) ((updV_ne (by decide)).symm.trans hn)),
    s3 := (fun hs hn => h.s3 (upd_some hs (by decide)) ((updV_ne (by decide)).symm.trans hn)),
    s4 := (fun hs => h.s4 (upd_some hs (by decide))),
    r0 := (fun u hu => h.r0 u ((updV_ne (by decide)).symm.trans hu)),
    r1 := (fun u hu => h.r1 u ((updV_ne (by decide)).symm.trans hu)),
    r2 := (fun u hu => h.r2 u ((updV_ne (by decide)).symm.trans hu)),
    r3 := (fun u hu => h.r3 u ((updV_ne (by decide)).symm.trans hu)),
    r4 := (fun u hu => h.r4 u ((updV_ne (by decide)).symm.trans hu)),
    r5 := (fun u hu => h.r5 u ((updV_ne (by decide)).symm.trans hu)),
    r6 := (fun u hu => h.r6 u ((updV_ne (by decide)).symm.trans hu)),
    r7 := (fun u hu => h.r7 u ((updV_ne (by decide)).symm.trans hu)),
    r8 := (fun u hu => h.r8 u ((updV_ne (by decide)).symm.trans hu)),
    r9 := (fun u hu => by have e := Option.some.inj ((updV_same _ _ _).symm.trans hu); subst e; exact hv),
    r10 := (fun u hu => h.r10 u ((updV_ne (by decide)).symm.trans hu)),
    r11 := (fun u hu => h.r11 u ((updV_ne (by decide)).symm.trans hu)),
    r12 := (fun u hu => h.r12 u ((updV_ne (by decide)).symm.trans hu)),
    r13 := (fun u hu hd => h.r13 u ((updV_ne (by decide)).symm.trans hu) ((updV_ne (by decide)).symm.trans hd)),
    r14 := (fun u hu => no ((updV_ne (by decide)).symm.trans hu) n14),
    r15 := (fun u hu => no ((updV_ne (by decide)).symm.trans hu) n15),
    r16 := (fun u hu => no ((updV_ne (by decide)).symm.trans hu) n16),
    r17 := (fun u hu => no ((updV_ne (by decide)).symm.trans hu) n17),
    r18 := (fun u hu => no ((updV_ne (by decide)).symm.trans hu) n18),
    r19 := (fun u hu => no ((updV_ne (by decide)).symm.trans hu) n19),
    r20 := (fun u hu => by obtain ⟨R, e, hR, hf⟩ := h.r20 u ((updV_ne (by decide)).symm.trans hu); exact ⟨R, e, hR, fun hz => hf ((updV_ne (by decide)).symm.trans hz)⟩),
    r21 := (fun u hu => no ((updV_ne (by decide)).symm.trans hu) n21),
    r22 := (fun u hu => no ((updV_ne (by decide)).symm.trans hu) n22) }
theorem T16_10 {B : Nat} {l : List Int} {a0 K : Nat} {w0 wX : World} {RT : Nat} {n : Int} {Av : Option Addr} {cv : Nat} {L : List St} {V : Nat → Option Value} {w : World} (h : T16 B l a0 K w0 wX RT n Av cv L V w) (d : DT16 V) (hi : V 10 = none) (hWX : w0.heap.size ≤ wX.heap.size) (hRT : RT < wX.heap.size) (v : Value) (hv : v = .pointer (some ⟨B, 0, none⟩)) : T16 B l a0 K w0 wX RT n Av cv L (updV V 10 v) w := by
  have n11 : V 11 = none := none_of d.d11_10 hi
  have n12 : V 12 = none := none_of d.d12_11 n11
  have n13 : V 13 = none := none_of d.d13_12 n12
  have n14 : V 14 = none := none_of d.d14_13 n13
  have n15 : V 15 = none := none_of d.d15_14 n14
  have n16 : V 16 = none := none_of d.d16_15 n15
  have n17 : V 17 = none := none_of d.d17_16 n16
  have n18 : V 18 = none := none_of d.d18_17 n17
  have n19 : V 19 = none := none_of d.d19_17 n17
  have n21 : V 21 = none := none_of d.d21_18 n18
  have n22 : V 22 = none := none_of d.d22_19 n19
  exact {
    sz := (h.sz),
    s0 := (fun hn => h.s0 ((updV_ne (by decide)).symm.trans hn)),
    s1 := (fun hs hn => h.s1 (upd_some hs (by decide)) ((updV_ne (by decide)).symm.trans hn)),
    s2 := (fun hs hn => h.s2 (upd_some hs (by decide)) ((updV_ne (by decide)).symm.trans hn)),
    s3 := (fun hs hn => h.s3 (upd_some hs (by decide)) ((updV_ne (by decide)).symm.trans hn)),
    s4 := (fun hs => h.s4 (upd_some hs (by decide))),
    r0 := (fun u hu => h.r0 u ((updV_ne (by decide)).symm.trans hu)),
    r1 := (fun u hu => h.r1 u ((updV_ne (by decide)).symm.trans hu)),
    r2 := (fun u hu => h.r2 u ((updV_ne (by decide)).symm.trans hu)),
    r3 := (fun u hu => h.r3 u ((updV_ne (by decide)).symm.trans hu)),
    r4 := (fun u hu => h.r4 u ((updV_ne (by decide)).symm.trans hu)),
    r5 := (fun u hu => h.r5 u ((updV_ne (by decide)).symm.trans hu)),
    r6 := (fun u hu => h.r6 u ((updV_ne (by decide)).symm.trans hu)),
    r7 := (fun u hu => h.r7 u ((updV_ne (by decide)).symm.trans hu)),
    r8 := (fun u hu => h.r8 u ((updV_ne (by decide)).symm.trans hu)),
    r9 := (fun u hu => h.r9 u ((updV_ne (by decide)).symm.trans hu)),
    r10 := (fun u hu => by have e := Option.some.inj ((updV_same _ _ _).symm.trans hu); subst e; exact hv),
    r11 := (fun u hu => no ((updV_ne (by decide)).symm.trans hu) n11),
    r12 := (fun u hu => no ((updV_ne (by decide)).symm.trans hu) n12),
    r13 := (fun u hu hd => no ((updV_ne (by decide)).symm.trans hu) n13),
    r14 := (fun u hu => no ((updV_ne (by decide)).symm.trans hu) n14),
    r15 := (fun u hu => no ((updV_ne (by decide)).symm.trans hu) n15),
    r16 := (fun u hu => no ((updV_ne (by decide)).symm.trans hu) n16),
    r17 := (fun u hu => no ((updV_ne (by decide)).symm.trans hu) n17),
    r18 := (fun u hu => no ((updV_ne (by decide)).symm.trans hu) n18),
    r19 := (fun u hu => no ((updV_ne (by decide)).symm.trans hu) n19),
    r20 := (fun u hu => by obtain ⟨R, e, hR, hf⟩ := h.r20 u ((updV_ne (by decide)).symm.trans hu); exact ⟨R, e, hR, fun hz => hf ((updV_ne (by decide)).symm.trans hz)⟩),
    r21 := (fun u hu => no ((updV_ne (by decide)).symm.trans hu) n21),
    r22 := (fun u hu => no ((updV_ne (by decide)).symm.trans hu) n22) }
theorem T16_11 {B : Nat} {l : List Int} {a0 K : Nat} {w0 wX : World} {RT : Nat} {n : Int} {Av : Option Addr} {cv : Nat} {L : List St} {V : Nat → Option Value} {w : World} (h : T16 B l a0 K w0 wX RT n Av cv L V w) (d : DT16 V) (hi : V 11 = none) (p8 : (V 8).isSome = true) (p10 : (V 10).isSome = true) (hWX : w0.heap.size ≤ wX.heap.size) (hRT : RT < wX.heap.size) (w2 : World) (hm : Drew B l (a0 + (K + 4)) 2 w w2) (hB : B < w0.heap.size) (v : Value) (hv : ∃ x : Int, v = .int .i64 x) : T16 B l a0 K w0 wX RT n Av cv L (updV V 11 v) w2 := by
  have n12 : V 12 = none := none_of d.d12_11 hi
  have n13 : V 13 = none := none_of d.d13_12 n12
  have n14 : V 14 = none := none_of d.d14_13 n13
  have n15 : V 15 = none := none_of d.d15_14 n14
  have n16 : V 16 = none := none_of d.d16_15 n15
  have n17 : V 17 = none := none_of d.d17_16 n16
  have n18 : V 18 = none := none_of d.d18_17 n17
  have n19 : V 19 = none := none_of d.d19_17 n17
  have n21 : V 21 = none := none_of d.d21_18 n18
  have n22 : V 22 = none := none_of d.d22_19 n19
  have p7 := d.d8_7 p8
  have p6 := d.d7_6 p7
  have p5 := d.d8_5 p8
  have p4 := d.d8_4 p8
  have p3 := d.d4_3 p4
  have p2 := d.d3_2 p3
  have p1 := d.d4_1 p4
  exact {
    sz := (Nat.le_trans h.sz hm.2.size),
    s0 := (fun hn => noS p4 ((updV_ne (by decide)).symm.trans hn)),
    s1 := (fun hs hn => noS p8 ((updV_ne (by decide)).symm.trans hn)),
    s2 := (fun hs hn => no (updV_same _ _ _) hn),
    s3 := (fun hs hn => town_more (town_drew (h.s2 p8 hi) hm hB) (by omega)),
    s4 := (fun hs => noS (upd_some hs (by decide)) n14),
    r0 := (fun u hu => h.r0 u ((updV_ne (by decide)).symm.trans hu)),
    r1 := (fun u hu => h.r1 u ((updV_ne (by decide)).symm.trans hu)),
    r2 := (fun u hu => h.r2 u ((updV_ne (by decide)).symm.trans hu)),
    r3 := (fun u hu => h.r3 u ((updV_ne (by decide)).symm.trans hu)),
    r4 := (fun u hu => h.r4 u ((updV_ne (by decide)).symm.trans hu)),
    r5 := (fun u hu => h.r5 u ((updV_ne (by decide)).symm.trans hu)),
    r6 := (fun u hu => h.r6 u ((updV_ne (by decide)).symm.trans hu)),
    r7 := (fun u hu => h.r7 u ((updV_ne (by decide)).symm.trans hu)),
    r8 := (fun u hu => h.r8 u ((updV_ne (by decide)).symm.trans hu)),
    r9 := (fun u hu => h.r9 u ((updV_ne (by decide)).symm.trans hu)),
    r10 := (fun u hu => h.r10 u ((updV_ne (by decide)).symm.trans hu)),
    r11 := (fun u hu => by have e := Option.some.inj ((updV_same _ _ _).symm.trans hu); subst e; exact hv),
    r12 := (fun u hu => no ((updV_ne (by decide)).symm.trans hu) n12),
    r13 := (fun u hu hd => no ((updV_ne (by decide)).symm.trans hu) n13),
    r14 := (fun u hu => no ((updV_ne (by decide)).symm.trans hu) n14),
    r15 := (fun u hu => no ((updV_ne (by decide)).symm.trans hu) n15),
    r16 := (fun u hu => no ((updV_ne (by decide)).symm.trans hu) n16),
    r17 := (fun u hu => no ((updV_ne (by decide)).symm.trans hu) n17),
    r18 := (fun u hu => no ((updV_ne (by decide)).symm.trans hu) n18),
    r19 := (fun u hu => no ((updV_ne (by decide)).symm.trans hu) n19),
    r20 := (fun u hu => by obtain ⟨R, e, hR, hf⟩ := h.r20 u ((updV_ne (by decide)).symm.trans hu); exact ⟨R, e, hR, fun hz => own_draw (hf ((updV_ne (by decide)).symm.trans hz)) hm.2 (by have := hB; have := hR; have := hWX; omega)⟩),
    r21 := (fun u hu => no ((updV_ne (by decide)).symm.trans hu) n21),
    r22 := (fun u hu => no ((updV_ne (by decide)).symm.trans hu) n22) }
theorem T16_12 {B : Nat} {l : List Int} {a0 K : Nat} {w0 wX : World} {RT : Nat} {n : Int} {Av : Option Addr} {cv : Nat} {L : List St} {V : Nat → Option Value} {w : World} (h : T16 B l a0 K w0 wX RT n Av cv L V w) (d : DT16 V) (hi : V 12 = none) (p11 : (V 11).isSome = true) (hWX : w0.heap.size ≤ wX.heap.size) (hRT : RT < wX.heap.size) (v : Value) (hv : ∃ x : Int, v = .int .i64 x) : T16 B l a0 K w0 wX RT n Av cv L (updV V 12 v) w := by
  have n13 : V 13 = none := none_of d.d13_12 hi
  have n14 : V 14 = none := none_of d.d14_13 n13
  have n15 : V 15 = none := none_of d.d15_14 n14
  have n16 : V 16 = none := none_of d.d16_15 n15
  have n17 : V 17 = none := none_of d.d17_16 n16
  have n18 : V 18 = none := none_of d.d18_17 n17
  have n19 : V 19 = none := none_of d.d19_17 n17
  have n21 : V 21 = none := none_of d.d21_18 n18
  have n22 : V 22 = none := none_of d.d22_19 n19
  have p10 := d.d11_10 p11
  have p8 := d.d11_8 p11
  have p7 := d.d8_7 p8
  have p6 := d.d7_6 p7
  have p5 := d.d8_5 p8
  have p4 := d.d8_4 p8
  have p3 := d.d4_3 p4
  have p2 := d.d3_2 p3
  have p1 := d.d4_1 p4
  exact {
    sz := (h.sz),
    s0 := (fun hn => h.s0 ((updV_ne (by decide)).symm.trans hn)),
    s1 := (fun hs hn => h.s1 (upd_some hs (by decide)) ((updV_ne (by decide)).symm.trans hn)),
    s2 := (fun hs hn => h.s2 (upd_some hs (by decide)) ((updV_ne (by decide)).symm.trans hn)),
    s3 := (fun hs hn => h.s3 (upd_some hs (by decide)) ((updV_ne (by decide)).symm.trans hn)),
    s4 := (fun hs => h.s4 (upd_some hs (by decide))),
    r0 := (fun u hu => h.r0 u ((updV_ne (by decide)).symm.trans hu)),
    r1 := (fun u hu => h.r1 u ((updV_ne (by decide)).symm.trans hu)),
    r2 := (fun u hu => h.r2 u ((updV_ne (by decide)).symm.trans hu)),
    r3 := (fun u hu => h.r3 u ((updV_ne (by decide)).symm.trans hu)),
    r4 := (fun u hu => h.r4 u ((updV_ne (by decide)).symm.trans hu)),
    r5 := (fun u hu => h.r5 u ((updV_ne (by decide)).symm.trans hu)),
    r6 := (fun u hu => h.r6 u ((updV_ne (by decide)).symm.trans hu)),
    r7 := (fun u hu => h.r7 u ((updV_ne (by decide)).symm.trans hu)),
    r8 := (fun u hu => h.r8 u ((updV_ne (by decide)).symm.trans hu)),
    r9 := (fun u hu => h.r9 u ((updV_ne (by decide)).symm.trans hu)),
    r10 := (fun u hu => h.r10 u ((updV_ne (by decide)).symm.trans hu)),
    r11 := (fun u hu => h.r11 u ((updV_ne (by decide)).symm.trans hu)),
    r12 := (fun u hu => by have e := Option.some.inj ((updV_same _ _ _).symm.trans hu); subst e; exact hv),
    r13 := (fun u hu hd => no ((updV_ne (by decide)).symm.trans hu) n13),
    r14 := (fun u hu => no ((updV_ne (by decide)).symm.trans hu) n14),
    r15 := (fun u hu => no ((updV_ne (by decide)).symm.trans hu) n15),
    r16 := (fun u hu => no ((updV_ne (by decide)).symm.trans hu) n16),
    r17 := (fun u hu => no ((updV_ne (by decide)).symm.trans hu) n17),
    r18 := (fun u hu => no ((updV_ne (by decide)).symm.trans hu) n18),
    r19 := (fun u hu => no ((updV_ne (by decide)).symm.trans hu) n19),
    r20 := (fun u hu => by obtain ⟨R, e, hR, hf⟩ := h.r20 u ((updV_ne (by decide)).symm.trans hu); exact ⟨R, e, hR, fun hz => hf ((updV_ne (by decide)).symm.trans hz)⟩),
    r21 := (fun u hu => no ((updV_ne (by decide)).symm.trans hu) n21),
    r22 := (fun u hu => no ((updV_ne (by decide)).symm.trans hu) n22) }
theorem T16_13 {B : Nat} {l : List Int} {a0 K : Nat} {w0 wX : World} {RT : Nat} {n : Int} {Av : Option Addr} {cv : Nat} {L : List St} {V : Nat → Option Value} {w : World} (h : T16 B l a0 K w0 wX RT n Av cv L V w) (d : DT16 V) (hi : V 13 = none) (p12 : (V 12).isSome = true) (hWX : w0.heap.size ≤ wX.heap.size) (hRT : RT < wX.heap.size) (ob : Obj) (v : Value) (hv : ∃ y : Int, RS B (w.alloc ob) (v) [30, 60, 90, 300, 3600, y]) : T16 B l a0 K w0 wX RT n Av cv L (updV V 13 v) (w.alloc ob) := by
  have n14 : V 14 = none := none_of d.d14_13 hi
  have n15 : V 15 = none := none_of d.d15_14 n14
  have n16 : V 16 = none := none_of d.d16_15 n15
  have n17 : V 17 = none := none_of d.d17_16 n16
  have n18 : V 18 = none := none_of d.d18_17 n17
  have n19 : V 19 = none := none_of d.d19_17 n17
  have n21 : V 21 = none := none_of d.d21_18 n18
  have n22 : V 22 = none := none_of d.d22_19 n19
  have p11 := d.d12_11 p12
  have p10 := d.d11_10 p11
  have p8 := d.d11_8 p11
  have p7 := d.d8_7 p8
  have p6 := d.d7_6 p7
  have p5 := d.d8_5 p8
  have p4 := d.d8_4 p8
  have p3 := d.d4_3 p4
  have p2 := d.d3_2 p3
  have p1 := d.d4_1 p4
  exact {
    sz := (Nat.le_trans h.sz (by simp)),
    s0 := (fun hn => town_bel (h.s0 ((updV_ne (by decide)).symm.trans hn)) (bel_al (Below.refl _ _) _)),
    s1 := (fun hs hn => town_bel (h.s1 (upd_some hs (by decide)) ((updV_ne (by decide)).symm.trans hn)) (bel_al (Below.refl _ _) _)),
    s2 := (fun hs hn => town_bel (h.s2 (upd_some hs (by decide)) ((updV_ne (by decide)).symm.trans hn)) (bel_al (Below.refl _ _) _)),
    s3 := (fun hs hn => town_bel (h.s3 (upd_some hs (by decide)) ((updV_ne (by decide)).symm.trans hn)) (bel_al (Below.refl _ _) _)),
    s4 := (fun hs => town_bel (h.s4 (upd_some hs (by decide))) (bel_al (Below.refl _ _) _)),
    r0 := (fun u hu => h.r0 u ((updV_ne (by decide)).symm.trans hu)),
    r1 := (fun u hu => h.r1 u ((updV_ne (by decide)).symm.trans hu)),
    r2 := (fun u hu => h.r2 u ((updV_ne (by decide)).symm.trans hu)),
    r3 := (fun u hu => h.r3 u ((updV_ne (by decide)).symm.trans hu)),
    r4 := (fun u hu => h.r4 u ((updV_ne (by decide)).symm.trans hu)),
    r5 := (fun u hu => h.r5 u ((updV_ne (by decide)).symm.trans hu)),
    r6 := (fun u hu => h.r6 u ((updV_ne (by decide)).symm.trans hu)),
    r7 := (fun u hu => h.r7 u ((updV_ne (by decide)).symm.trans hu)),
    r8 := (fun u hu => h.r8 u ((updV_ne (by decide)).symm.trans hu)),
    r9 := (fun u hu => h.r9 u ((updV_ne (by decide)).symm.trans hu)),
    r10 := (fun u hu => h.r10 u ((updV_ne (by decide)).symm.trans hu)),
    r11 := (fun u hu => h.r11 u ((updV_ne (by decide)).symm.trans hu)),
    r12 := (fun u hu => h.r12 u ((updV_ne (by decide)).symm.trans hu)),
    r13 := (fun u hu hd => by have e := Option.some.inj ((updV_same _ _ _).symm.trans hu); subst e; exact hv),
    r14 := (fun u hu => no ((updV_ne (by decide)).symm.trans hu) n14),
    r15 := (fun u hu => no ((updV_ne (by decide)).symm.trans hu) n15),
    r16 := (fun u hu => no ((updV_ne (by decide)).symm.trans hu) n16),
    r17 := (fun u hu => no ((updV_ne (by decide)).symm.trans hu) n17),
    r18 := (fun u hu => no ((updV_ne (by decide)).symm.trans hu) n18),
    r19 := (fun u hu => no ((updV_ne (by decide)).symm.trans hu) n19),
    r20 := (fun u hu => by obtain ⟨R, e, hR, hf⟩ := h.r20 u ((updV_ne (by decide)).symm.trans hu); exact ⟨R, e, hR, fun hz => fresh_al (hf ((updV_ne (by decide)).symm.trans hz))⟩),
    r21 := (fun u hu => no ((updV_ne (by decide)).symm.trans hu) n21),
    r22 := (fun u hu => no ((updV_ne (by decide)).symm.trans hu) n22) }
theorem T16_14 {B : Nat} {l : List Int} {a0 K : Nat} {w0 wX : World} {RT : Nat} {n : Int} {Av : Option Addr} {cv : Nat} {L : List St} {V : Nat → Option Value} {w : World} (h : T16 B l a0 K w0 wX RT n Av cv L V w) (d : DT16 V) (hi : V 14 = none) (p9 : (V 9).isSome = true) (p13 : (V 13).isSome = true) (p11 : (V 11).isSome = true) (hWX : w0.heap.size ≤ wX.heap.size) (hRT : RT < wX.heap.size) (w2 : World) (hm : Drew B l (a0 + (K + 6)) 2 w w2) (hB : B < w0.heap.size) (v : Value) (hv : ∃ x : Int, v = .int .i64 x) : T16 B l a0 K w0 wX RT n Av cv L (updV V 14 v) w2 := by
  have n15 : V 15 = none := none_of d.d15_14 hi
  have n16 : V 16 = none := none_of d.d16_15 n15
  have n17 : V 17 = none := none_of d.d17_16 n16
  have n18 : V 18 = none := none_of d.d18_17 n17
  have n19 : V 19 = none := none_of d.d19_17 n17
  have n21 : V 21 = none := none_of d.d21_18 n18
  have n22 : V 22 = none := none_of d.d22_19 n19
  have p12 := d.d13_12 p13
  have p10 := d.d11_10 p11
  have p8 := d.d11_8 p11
  have p7 := d.d8_7 p8
  have p6 := d.d7_6 p7
  have p5 := d.d8_5 p8
  have p4 := d.d8_4 p8
  have p3 := d.d4_3 p4
  have p2 := d.d3_2 p3
  have p1 := d.d4_1 p4
  exact {
    sz := (Nat.le_trans h.sz hm.2.size),
    s0 := (fun hn => noS p4 ((updV_ne (by decide)).symm.trans hn)),
    s1 := (fun hs hn => noS p8 ((updV_ne (by decide)).symm.trans hn)),
    s2 := (fun hs hn => noS p11 ((updV_ne (by decide)).symm.trans hn)),
    s3 := (fun hs hn => no (updV_same _ _ _) hn),
    s4 := (fun hs => town_more (town_drew (h.s3 p11 hi) hm hB) (by omega)),
    r0 := (fun u hu => h.r0 u ((updV_ne (by decide)).symm.trans hu)),
    r1 := (fun u hu => h.r1 u ((updV_ne (by decide)).symm.trans hu)),
    r2 := (fun u hu => h.r2 u ((updV_ne (by decide)).symm.trans hu)),
    r3 := (fun u hu => h.r3 u ((updV_ne (by decide)).symm.trans hu)),
    r4 := (fun u hu => h.r4 u ((updV_ne (by decide)).symm.trans hu)),
    r5 := (fun u hu => h.r5 u ((updV_ne (by decide)).symm.trans hu)),
    r6 := (fun u hu => h.r6 u ((updV_ne (by decide)).symm.trans hu)),
    r7 := (fun u hu => h.r7 u ((updV_ne (by decide)).symm.trans hu)),
    r8 := (fun u hu => h.r8 u ((updV_ne (by decide)).symm.trans hu)),
    r9 := (fun u hu => h.r9 u ((updV_ne (by decide)).symm.trans hu)),
    r10 := (fun u hu => h.r10 u ((updV_ne (by decide)).symm.trans hu)),
    r11 := (fun u hu => h.r11 u ((updV_ne (by decide)).symm.trans hu)),
    r12 := (fun u hu => h.r12 u ((updV_ne (by decide)).symm.trans hu)),
    r13 := (fun u hu hd => no (updV_same _ _ _) hd),
    r14 := (fun u hu => by have e := Option.some.inj ((updV_same _ _ _).symm.trans hu); subst e; exact hv),
    r15 := (fun u hu => no ((updV_ne (by decide)).symm.trans hu) n15),
    r16 := (fun u hu => no ((updV_ne (by decide)).symm.trans hu) n16),
    r17 := (fun u hu => no ((updV_ne (by decide)).symm.trans hu) n17),
    r18 := (fun u hu => no ((updV_ne (by decide)).symm.trans hu) n18),
    r19 := (fun u hu => no ((updV_ne (by decide)).symm.trans hu) n19),
    r20 := (fun u hu => by obtain ⟨R, e, hR, hf⟩ := h.r20 u ((updV_ne (by decide)).symm.trans hu); exact ⟨R, e, hR, fun hz => own_draw (hf ((updV_ne (by decide)).symm.trans hz)) hm.2 (by have := hB; have := hR; have := hWX; omega)⟩),
    r21 := (fun u hu => no ((updV_ne (by decide)).symm.trans hu) n21),
    r22 := (fun u hu => no ((updV_ne (by decide)).symm.trans hu) n22) }
theorem T16_15 {B : Nat} {l : List Int} {a0 K : Nat} {w0 wX : World} {RT : Nat} {n : Int} {Av : Option Addr} {cv : Nat} {L : List St} {V : Nat → Option Value} {w : World} (h : T16 B l a0 K w0 wX RT n Av cv L V w) (d : DT16 V) (hi : V 15 = none) (p4 : (V 4).isSome = true) (p8 : (V 8).isSome = true) (p14 : (V 14).isSome = true) (hWX : w0.heap.size ≤ wX.heap.size) (hRT : RT < wX.heap.size) (v : Value) (hv : ∃ f t s : Int, v = .agg #[.int .i64 f, .int .i64 t, .int .i64 s]) : T16 B l a0 K w0 wX RT n Av cv L (updV V 15 v) w := by
  have n16 : V 16 = none := none_of d.d16_15 hi
  have n17 : V 17 = none := none_of d.d17_16 n16
  have n18 : V 18 = none := none_of d.d18_17 n17
  have n19 : V 19 = none := none_of d.d19_17 n17
  have n21 : V 21 = none := none_of d.d21_18 n18
  have n22 : V 22 = none := none_of d.d22_19 n19
  have p13 := d.d14_13 p14
  have p12 := d.d13_12 p13
  have p11 := d.d14_11 p14
  have p10 := d.d11_10 p11
  have p9 := d.d14_9 p14
  have p7 := d.d8_7 p8
  have p6 := d.d7_6 p7
  have p5 := d.d8_5 p8
  have p3 := d.d4_3 p4
  have p2 := d.d3_2 p3
  have p1 := d.d4_1 p4
  exact {
    sz := (h.sz),
    s0 := (fun hn => h.s0 ((updV_ne (by decide)).symm.trans hn)),
    s1 := (fun hs hn => h.s1 (upd_some hs (by decide)) ((updV_ne (by decide)).symm.trans hn)),
    s2 := (fun hs hn => h.s2 (upd_some hs (by decide)) ((updV_ne (by decide)).symm.trans hn)),
    s3 := (fun hs hn => h.s3 (upd_some hs (by decide)) ((updV_ne (by decide)).symm.trans hn)),
    s4 := (fun hs => h.s4 (upd_some hs (by decide))),
    r0 := (fun u hu => h.r0 u ((updV_ne (by decide)).symm.trans hu)),
    r1 := (fun u hu => h.r1 u ((updV_ne (by decide)).symm.trans hu)),
    r2 := (fun u hu => h.r2 u ((updV_ne (by decide)).symm.trans hu)),
    r3 := (fun u hu => h.r3 u ((updV_ne (by decide)).symm.trans hu)),
    r4 := (fun u hu => h.r4 u ((updV_ne (by decide)).symm.trans hu)),
    r5 := (fun u hu => h.r5 u ((updV_ne (by decide)).symm.trans hu)),
    r6 := (fun u hu => h.r6 u ((updV_ne (by decide)).symm.trans hu)),
    r7 := (fun u hu => h.r7 u ((updV_ne (by decide)).symm.trans hu)),
    r8 := (fun u hu => h.r8 u ((updV_ne (by decide)).symm.trans hu)),
    r9 := (fun u hu => h.r9 u ((updV_ne (by decide)).symm.trans hu)),
    r10 := (fun u hu => h.r10 u ((updV_ne (by decide)).symm.trans hu)),
    r11 := (fun u hu => h.r11 u ((updV_ne (by decide)).symm.trans hu)),
    r12 := (fun u hu => h.r12 u ((updV_ne (by decide)).symm.trans hu)),
    r13 := (fun u hu hd => noS p14 ((updV_ne (by decide)).symm.trans hd)),
    r14 := (fun u hu => h.r14 u ((updV_ne (by decide)).symm.trans hu)),
    r15 := (fun u hu => by have e := Option.some.inj ((updV_same _ _ _).symm.trans hu); subst e; exact hv),
    r16 := (fun u hu => no ((updV_ne (by decide)).symm.trans hu) n16),
    r17 := (fun u hu => no ((updV_ne (by decide)).symm.trans hu) n17),
    r18 := (fun u hu => no ((updV_ne (by decide)).symm.trans hu) n18),
    r19 := (fun u hu => no ((updV_ne (by decide)).symm.trans hu) n19),
    r20 := (fun u hu => by obtain ⟨R, e, hR, hf⟩ := h.r20 u ((updV_ne (by decide)).symm.trans hu); exact ⟨R, e, hR, fun hz => hf ((updV_ne (by decide)).symm.trans hz)⟩),
    r21 := (fun u hu => no ((updV_ne (by decide)).symm.trans hu) n21),
    r22 := (fun u hu => no ((updV_ne (by decide)).symm.trans hu) n22) }
theorem T16_16 {B : Nat} {l : List Int} {a0 K : Nat} {w0 wX : World} {RT : Nat} {n : Int} {Av : Option Addr} {cv : Nat} {L : List St} {V : Nat → Option Value} {w : World} (h : T16 B l a0 K w0 wX RT n Av cv L V w) (d : DT16 V) (hi : V 16 = none) (p0 : (V 0).isSome = true) (p15 : (V 15).isSome = true) (p14 : (V 14).isSome = true) (hWX : w0.heap.size ≤ wX.heap.size) (hRT : RT < wX.heap.size) (w2 : World) (hm : Below w.heap.size w w2) (v : Value) (hv : ∃ (n' : Int) (A' : Option Addr) (c' : Nat) (L' : List St) (b : Bool), v = .tuple #[.agg #[.int .i64 n', .slice A' L'.length c'], .bool b] ∧ (b = true → n' = n) ∧ World.ownsRow w2 w0.heap.size 144 3 (.slice A' L'.length c') L'.length (L'.flatMap St.cells) ∧ L'.length ≤ 40) : T16 B l a0 K w0 wX RT n Av cv L (updV V 16 v) w2 := by
  have n17 : V 17 = none := none_of d.d17_16 hi
  have n18 : V 18 = none := none_of d.d18_17 n17
  have n19 : V 19 = none := none_of d.d19_17 n17
  have n21 : V 21 = none := none_of d.d21_18 n18
  have n22 : V 22 = none := none_of d.d22_19 n19
  have p13 := d.d14_13 p14
  have p12 := d.d13_12 p13
  have p11 := d.d14_11 p14
  have p10 := d.d11_10 p11
  have p9 := d.d14_9 p14
  have p8 := d.d15_8 p15
  have p7 := d.d8_7 p8
  have p6 := d.d7_6 p7
  have p5 := d.d8_5 p8
  have p4 := d.d15_4 p15
  have p3 := d.d4_3 p4
  have p2 := d.d3_2 p3
  have p1 := d.d4_1 p4
  exact {
    sz := (Nat.le_trans h.sz hm.size),
    s0 := (fun hn => town_bel (h.s0 ((updV_ne (by decide)).symm.trans hn)) hm),
    s1 := (fun hs hn => town_bel (h.s1 (upd_some hs (by decide)) ((updV_ne (by decide)).symm.trans hn)) hm),
    s2 := (fun hs hn => town_bel (h.s2 (upd_some hs (by decide)) ((updV_ne (by decide)).symm.trans hn)) hm),
    s3 := (fun hs hn => town_bel (h.s3 (upd_some hs (by decide)) ((updV_ne (by decide)).symm.trans hn)) hm),
    s4 := (fun hs => town_bel (h.s4 (upd_some hs (by decide))) hm),
    r0 := (fun u hu => h.r0 u ((updV_ne (by decide)).symm.trans hu)),
    r1 := (fun u hu => h.r1 u ((updV_ne (by decide)).symm.trans hu)),
    r2 := (fun u hu => h.r2 u ((updV_ne (by decide)).symm.trans hu)),
    r3 := (fun u hu => h.r3 u ((updV_ne (by decide)).symm.trans hu)),
    r4 := (fun u hu => h.r4 u ((updV_ne (by decide)).symm.trans hu)),
    r5 := (fun u hu => h.r5 u ((updV_ne (by decide)).symm.trans hu)),
    r6 := (fun u hu => h.r6 u ((updV_ne (by decide)).symm.trans hu)),
    r7 := (fun u hu => h.r7 u ((updV_ne (by decide)).symm.trans hu)),
    r8 := (fun u hu => h.r8 u ((updV_ne (by decide)).symm.trans hu)),
    r9 := (fun u hu => h.r9 u ((updV_ne (by decide)).symm.trans hu)),
    r10 := (fun u hu => h.r10 u ((updV_ne (by decide)).symm.trans hu)),
    r11 := (fun u hu => h.r11 u ((updV_ne (by decide)).symm.trans hu)),
    r12 := (fun u hu => h.r12 u ((updV_ne (by decide)).symm.trans hu)),
    r13 := (fun u hu hd => noS p14 ((updV_ne (by decide)).symm.trans hd)),
    r14 := (fun u hu => h.r14 u ((updV_ne (by decide)).symm.trans hu)),
    r15 := (fun u hu => h.r15 u ((updV_ne (by decide)).symm.trans hu)),
    r16 := (fun u hu => by have e := Option.some.inj ((updV_same _ _ _).symm.trans hu); subst e; exact hv),
    r17 := (fun u hu => no ((updV_ne (by decide)).symm.trans hu) n17),
    r18 := (fun u hu => no ((updV_ne (by decide)).symm.trans hu) n18),
    r19 := (fun u hu => no ((updV_ne (by decide)).symm.trans hu) n19),
    r20 := (fun u hu => by obtain ⟨R, e, hR, hf⟩ := h.r20 u ((updV_ne (by decide)).symm.trans hu); exact ⟨R, e, hR, fun hz => own_below (hf ((updV_ne (by decide)).symm.trans hz)) hm⟩),
    r21 := (fun u hu => no ((updV_ne (by decide)).symm.trans hu) n21),
    r22 := (fun u hu => no ((updV_ne (by decide)).symm.trans hu) n22) }
theorem T16_17 {B : Nat} {l : List Int} {a0 K : Nat} {w0 wX : World} {RT : Nat} {n : Int} {Av : Option Addr} {cv : Nat} {L : List St} {V : Nat → Option Value} {w : World} (h : T16 B l a0 K w0 wX RT n Av cv L V w) (d : DT16 V) (hi : V 17 = none) (p16 : (V 16).isSome = true) (hWX : w0.heap.size ≤ wX.heap.size) (hRT : RT < wX.heap.size) (v : Value) (hv : updV V 17 v 16 = some v) : T16 B l a0 K w0 wX RT n Av cv L (updV V 17 v) w := by
  have n18 : V 18 = none := none_of d.d18_17 hi
  have n19 : V 19 = none := none_of d.d19_17 hi
  have n21 : V 21 = none := none_of d.d21_18 n18
  have n22 : V 22 = none := none_of d.d22_19 n19
  have p15 := d.d16_15 p16
  have p14 := d.d16_14 p16
  have p13 := d.d14_13 p14
  have p12 := d.d13_12 p13
  have p11 := d.d14_11 p14
  have p10 := d.d11_10 p11
  have p9 := d.d14_9 p14
  have p8 := d.d15_8 p15
  have p7 := d.d8_7 p8
  have p6 := d.d7_6 p7
  have p5 := d.d8_5 p8
  have p4 := d.d15_4 p15
  have p3 := d.d4_3 p4
  have p2 := d.d3_2 p3
  have p1 := d.d4_1 p4
  have p0 := d.d16_0 p16
  exact {
    sz := (h.sz),
    s0 := (fun hn => h.s0 ((updV_ne (by decide)).symm.trans hn)),
    s1 := (fun hs hn => h.s1 (upd_some hs (by decide)) ((updV_ne (by decide)).symm.trans hn)),
    s2 := (fun hs hn => h.s2 (upd_some hs (by decide)) ((updV_ne (by decide)).symm.trans hn)),
    s3 := (fun hs hn => h.s3 (upd_some hs (by decide)) ((updV_ne (by decide)).symm.trans hn)),
    s4 := (fun hs => h.s4 (upd_some hs (by decide))),
    r0 := (fun u hu => h.r0 u ((updV_ne (by decide)).symm.trans hu)),
    r1 := (fun u hu => h.r1 u ((updV_ne (by decide)).symm.trans hu)),
    r2 := (fun u hu => h.r2 u ((updV_ne (by decide)).symm.trans hu)),
    r3 := (fun u hu => h.r3 u ((updV_ne (by decide)).symm.trans hu)),
    r4 := (fun u hu => h.r4 u ((updV_ne (by decide)).symm.trans hu)),
    r5 := (fun u hu => h.r5 u ((updV_ne (by decide)).symm.trans hu)),
    r6 := (fun u hu => h.r6 u ((updV_ne (by decide)).symm.trans hu)),
    r7 := (fun u hu => h.r7 u ((updV_ne (by decide)).symm.trans hu)),
    r8 := (fun u hu => h.r8 u ((updV_ne (by decide)).symm.trans hu)),
    r9 := (fun u hu => h.r9 u ((updV_ne (by decide)).symm.trans hu)),
    r10 := (fun u hu => h.r10 u ((updV_ne (by decide)).symm.trans hu)),
    r11 := (fun u hu => h.r11 u ((updV_ne (by decide)).symm.trans hu)),
    r12 := (fun u hu => h.r12 u ((updV_ne (by decide)).symm.trans hu)),
    r13 := (fun u hu hd => noS p14 ((updV_ne (by decide)).symm.trans hd)),
    r14 := (fun u hu => h.r14 u ((updV_ne (by decide)).symm.trans hu)),
    r15 := (fun u hu => h.r15 u ((updV_ne (by decide)).symm.trans hu)),
    r16 := (fun u hu => h.r16 u ((updV_ne (by decide)).symm.trans hu)),
    r17 := (fun u hu => by have e := Option.some.inj ((updV_same _ _ _).symm.trans hu); subst e; exact hv),
    r18 := (fun u hu => no ((updV_ne (by decide)).symm.trans hu) n18),
    r19 := (fun u hu => no ((updV_ne (by decide)).symm.trans hu) n19),
    r20 := (fun u hu => by obtain ⟨R, e, hR, hf⟩ := h.r20 u ((updV_ne (by decide)).symm.trans hu); exact ⟨R, e, hR, fun hz => hf ((updV_ne (by decide)).symm.trans hz)⟩),
    r21 := (fun u hu => no ((updV_ne (by decide)).symm.trans hu) n21),
    r22 := (fun u hu => no ((updV_ne (by decide)).symm.trans hu) n22) }
theorem T16_18 {B : Nat} {l : List Int} {a0 K : Nat} {w0 wX : World} {RT : Nat} {n : Int} {Av : Option Addr} {cv : Nat} {L : List St} {V : Nat → Option Value} {w : World} (h : T16 B l a0 K w0 wX RT n Av cv L V w) (d : DT16 V) (hi : V 18 = none) (p17 : (V 17).isSome = true) (hWX : w0.heap.size ≤ wX.heap.size) (hRT : RT < wX.heap.size) (v : Value) (hv : ∃ b : Value, updV V 18 v 16 = some (.tuple #[v, b])) : T16 B l a0 K w0 wX RT n Av cv L (updV V 18 v) w := by
  have n21 : V 21 = none := none_of d.d21_18 hi
  have p16 := d.d17_16 p17
  have p15 := d.d16_15 p16
  have p14 := d.d16_14 p16
  have p13 := d.d14_13 p14
  have p12 := d.d13_12 p13
  have p11 := d.d14_11 p14
  have p10 := d.d11_10 p11
  have p9 := d.d14_9 p14
  have p8 := d.d15_8 p15
  have p7 := d.d8_7 p8
  have p6 := d.d7_6 p7
  have p5 := d.d8_5 p8
  have p4 := d.d15_4 p15
  have p3 := d.d4_3 p4
  have p2 := d.d3_2 p3
  have p1 := d.d4_1 p4
  have p0 := d.d16_0 p16
  exact {
    sz := (h.sz),
    s0 := (fun hn => h.s0 ((updV_ne (by decide)).symm.trans hn)),
    s1 := (fun hs hn => h.s1 (upd_some hs (by decide)) ((updV_ne (by decide)).symm.trans hn)),
    s2 := (fun hs hn => h.s2 (upd_some hs (by decide)) ((updV_ne (by decide)).symm.trans hn)),
    s3 := (fun hs hn => h.s3 (upd_some hs (by decide)) ((updV_ne (by decide)).symm.trans hn)),
    s4 := (fun hs => h.s4 (upd_some hs (by decide))),
    r0 := (fun u hu => h.r0 u ((updV_ne (by decide)).symm.trans hu)),
    r1 := (fun u hu => h.r1 u ((updV_ne (by decide)).symm.trans hu)),
    r2 := (fun u hu => h.r2 u ((updV_ne (by decide)).symm.trans hu)),
    r3 := (fun u hu => h.r3 u ((updV_ne (by decide)).symm.trans hu)),
    r4 := (fun u hu => h.r4 u ((updV_ne (by decide)).symm.trans hu)),
    r5 := (fun u hu => h.r5 u ((updV_ne (by decide)).symm.trans hu)),
    r6 := (fun u hu => h.r6 u ((updV_ne (by decide)).symm.trans hu)),
    r7 := (fun u hu => h.r7 u ((updV_ne (by decide)).symm.trans hu)),
    r8 := (fun u hu => h.r8 u ((updV_ne (by decide)).symm.trans hu)),
    r9 := (fun u hu => h.r9 u ((updV_ne (by decide)).symm.trans hu)),
    r10 := (fun u hu => h.r10 u ((updV_ne (by decide)).symm.trans hu)),
    r11 := (fun u hu => h.r11 u ((updV_ne (by decide)).symm.trans hu)),
    r12 := (fun u hu => h.r12 u ((updV_ne (by decide)).symm.trans hu)),
    r13 := (fun u hu hd => noS p14 ((updV_ne (by decide)).symm.trans hd)),
    r14 := (fun u hu => h.r14 u ((updV_ne (by decide)).symm.trans hu)),
    r15 := (fun u hu => h.r15 u ((updV_ne (by decide)).symm.trans hu)),
    r16 := (fun u hu => h.r16 u ((updV_ne (by decide)).symm.trans hu)),
    r17 := (fun u hu => (updV_ne (by decide)).trans (h.r17 u ((updV_ne (by decide)).symm.trans hu))),
    r18 := (fun u hu => by have e := Option.some.inj ((updV_same _ _ _).symm.trans hu); subst e; exact hv),
    r19 := (fun u hu => by obtain ⟨b, hb⟩ := h.r19 u ((updV_ne (by decide)).symm.trans hu); exact ⟨b, (updV_ne (by decide)).trans hb⟩),
    r20 := (fun u hu => by obtain ⟨R, e, hR, hf⟩ := h.r20 u ((updV_ne (by decide)).symm.trans hu); exact ⟨R, e, hR, fun hz => hf ((updV_ne (by decide)).symm.trans hz)⟩),
    r21 := (fun u hu => no ((updV_ne (by decide)).symm.trans hu) n21),
    r22 := (fun u hu => (updV_ne (by decide)).trans (h.r22 u ((updV_ne (by decide)).symm.trans hu))) }
theorem T16_19 {B : Nat} {l : List Int} {a0 K : Nat} {w0 wX : World} {RT : Nat} {n : Int} {Av : Option Addr} {cv : Nat} {L : List St} {V : Nat → Option Value} {w : World} (h : T16 B l a0 K w0 wX RT n Av cv L V w) (d : DT16 V) (hi : V 19 = none) (p17 : (V 17).isSome = true) (hWX : w0.heap.size ≤ wX.heap.size) (hRT : RT < wX.heap.size) (v : Value) (hv : ∃ p : Value, updV V 19 v 16 = some (.tuple #[p, v])) : T16 B l a0 K w0 wX RT n Av cv L (updV V 19 v) w := by
  have n22 : V 22 = none := none_of d.d22_19 hi
  have p16 := d.d17_16 p17
  have p15 := d.d16_15 p16
  have p14 := d.d16_14 p16
  have p13 := d.d14_13 p14
  have p12 := d.d13_12 p13
  have p11 := d.d14_11 p14
  have p10 := d.d11_10 p11
  have p9 := d.d14_9 p14
  have p8 := d.d15_8 p15
  have p7 := d.d8_7 p8
  have p6 := d.d7_6 p7
  have p5 := d.d8_5 p8
  have p4 := d.d15_4 p15
  have p3 := d.d4_3 p4
  have p2 := d.d3_2 p3
  have p1 := d.d4_1 p4
  have p0 := d.d16_0 p16
  exact {
    sz := (h.sz),
    s0 := (fun hn => h.s0 ((updV_ne (by decide)).symm.trans hn)),
    s1 := (fun hs hn => h.s1 (upd_some hs (by decide)) ((updV_ne (by decide)).symm.trans hn)),
    s2 := (fun hs hn => h.s2 (upd_some hs (by decide)) ((updV_ne (by decide)).symm.trans hn)),
    s3 := (fun hs hn => h.s3 (upd_some hs (by decide)) ((updV_ne (by decide)).symm.trans hn)),
    s4 := (fun hs => h.s4 (upd_some hs (by decide))),
    r0 := (fun u hu => h.r0 u ((updV_ne (by decide)).symm.trans hu)),
    r1 := (fun u hu => h.r1 u ((updV_ne (by decide)).symm.trans hu)),
    r2 := (fun u hu => h.r2 u ((updV_ne (by decide)).symm.trans hu)),
    r3 := (fun u hu => h.r3 u ((updV_ne (by decide)).symm.trans hu)),
    r4 := (fun u hu => h.r4 u ((updV_ne (by decide)).symm.trans hu)),
    r5 := (fun u hu => h.r5 u ((updV_ne (by decide)).symm.trans hu)),
    r6 := (fun u hu => h.r6 u ((updV_ne (by decide)).symm.trans hu)),
    r7 := (fun u hu => h.r7 u ((updV_ne (by decide)).symm.trans hu)),
    r8 := (fun u hu => h.r8 u ((updV_ne (by decide)).symm.trans hu)),
    r9 := (fun u hu => h.r9 u ((updV_ne (by decide)).symm.trans hu)),
    r10 := (fun u hu => h.r10 u ((updV_ne (by decide)).symm.trans hu)),
    r11 := (fun u hu => h.r11 u ((updV_ne (by decide)).symm.trans hu)),
    r12 := (fun u hu => h.r12 u ((updV_ne (by decide)).symm.trans hu)),
    r13 := (fun u hu hd => noS p14 ((updV_ne (by decide)).symm.trans hd)),
    r14 := (fun u hu => h.r14 u ((updV_ne (by decide)).symm.trans hu)),
    r15 := (fun u hu => h.r15 u ((updV_ne (by decide)).symm.trans hu)),
    r16 := (fun u hu => h.r16 u ((updV_ne (by decide)).symm.trans hu)),
    r17 := (fun u hu => (updV_ne (by decide)).trans (h.r17 u ((updV_ne (by decide)).symm.trans hu))),
    r18 := (fun u hu => by obtain ⟨b, hb⟩ := h.r18 u ((updV_ne (by decide)).symm.trans hu); exact ⟨b, (updV_ne (by decide)).trans hb⟩),
    r19 := (fun u hu => by have e := Option.some.inj ((updV_same _ _ _).symm.trans hu); subst e; exact hv),
    r20 := (fun u hu => by obtain ⟨R, e, hR, hf⟩ := h.r20 u ((updV_ne (by decide)).symm.trans hu); exact ⟨R, e, hR, fun hz => hf ((updV_ne (by decide)).symm.trans hz)⟩),
    r21 := (fun u hu => by obtain ⟨R, n', A', c', m', b, e1, e2, e3, e4⟩ := h.r21 u ((updV_ne (by decide)).symm.trans hu); exact ⟨R, n', A', c', m', b, (updV_ne (by decide)).trans e1, (updV_ne (by decide)).trans e2, e3, e4⟩),
    r22 := (fun u hu => no ((updV_ne (by decide)).symm.trans hu) n22) }
theorem T16_20 {B : Nat} {l : List Int} {a0 K : Nat} {w0 wX : World} {RT : Nat} {n : Int} {Av : Option Addr} {cv : Nat} {L : List St} {V : Nat → Option Value} {w : World} (h : T16 B l a0 K w0 wX RT n Av cv L V w) (d : DT16 V) (hi : V 20 = none) (hWX : w0.heap.size ≤ wX.heap.size) (hRT : RT < wX.heap.size) (ob : Obj) (v : Value) (hv : ∃ R, v = .pointer (some ⟨R, 0, none⟩) ∧ wX.heap.size ≤ R ∧ (updV V 20 v 21 = none → FreshT (w.alloc ob) R)) : T16 B l a0 K w0 wX RT n Av cv L (updV V 20 v) (w.alloc ob) := by
  have n21 : V 21 = none := none_of d.d21_20 hi
  exact {
    sz := (Nat.le_trans h.sz (by simp)),
    s0 := (fun hn => town_bel (h.s0 ((updV_ne (by decide)).symm.trans hn)) (bel_al (Below.refl _ _) _)),
    s1 := (fun hs hn => town_bel (h.s1 (upd_some hs (by decide)) ((updV_ne (by decide)).symm.trans hn)) (bel_al (Below.refl _ _) _)),
    s2 := (fun hs hn => town_bel (h.s2 (upd_some hs (by decide)) ((updV_ne (by decide)).symm.trans hn)) (bel_al (Below.refl _ _) _)),
    s3 := (fun hs hn => town_bel (h.s3 (upd_some hs (by decide)) ((updV_ne (by decide)).symm.trans hn)) (bel_al (Below.refl _ _) _)),
    s4 := (fun hs => town_bel (h.s4 (upd_some hs (by decide))) (bel_al (Below.refl _ _) _)),
    r0 := (fun u hu => h.r0 u ((updV_ne (by decide)).symm.trans hu)),
    r1 := (fun u hu => h.r1 u ((updV_ne (by decide)).symm.trans hu)),
    r2 := (fun u hu => h.r2 u ((updV_ne (by decide)).symm.trans hu)),
    r3 := (fun u hu => h.r3 u ((updV_ne (by decide)).symm.trans hu)),
    r4 := (fun u hu => h.r4 u ((updV_ne (by decide)).symm.trans hu)),
    r5 := (fun u hu => h.r5 u ((updV_ne (by decide)).symm.trans hu)),
    r6 := (fun u hu => h.r6 u ((updV_ne (by decide)).symm.trans hu)),
    r7 := (fun u hu => h.r7 u ((updV_ne (by decide)).symm.trans hu)),
    r8 := (fun u hu => h.r8 u ((updV_ne (by decide)).symm.trans hu)),
    r9 := (fun u hu => h.r9 u ((updV_ne (by decide)).symm.trans hu)),
    r10 := (fun u hu => h.r10 u ((updV_ne (by decide)).symm.trans hu)),
    r11 := (fun u hu => h.r11 u ((updV_ne (by decide)).symm.trans hu)),
    r12 := (fun u hu => h.r12 u ((updV_ne (by decide)).symm.trans hu)),
    r13 := (fun u hu hd => by obtain ⟨y, hy⟩ := h.r13 u ((updV_ne (by decide)).symm.trans hu) ((updV_ne (by decide)).symm.trans hd); exact ⟨y, rs_al hy⟩),
    r14 := (fun u hu => h.r14 u ((updV_ne (by decide)).symm.trans hu)),
    r15 := (fun u hu => h.r15 u ((updV_ne (by decide)).symm.trans hu)),
    r16 := (fun u hu => by
      obtain ⟨n', A', c', L', b, e, h1, ho, h2⟩ := h.r16 u ((updV_ne (by decide)).symm.trans hu)
      exact ⟨n', A', c', L', b, e, h1, ho.alloc _, h2⟩),
    r17 := (fun u hu => (updV_ne (by decide)).trans (h.r17 u ((updV_ne (by decide)).symm.trans hu))),
    r18 := (fun u hu => by obtain ⟨b, hb⟩ := h.r18 u ((updV_ne (by decide)).symm.trans hu); exact ⟨b, (updV_ne (by decide)).trans hb⟩),
    r19 := (fun u hu => by obtain ⟨b, hb⟩ := h.r19 u ((updV_ne (by decide)).symm.trans hu); exact ⟨b, (updV_ne (by decide)).trans hb⟩),
    r20 := (fun u hu => by have e := Option.some.inj ((updV_same _ _ _).symm.trans hu); subst e; exact hv),
    r21 := (fun u hu => no ((updV_ne (by decide)).symm.trans hu) n21),
    r22 := (fun u hu => (updV_ne (by decide)).trans (h.r22 u ((updV_ne (by decide)).symm.trans hu))) }
theorem T16_21 {B : Nat} {l : List Int} {a0 K : Nat} {w0 wX : World} {RT : Nat} {n : Int} {Av : Option Addr} {cv : Nat} {L : List St} {V : Nat → Option Value} {w : World} (h : T16 B l a0 K w0 wX RT n Av cv L V w) (d : DT16 V) (hi : V 21 = none) (p18 : (V 18).isSome = true) (p20 : (V 20).isSome = true) (hWX : w0.heap.size ≤ wX.heap.size) (hRT : RT < wX.heap.size) (w2 : World) (hg : ∀ R, V 20 = some (.pointer (some ⟨R, 0, none⟩)) → w.grownBy w2 (some R)) (hB : B < w0.heap.size) (v : Value) (hv : ∃ (R : Nat) (n' : Int) (A' : Option Addr) (c' m' : Nat) (b : Value), updV V 21 v 20 = some (.pointer (some ⟨R, 0, none⟩)) ∧ updV V 21 v 16 = some (.tuple #[.agg #[.int .i64 n', .slice A' m' c'], b]) ∧ World.cell? w2 ⟨R, 0, none⟩ = some (.int .i64 n') ∧ World.cell? w2 ⟨R, 1, none⟩ = some (.slice A' m' c')) : T16 B l a0 K w0 wX RT n Av cv L (updV V 21 v) w2 := by
  have p17 := d.d18_17 p18
  have p16 := d.d17_16 p17
  have p15 := d.d16_15 p16
  have p14 := d.d16_14 p16
  have p13 := d.d14_13 p14
  have p12 := d.d13_12 p13
  have p11 := d.d14_11 p14
  have p10 := d.d11_10 p11
  have p9 := d.d14_9 p14
  have p8 := d.d15_8 p15
  have p7 := d.d8_7 p8
  have p6 := d.d7_6 p7
  have p5 := d.d8_5 p8
  have p4 := d.d15_4 p15
  have p3 := d.d4_3 p4
  have p2 := d.d3_2 p3
  have p1 := d.d4_1 p4
  have p0 := d.d16_0 p16
  have hSZ : RT < wX.heap.size := hRT
  exact {
    sz := (by obtain ⟨v, hv⟩ := some_of p20; obtain ⟨R, e, _, _⟩ := h.r20 v hv; rw [e] at hv; exact Nat.le_trans h.sz (hg R hv).size),
    s0 := (fun hn => by
      have hst := h.s0 ((updV_ne (by decide)).symm.trans hn)
      obtain ⟨v, hv⟩ := some_of p20
      obtain ⟨R, e, hR, hf⟩ := h.r20 v hv
      rw [e] at hv
      have hf := hf hi
      exact town_gro hst (hg R hv) (by have := hst.2.2.2.2.2.2; have := hSZ; omega) (fresh_ne hf hst.2.1) (by have := hst.2.2.2.2.2.1; have := hst.2.2.2.2.2.2; have := hSZ; omega) hB),
    s1 := (fun hs hn => by
      have hst := h.s1 (upd_some hs (by decide)) ((updV_ne (by decide)).symm.trans hn)
      obtain ⟨v, hv⟩ := some_of p20
      obtain ⟨R, e, hR, hf⟩ := h.r20 v hv
      rw [e] at hv
      have hf := hf hi
      exact town_gro hst (hg R hv) (by have := hst.2.2.2.2.2.2; have := hSZ; omega) (fresh_ne hf hst.2.1) (by have := hst.2.2.2.2.2.1; have := hst.2.2.2.2.2.2; have := hSZ; omega) hB),
    s2 := (fun hs hn => by
      have hst := h.s2 (upd_some hs (by decide)) ((updV_ne (by decide)).symm.trans hn)
      obtain ⟨v, hv⟩ := some_of p20
      obtain ⟨R, e, hR, hf⟩ := h.r20 v hv
      rw [e] at hv
      have hf := hf hi
      exact town_gro hst (hg R hv) (by have := hst.2.2.2.2.2.2; have := hSZ; omega) (fresh_ne hf hst.2.1) (by have := hst.2.2.2.2.2.1; have := hst.2.2.2.2.2.2; have := hSZ; omega) hB),
    s3 := (fun hs hn => by
      have hst := h.s3 (upd_some hs (by decide)) ((updV_ne (by decide)).symm.trans hn)
      obtain ⟨v, hv⟩ := some_of p20
      obtain ⟨R, e, hR, hf⟩ := h.r20 v hv
      rw [e] at hv
      have hf := hf hi
      exact town_gro hst (hg R hv) (by have := hst.2.2.2.2.2.2; have := hSZ; omega) (fresh_ne hf hst.2.1) (by have := hst.2.2.2.2.2.1; have := hst.2.2.2.2.2.2; have := hSZ; omega) hB),
    s4 := (fun hs => by
      have hst := h.s4 (upd_some hs (by decide))
      obtain ⟨v, hv⟩ := some_of p20
      obtain ⟨R, e, hR, hf⟩ := h.r20 v hv
      rw [e] at hv
      have hf := hf hi
      exact town_gro hst (hg R hv) (by have := hst.2.2.2.2.2.2; have := hSZ; omega) (fresh_ne hf hst.2.1) (by have := hst.2.2.2.2.2.1; have := hst.2.2.2.2.2.2; have := hSZ; omega) hB),
    r0 := (fun u hu => h.r0 u ((updV_ne (by decide)).symm.trans hu)),
    r1 := (fun u hu => h.r1 u ((updV_ne (by decide)).symm.trans hu)),
    r2 := (fun u hu => h.r2 u ((updV_ne (by decide)).symm.trans hu)),
    r3 := (fun u hu => h.r3 u ((updV_ne (by decide)).symm.trans hu)),
    r4 := (fun u hu => h.r4 u ((updV_ne (by decide)).symm.trans hu)),
    r5 := (fun u hu => h.r5 u ((updV_ne (by decide)).symm.trans hu)),
    r6 := (fun u hu => h.r6 u ((updV_ne (by decide)).symm.trans hu)),
    r7 := (fun u hu => h.r7 u ((updV_ne (by decide)).symm.trans hu)),
    r8 := (fun u hu => h.r8 u ((updV_ne (by decide)).symm.trans hu)),
    r9 := (fun u hu => h.r9 u ((updV_ne (by decide)).symm.trans hu)),
    r10 := (fun u hu => h.r10 u ((updV_ne (by decide)).symm.trans hu)),
    r11 := (fun u hu => h.r11 u ((updV_ne (by decide)).symm.trans hu)),
    r12 := (fun u hu => h.r12 u ((updV_ne (by decide)).symm.trans hu)),
    r13 := (fun u hu hd => noS p14 ((updV_ne (by decide)).symm.trans hd)),
    r14 := (fun u hu => h.r14 u ((updV_ne (by decide)).symm.trans hu)),
    r15 := (fun u hu => h.r15 u ((updV_ne (by decide)).symm.trans hu)),
    r16 := (fun u hu => by
      obtain ⟨n', A', c', L', b, e, h1, ho, h2⟩ := h.r16 u ((updV_ne (by decide)).symm.trans hu)
      obtain ⟨vv, hvv⟩ := some_of p20
      obtain ⟨R, e2, hR, hf⟩ := h.r20 vv hvv
      rw [e2] at hvv
      exact ⟨n', A', c', L', b, e, h1, ho.kept (hg R hvv) (by
        cases hq : (Value.slice A' L'.length c').ownBlock with
        | none => exact .inl rfl
        | some q => exact .inr (fun e => fresh_ne (hf hi) ho q hq (Option.some.inj e))), h2⟩),
    r17 := (fun u hu => (updV_ne (by decide)).trans (h.r17 u ((updV_ne (by decide)).symm.trans hu))),
    r18 := (fun u hu => by obtain ⟨b, hb⟩ := h.r18 u ((updV_ne (by decide)).symm.trans hu); exact ⟨b, (updV_ne (by decide)).trans hb⟩),
    r19 := (fun u hu => by obtain ⟨b, hb⟩ := h.r19 u ((updV_ne (by decide)).symm.trans hu); exact ⟨b, (updV_ne (by decide)).trans hb⟩),
    r20 := (fun u hu => by obtain ⟨R, e, hR, _⟩ := h.r20 u ((updV_ne (by decide)).symm.trans hu); exact ⟨R, e, hR, fun hz => no (updV_same _ _ _) hz⟩),
    r21 := (fun u hu => by have e := Option.some.inj ((updV_same _ _ _).symm.trans hu); subst e; exact hv),
    r22 := (fun u hu => (updV_ne (by decide)).trans (h.r22 u ((updV_ne (by decide)).symm.trans hu))) }
theorem T16_22 {B : Nat} {l : List Int} {a0 K : Nat} {w0 wX : World} {RT : Nat} {n : Int} {Av : Option Addr} {cv : Nat} {L : List St} {V : Nat → Option Value} {w : World} (h : T16 B l a0 K w0 wX RT n Av cv L V w) (d : DT16 V) (hi : V 22 = none) (p19 : (V 19).isSome = true) (hWX : w0.heap.size ≤ wX.heap.size) (hRT : RT < wX.heap.size) (v : Value) (hv : updV V 22 v 19 = some v) : T16 B l a0 K w0 wX RT n Av cv L (updV V 22 v) w := by
  have p17 := d.d19_17 p19
  have p16 := d.d17_16 p17
  have p15 := d.d16_15 p16
  have p14 := d.d16_14 p16
  have p13 := d.d14_13 p14
  have p12 := d.d13_12 p13
  have p11 := d.d14_11 p14
  have p10 := d.d11_10 p11
  have p9 := d.d14_9 p14
  have p8 := d.d15_8 p15
  have p7 := d.d8_7 p8
  have p6 := d.d7_6 p7
  have p5 := d.d8_5 p8
  have p4 := d.d15_4 p15
  have p3 := d.d4_3 p4
  have p2 := d.d3_2 p3
  have p1 := d.d4_1 p4
  have p0 := d.d16_0 p16
  exact {
    sz := (h.sz),
    s0 := (fun hn => h.s0 ((updV_ne (by decide)).symm.trans hn)),
    s1 := (fun hs hn => h.s1 (upd_some hs (by decide)) ((updV_ne (by decide)).symm.trans hn)),
    s2 := (fun hs hn => h.s2 (upd_some hs (by decide)) ((updV_ne (by decide)).symm.trans hn)),
    s3 := (fun hs hn => h.s3 (upd_some hs (by decide)) ((updV_ne (by decide)).symm.trans hn)),
    s4 := (fun hs => h.s4 (upd_some hs (by decide))),
    r0 := (fun u hu => h.r0 u ((updV_ne (by decide)).symm.trans hu)),
    r1 := (fun u hu => h.r1 u ((updV_ne (by decide)).symm.trans hu)),
    r2 := (fun u hu => h.r2 u ((updV_ne (by decide)).symm.trans hu)),
    r3 := (fun u hu => h.r3 u ((updV_ne (by decide)).symm.trans hu)),
    r4 := (fun u hu => h.r4 u ((updV_ne (by decide)).symm.trans hu)),
    r5 := (fun u hu => h.r5 u ((updV_ne (by decide)).symm.trans hu)),
    r6 := (fun u hu => h.r6 u ((updV_ne (by decide)).symm.trans hu)),
    r7 := (fun u hu => h.r7 u ((updV_ne (by decide)).symm.trans hu)),
    r8 := (fun u hu => h.r8 u ((updV_ne (by decide)).symm.trans hu)),
    r9 := (fun u hu => h.r9 u ((updV_ne (by decide)).symm.trans hu)),
    r10 := (fun u hu => h.r10 u ((updV_ne (by decide)).symm.trans hu)),
    r11 := (fun u hu => h.r11 u ((updV_ne (by decide)).symm.trans hu)),
    r12 := (fun u hu => h.r12 u ((updV_ne (by decide)).symm.trans hu)),
    r13 := (fun u hu hd => noS p14 ((updV_ne (by decide)).symm.trans hd)),
    r14 := (fun u hu => h.r14 u ((updV_ne (by decide)).symm.trans hu)),
    r15 := (fun u hu => h.r15 u ((updV_ne (by decide)).symm.trans hu)),
    r16 := (fun u hu => h.r16 u ((updV_ne (by decide)).symm.trans hu)),
    r17 := (fun u hu => (updV_ne (by decide)).trans (h.r17 u ((updV_ne (by decide)).symm.trans hu))),
    r18 := (fun u hu => by obtain ⟨b, hb⟩ := h.r18 u ((updV_ne (by decide)).symm.trans hu); exact ⟨b, (updV_ne (by decide)).trans hb⟩),
    r19 := (fun u hu => by obtain ⟨b, hb⟩ := h.r19 u ((updV_ne (by decide)).symm.trans hu); exact ⟨b, (updV_ne (by decide)).trans hb⟩),
    r20 := (fun u hu => by obtain ⟨R, e, hR, hf⟩ := h.r20 u ((updV_ne (by decide)).symm.trans hu); exact ⟨R, e, hR, fun hz => hf ((updV_ne (by decide)).symm.trans hz)⟩),
    r21 := (fun u hu => by obtain ⟨R, n', A', c', m', b, e1, e2, e3, e4⟩ := h.r21 u ((updV_ne (by decide)).symm.trans hu); exact ⟨R, n', A', c', m', b, (updV_ne (by decide)).trans e1, (updV_ne (by decide)).trans e2, e3, e4⟩),
    r22 := (fun u hu => by have e := Option.some.inj ((updV_same _ _ _).symm.trans hu); subst e; exact hv) }
theorem T16_start {B : Nat} {l : List Int} {a0 K : Nat} {w0 wX : World} {RT : Nat} {n : Int} {Av : Option Addr} {cv : Nat} {L : List St} (h : TownSt B l a0 (K + 0) w0 RT n (.slice Av L.length cv) L wX) : T16 B l a0 K w0 wX RT n Av cv L (fun _ => none) wX.drew := {
    sz := (Nat.le_refl _),
    s0 := (fun _ => town_bel h (bel_dr (Below.refl _ _))),
    s1 := (fun hs => by cases hs),
    s2 := (fun hs => by cases hs),
    s3 := (fun hs => by cases hs),
    s4 := (fun hs => by cases hs),
    r0 := (fun v hv => by cases hv),
    r1 := (fun v hv => by cases hv),
    r2 := (fun v hv => by cases hv),
    r3 := (fun v hv => by cases hv),
    r4 := (fun v hv => by cases hv),
    r5 := (fun v hv => by cases hv),
    r6 := (fun v hv => by cases hv),
    r7 := (fun v hv => by cases hv),
    r8 := (fun v hv => by cases hv),
    r9 := (fun v hv => by cases hv),
    r10 := (fun v hv => by cases hv),
    r11 := (fun v hv => by cases hv),
    r12 := (fun v hv => by cases hv),
    r13 := (fun v hv => by cases hv),
    r14 := (fun v hv => by cases hv),
    r15 := (fun v hv => by cases hv),
    r16 := (fun v hv => by cases hv),
    r17 := (fun v hv => by cases hv),
    r18 := (fun v hv => by cases hv),
    r19 := (fun v hv => by cases hv),
    r20 := (fun v hv => by cases hv),
    r21 := (fun v hv => by cases hv),
    r22 := (fun v hv => by cases hv) }
set_option maxRecDepth 100000 in
theorem T16_op0 {B : Nat} {l : List Int} {a0 K : Nat} {w0 wX : World} {RT : Nat} {n : Int} {Av : Option Addr} {cv : Nat} {L : List St} {V : Nat → Option Value} {w : World} {a : Act} {KK : Act → World → Prop} {Q : Exit → Act → World → Prop} {ty : TypeId} {pp : String} {af : Array Edge} {gg : Option (Nat × Bool)} (HL : BytesOk l) (ha : a0 + K ≤ 4611686018427380000) (hB : B < w0.heap.size) (hWX : w0.heap.size ≤ wX.heap.size) (hRT : RT < wX.heap.size) (hnb : n ≤ 100) (h : T16 B l a0 K w0 wX RT n Av cv L V w) (d : DT16 V) (hi : V 0 = none) (o3 : a.eval (.tmp 3) = .pointer (some ⟨RT, 0, none⟩)) (hK : ∀ v w', T16 B l a0 K w0 wX RT n Av cv L (updV V 0 v) w' → KK (a.put (some 52) v) w') : Oper.wp Tryz.prog { dst := some 52, op := .load 47 (.tmp 3), type := ty, pos := pp, after := af, guard := gg } a w KK Q := by
  obtain ⟨k9, hk9, hst⟩ := h.any
  have t0 := hst.1.cellAt 0 (by omega)
  have t1 := hst.1.cellAt 1 (by omega)
  dsimp only [List.getElem?_cons_zero, List.getElem?_cons_succ] at t0 t1
  clear hst
  unfold Oper.wp execOp
  simp only [List.map_toArray, List.map_cons, List.map_nil, List.size_toArray, o3]
  go_simp
  exact hK _ _ (T16_0 h d hi hWX hRT _ rfl)
set_option maxRecDepth 100000 in
theorem T16_op1 {B : Nat} {l : List Int} {a0 K : Nat} {w0 wX : World} {RT : Nat} {n : Int} {Av : Option Addr} {cv : Nat} {L : List St} {V : Nat → Option Value} {w : World} {a : Act} {KK : Act → World → Prop} {Q : Exit → Act → World → Prop} {ty : TypeId} {pp : String} {af : Array Edge} {gg : Option (Nat × Bool)} (HL : BytesOk l) (ha : a0 + K ≤ 4611686018427380000) (hB : B < w0.heap.size) (hWX : w0.heap.size ≤ wX.heap.size) (hRT : RT < wX.heap.size) (hnb : n ≤ 100) (h : T16 B l a0 K w0 wX RT n Av cv L V w) (d : DT16 V) (hi : V 1 = none) (o0 : a.eval (.tmp 0) = .pointer (some ⟨B, 0, none⟩)) (hK : ∀ v w', T16 B l a0 K w0 wX RT n Av cv L (updV V 1 v) w' → KK (a.put (some 53) v) w') : Oper.wp Tryz.prog { dst := some 53, op := .move (.tmp 0), type := ty, pos := pp, after := af, guard := gg } a w KK Q := by
  unfold Oper.wp execOp
  simp only [List.map_toArray, List.map_cons, List.map_nil, List.size_toArray, o0]
  go_simp
  exact hK _ _ (T16_1 h d hi hWX hRT _ rfl)
set_option maxRecDepth 100000 in
theorem T16_op2 {B : Nat} {l : List Int} {a0 K : Nat} {w0 wX : World} {RT : Nat} {n : Int} {Av : Option Addr} {cv : Nat} {L : List St} {V : Nat → Option Value} {w : World} {a : Act} {KK : Act → World → Prop} {Q : Exit → Act → World → Prop} {ty : TypeId} {pp : String} {af : Array Edge} {gg : Option (Nat × Bool)} (HL : BytesOk l) (ha : a0 + K ≤ 4611686018427380000) (hB : B < w0.heap.size) (hWX : w0.heap.size ≤ wX.heap.size) (hRT : RT < wX.heap.size) (hnb : n ≤ 100) (h : T16 B l a0 K w0 wX RT n Av cv L V w) (d : DT16 V) (hi : V 2 = none) (o3 : a.eval (.tmp 3) = .pointer (some ⟨RT, 0, none⟩)) (hK : ∀ v w', T16 B l a0 K w0 wX RT n Av cv L (updV V 2 v) w' → KK (a.put (some 54) v) w') : Oper.wp Tryz.prog { dst := some 54, op := .fieldAddr 47 (.tmp 3) 0, type := ty, pos := pp, after := af, guard := gg } a w KK Q := by
  unfold Oper.wp execOp
  simp only [List.map_toArray, List.map_cons, List.map_nil, List.size_toArray, o3]
  go_simp
  exact hK _ _ (T16_2 h d hi hWX hRT _ rfl)
set_option maxRecDepth 100000 in
theorem T16_op3 {B : Nat} {l : List Int} {a0 K : Nat} {w0 wX : World} {RT : Nat} {n : Int} {Av : Option Addr} {cv : Nat} {L : List St} {V : Nat → Option Value} {w : World} {a : Act} {KK : Act → World → Prop} {Q : Exit → Act → World → Prop} {ty : TypeId} {pp : String} {af : Array Edge} {gg : Option (Nat × Bool)} (HL : BytesOk l) (ha : a0 + K ≤ 4611686018427380000) (hB : B < w0.heap.size) (hWX : w0.heap.size ≤ wX.heap.size) (hRT : RT < wX.heap.size) (hnb : n ≤ 100) (h : T16 B l a0 K w0 wX RT n Av cv L V w) (d : DT16 V) (hi : V 3 = none) (E54 : ∀ v, V 2 = some v → a.eval (.tmp 54) = v) (p2 : (V 2).isSome = true) (hK : ∀ v w', T16 B l a0 K w0 wX RT n Av cv L (updV V 3 v) w' → KK (a.put (some 55) v) w') : Oper.wp Tryz.prog { dst := some 55, op := .load 3 (.tmp 54), type := ty, pos := pp, after := af, guard := gg } a w KK Q := by
  obtain ⟨v2, hv2⟩ := some_of p2
  have e54 := E54 v2 hv2
  rw [h.r2 v2 hv2] at e54
  obtain ⟨k9, hk9, hst⟩ := h.any
  have t0 := hst.1.cellAt 0 (by omega)
  have t1 := hst.1.cellAt 1 (by omega)
  dsimp only [List.getElem?_cons_zero, List.getElem?_cons_succ] at t0 t1
  clear hst
  unfold Oper.wp execOp
  simp only [List.map_toArray, List.map_cons, List.map_nil, List.size_toArray, e54]
  go_simp
  exact hK _ _ (T16_3 h d hi p2 hWX hRT _ rfl)
set_option maxRecDepth 100000 in
theorem T16_op4 {B : Nat} {l : List Int} {a0 K : Nat} {w0 wX : World} {RT : Nat} {n : Int} {Av : Option Addr} {cv : Nat} {L : List St} {V : Nat → Option Value} {w : World} {a : Act} {KK : Act → World → Prop} {Q : Exit → Act → World → Prop} {ty : TypeId} {pp : String} {af : Array Edge} {gg : Option (Nat × Bool)} (HL : BytesOk l) (ha : a0 + K ≤ 4611686018427380000) (hB : B < w0.heap.size) (hWX : w0.heap.size ≤ wX.heap.size) (hRT : RT < wX.heap.size) (hnb : n ≤ 100) (h : T16 B l a0 K w0 wX RT n Av cv L V w) (d : DT16 V) (hi : V 4 = none) (E53 : ∀ v, V 1 = some v → a.eval (.tmp 53) = v) (E55 : ∀ v, V 3 = some v → a.eval (.tmp 55) = v) (p1 : (V 1).isSome = true) (p3 : (V 3).isSome = true) (hK : ∀ v w', T16 B l a0 K w0 wX RT n Av cv L (updV V 4 v) w' → KK (a.put (some 56) v) w') : Oper.wp Tryz.prog { dst := some 56, op := .call { callee := .value (.func 71), args := #[.tmp 53, .tmp 55], argTypes := #[78, 3] }, type := ty, pos := pp, after := af, guard := gg } a w KK Q := by
  obtain ⟨v1, hv1⟩ := some_of p1
  have e53 := E53 v1 hv1
  rw [h.r1 v1 hv1] at e53
  obtain ⟨v3, hv3⟩ := some_of p3
  have e55 := E55 v3 hv3
  rw [h.r3 v3 hv3] at e55
  have hst := h.s0 hi
  have hc := hst.2.2.2.2.1.1
  clear hst
  unfold Oper.wp execOp
  go_simp
  rw [ev_get e53, ev_get e55]
  refine (pick_c B l HL (a0 + (K + 0)) (by omega) n (by omega) w hc).mono ?_
  rintro e w2 ⟨x, rfl, hx, hd⟩
  exact hK _ _ (T16_4 h d hi p1 p3 hWX hRT w2 hd hB _ ⟨_, rfl⟩)
set_option maxRecDepth 100000 in
theorem T16_op5 {B : Nat} {l : List Int} {a0 K : Nat} {w0 wX : World} {RT : Nat} {n : Int} {Av : Option Addr} {cv : Nat} {L : List St} {V : Nat → Option Value} {w : World} {a : Act} {KK : Act → World → Prop} {Q : Exit → Act → World → Prop} {ty : TypeId} {pp : String} {af : Array Edge} {gg : Option (Nat × Bool)} (HL : BytesOk l) (ha : a0 + K ≤ 4611686018427380000) (hB : B < w0.heap.size) (hWX : w0.heap.size ≤ wX.heap.size) (hRT : RT < wX.heap.size) (hnb : n ≤ 100) (h : T16 B l a0 K w0 wX RT n Av cv L V w) (d : DT16 V) (hi : V 5 = none) (o0 : a.eval (.tmp 0) = .pointer (some ⟨B, 0, none⟩)) (hK : ∀ v w', T16 B l a0 K w0 wX RT n Av cv L (updV V 5 v) w' → KK (a.put (some 57) v) w') : Oper.wp Tryz.prog { dst := some 57, op := .move (.tmp 0), type := ty, pos := pp, after := af, guard := gg } a w KK Q := by
  unfold Oper.wp execOp
  simp only [List.map_toArray, List.map_cons, List.map_nil, List.size_toArray, o0]
  go_simp
  exact hK _ _ (T16_5 h d hi hWX hRT _ rfl)
set_option maxRecDepth 100000 in
theorem T16_op6 {B : Nat} {l : List Int} {a0 K : Nat} {w0 wX : World} {RT : Nat} {n : Int} {Av : Option Addr} {cv : Nat} {L : List St} {V : Nat → Option Value} {w : World} {a : Act} {KK : Act → World → Prop} {Q : Exit → Act → World → Prop} {ty : TypeId} {pp : String} {af : Array Edge} {gg : Option (Nat × Bool)} (HL : BytesOk l) (ha : a0 + K ≤ 4611686018427380000) (hB : B < w0.heap.size) (hWX : w0.heap.size ≤ wX.heap.size) (hRT : RT < wX.heap.size) (hnb : n ≤ 100) (h : T16 B l a0 K w0 wX RT n Av cv L V w) (d : DT16 V) (hi : V 6 = none) (o3 : a.eval (.tmp 3) = .pointer (some ⟨RT, 0, none⟩)) (hK : ∀ v w', T16 B l a0 K w0 wX RT n Av cv L (updV V 6 v) w' → KK (a.put (some 58) v) w') : Oper.wp Tryz.prog { dst := some 58, op := .fieldAddr 47 (.tmp 3) 0, type := ty, pos := pp, after := af, guard := gg } a w KK Q := by
  unfold Oper.wp execOp
  simp only [List.map_toArray, List.map_cons, List.map_nil, List.size_toArray, o3]
  go_simp
  exact hK _ _ (T16_6 h d hi hWX hRT _ rfl)
set_option maxRecDepth 100000 in
theorem T16_op7 {B : Nat} {l : List Int} {a0 K : Nat} {w0 wX : World} {RT : Nat} {n : Int} {Av : Option Addr} {cv : Nat} {L : List St} {V : Nat → Option Value} {w : World} {a : Act} {KK : Act → World → Prop} {Q : Exit → Act → World → Prop} {ty : TypeId} {pp : String} {af : Array Edge} {gg : Option (Nat × Bool)} (HL : BytesOk l) (ha : a0 + K ≤ 4611686018427380000) (hB : B < w0.heap.size) (hWX : w0.heap.size ≤ wX.heap.size) (hRT : RT < wX.heap.size) (hnb : n ≤ 100) (h : T16 B l a0 K w0 wX RT n Av cv L V w) (d : DT16 V) (hi : V 7 = none) (E58 : ∀ v, V 6 = some v → a.eval (.tmp 58) = v) (p6 : (V 6).isSome = true) (hK : ∀ v w', T16 B l a0 K w0 wX RT n Av cv L (updV V 7 v) w' → KK (a.put (some 59) v) w') : Oper.wp Tryz.prog { dst := some 59, op := .load 3 (.tmp 58), type := ty, pos := pp, after := af, guard := gg } a w KK Q := by
  obtain ⟨v6, hv6⟩ := some_of p6
  have e58 := E58 v6 hv6
  rw [h.r6 v6 hv6] at e58
  obtain ⟨k9, hk9, hst⟩ := h.any
  have t0 := hst.1.cellAt 0 (by omega)
  have t1 := hst.1.cellAt 1 (by omega)
  dsimp only [List.getElem?_cons_zero, List.getElem?_cons_succ] at t0 t1
  clear hst
  unfold Oper.wp execOp
  simp only [List.map_toArray, List.map_cons, List.map_nil, List.size_toArray, e58]
  go_simp
  exact hK _ _ (T16_7 h d hi p6 hWX hRT _ rfl)
set_option maxRecDepth 100000 in
theorem T16_op8 {B : Nat} {l : List Int} {a0 K : Nat} {w0 wX : World} {RT : Nat} {n : Int} {Av : Option Addr} {cv : Nat} {L : List St} {V : Nat → Option Value} {w : World} {a : Act} {KK : Act → World → Prop} {Q : Exit → Act → World → Prop} {ty : TypeId} {pp : String} {af : Array Edge} {gg : Option (Nat × Bool)} (HL : BytesOk l) (ha : a0 + K ≤ 4611686018427380000) (hB : B < w0.heap.size) (hWX : w0.heap.size ≤ wX.heap.size) (hRT : RT < wX.heap.size) (hnb : n ≤ 100) (h : T16 B l a0 K w0 wX RT n Av cv L V w) (d : DT16 V) (hi : V 8 = none) (E57 : ∀ v, V 5 = some v → a.eval (.tmp 57) = v) (E59 : ∀ v, V 7 = some v → a.eval (.tmp 59) = v) (p4 : (V 4).isSome = true) (p5 : (V 5).isSome = true) (p7 : (V 7).isSome = true) (hK : ∀ v w', T16 B l a0 K w0 wX RT n Av cv L (updV V 8 v) w' → KK (a.put (some 60) v) w') : Oper.wp Tryz.prog { dst := some 60, op := .call { callee := .value (.func 71), args := #[.tmp 57, .tmp 59], argTypes := #[78, 3] }, type := ty, pos := pp, after := af, guard := gg } a w KK Q := by
  obtain ⟨v5, hv5⟩ := some_of p5
  have e57 := E57 v5 hv5
  rw [h.r5 v5 hv5] at e57
  obtain ⟨v7, hv7⟩ := some_of p7
  have e59 := E59 v7 hv7
  rw [h.r7 v7 hv7] at e59
  have hst := h.s1 p4 hi
  have hc := hst.2.2.2.2.1.1
  clear hst
  unfold Oper.wp execOp
  go_simp
  rw [ev_get e57, ev_get e59]
  refine (pick_c B l HL (a0 + (K + 2)) (by omega) n (by omega) w hc).mono ?_
  rintro e w2 ⟨x, rfl, hx, hd⟩
  exact hK _ _ (T16_8 h d hi p4 p5 p7 hWX hRT w2 hd hB _ ⟨_, rfl⟩)
set_option maxRecDepth 100000 in
theorem T16_op9 {B : Nat} {l : List Int} {a0 K : Nat} {w0 wX : World} {RT : Nat} {n : Int} {Av : Option Addr} {cv : Nat} {L : List St} {V : Nat → Option Value} {w : World} {a : Act} {KK : Act → World → Prop} {Q : Exit → Act → World → Prop} {ty : TypeId} {pp : String} {af : Array Edge} {gg : Option (Nat × Bool)} (HL : BytesOk l) (ha : a0 + K ≤ 4611686018427380000) (hB : B < w0.heap.size) (hWX : w0.heap.size ≤ wX.heap.size) (hRT : RT < wX.heap.size) (hnb : n ≤ 100) (h : T16 B l a0 K w0 wX RT n Av cv L V w) (d : DT16 V) (hi : V 9 = none) (o0 : a.eval (.tmp 0) = .pointer (some ⟨B, 0, none⟩)) (hK : ∀ v w', T16 B l a0 K w0 wX RT n Av cv L (updV V 9 v) w' → KK (a.put (some 61) v) w') : Oper.wp Tryz.prog { dst := some 61, op := .move (.tmp 0), type := ty, pos := pp, after := af, guard := gg } a w KK Q := by
  unfold Oper.wp execOp
  simp only [List.map_toArray, List.map_cons, List.map_nil, List.size_toArray, o0]
  go_simp
  exact hK _ _ (T16_9 h d hi hWX hRT _ rfl)
set_option maxRecDepth 100000 in
theorem T16_op10 {B : Nat} {l : List Int} {a0 K : Nat} {w0 wX : World} {RT : Nat} {n : Int} {Av : Option Addr} {cv : Nat} {L : List St} {V : Nat → Option Value} {w : World} {a : Act} {KK : Act → World → Prop} {Q : Exit → Act → World → Prop} {ty : TypeId} {pp : String} {af : Array Edge} {gg : Option (Nat × Bool)} (HL : BytesOk l) (ha : a0 + K ≤ 4611686018427380000) (hB : B < w0.heap.size) (hWX : w0.heap.size ≤ wX.heap.size) (hRT : RT < wX.heap.size) (hnb : n ≤ 100) (h : T16 B l a0 K w0 wX RT n Av cv L V w) (d : DT16 V) (hi : V 10 = none) (o0 : a.eval (.tmp 0) = .pointer (some ⟨B, 0, none⟩)) (hK : ∀ v w', T16 B l a0 K w0 wX RT n Av cv L (updV V 10 v) w' → KK (a.put (some 62) v) w') : Oper.wp Tryz.prog { dst := some 62, op := .move (.tmp 0), type := ty, pos := pp, after := af, guard := gg } a w KK Q := by
  unfold Oper.wp execOp
  simp only [List.map_toArray, List.map_cons, List.map_nil, List.size_toArray, o0]
  go_simp
  exact hK _ _ (T16_10 h d hi hWX hRT _ rfl)
set_option maxRecDepth 100000 in
theorem T16_op11 {B : Nat} {l : List Int} {a0 K : Nat} {w0 wX : World} {RT : Nat} {n : Int} {Av : Option Addr} {cv : Nat} {L : List St} {V : Nat → Option Value} {w : World} {a : Act} {KK : Act → World → Prop} {Q : Exit → Act → World → Prop} {ty : TypeId} {pp : String} {af : Array Edge} {gg : Option (Nat × Bool)} (HL : BytesOk l) (ha : a0 + K ≤ 4611686018427380000) (hB : B < w0.heap.size) (hWX : w0.heap.size ≤ wX.heap.size) (hRT : RT < wX.heap.size) (hnb : n ≤ 100) (h : T16 B l a0 K w0 wX RT n Av cv L V w) (d : DT16 V) (hi : V 11 = none) (E62 : ∀ v, V 10 = some v → a.eval (.tmp 62) = v) (p8 : (V 8).isSome = true) (p10 : (V 10).isSome = true) (hK : ∀ v w', T16 B l a0 K w0 wX RT n Av cv L (updV V 11 v) w' → KK (a.put (some 63) v) w') : Oper.wp Tryz.prog { dst := some 63, op := .call { callee := .value (.func 71), args := #[.tmp 62, .const (.int .i64 400)], argTypes := #[78, 3] }, type := ty, pos := pp, after := af, guard := gg } a w KK Q := by
  obtain ⟨v10, hv10⟩ := some_of p10
  have e62 := E62 v10 hv10
  rw [h.r10 v10 hv10] at e62
  have hst := h.s2 p8 hi
  have hc := hst.2.2.2.2.1.1
  clear hst
  unfold Oper.wp execOp
  go_simp
  rw [ev_get e62]
  refine (pick_c B l HL (a0 + (K + 4)) (by omega) 400 (by omega) w hc).mono ?_
  rintro e w2 ⟨x, rfl, hx, hd⟩
  exact hK _ _ (T16_11 h d hi p8 p10 hWX hRT w2 hd hB _ ⟨_, rfl⟩)
set_option maxRecDepth 100000 in
theorem T16_op12 {B : Nat} {l : List Int} {a0 K : Nat} {w0 wX : World} {RT : Nat} {n : Int} {Av : Option Addr} {cv : Nat} {L : List St} {V : Nat → Option Value} {w : World} {a : Act} {KK : Act → World → Prop} {Q : Exit → Act → World → Prop} {ty : TypeId} {pp : String} {af : Array Edge} {gg : Option (Nat × Bool)} (HL : BytesOk l) (ha : a0 + K ≤ 4611686018427380000) (hB : B < w0.heap.size) (hWX : w0.heap.size ≤ wX.heap.size) (hRT : RT < wX.heap.size) (hnb : n ≤ 100) (h : T16 B l a0 K w0 wX RT n Av cv L V w) (d : DT16 V) (hi : V 12 = none) (E63 : ∀ v, V 11 = some v → a.eval (.tmp 63) = v) (p11 : (V 11).isSome = true) (hK : ∀ v w', T16 B l a0 K w0 wX RT n Av cv L (updV V 12 v) w' → KK (a.put (some 64) v) w') : Oper.wp Tryz.prog { dst := some 64, op := .binOp .add 3 (.const (.int .i64 1)) (.tmp 63) 3, type := ty, pos := pp, after := af, guard := gg } a w KK Q := by
  obtain ⟨v11, hv11⟩ := some_of p11
  have e63 := E63 v11 hv11
  obtain ⟨x11, q11⟩ := h.r11 v11 hv11
  rw [q11] at e63
  unfold Oper.wp execOp
  simp only [List.map_toArray, List.map_cons, List.map_nil, List.size_toArray, e63]
  go_simp
  exact hK _ _ (T16_12 h d hi p11 hWX hRT _ ⟨_, rfl⟩)
set_option maxRecDepth 100000 in
theorem T16_op13 {B : Nat} {l : List Int} {a0 K : Nat} {w0 wX : World} {RT : Nat} {n : Int} {Av : Option Addr} {cv : Nat} {L : List St} {V : Nat → Option Value} {w : World} {a : Act} {KK : Act → World → Prop} {Q : Exit → Act → World → Prop} {ty : TypeId} {pp : String} {af : Array Edge} {gg : Option (Nat × Bool)} (HL : BytesOk l) (ha : a0 + K ≤ 4611686018427380000) (hB : B < w0.heap.size) (hWX : w0.heap.size ≤ wX.heap.size) (hRT : RT < wX.heap.size) (hnb : n ≤ 100) (h : T16 B l a0 K w0 wX RT n Av cv L V w) (d : DT16 V) (hi : V 13 = none) (E64 : ∀ v, V 12 = some v → a.eval (.tmp 64) = v) (p12 : (V 12).isSome = true) (hK : ∀ v w', T16 B l a0 K w0 wX RT n Av cv L (updV V 13 v) w' → KK (a.put (some 65) v) w') : Oper.wp Tryz.prog { dst := some 65, op := .buildSlice 48 6 #[(0, .const (.int .i64 30)), (1, .const (.int .i64 60)), (2, .const (.int .i64 90)), (3, .const (.int .i64 300)), (4, .const (.int .i64 3600)), (5, .tmp 64)], type := ty, pos := pp, after := af, guard := gg } a w KK Q := by
  obtain ⟨v12, hv12⟩ := some_of p12
  have e64 := E64 v12 hv12
  obtain ⟨x12, q12⟩ := h.r12 v12 hv12
  rw [q12] at e64
  obtain ⟨k9, hk9, hst⟩ := h.any
  have hc := hst.2.2.2.2.1.1
  clear hst
  unfold Oper.wp execOp
  simp only [List.map_toArray, List.map_cons, List.map_nil, List.size_toArray, e64]
  go_simp
  exact hK _ _ (T16_13 h d hi p12 hWX hRT _ _ ⟨x12, rs_new (q := [30, 60, 90, 300, 3600, x12]) hc (Below.refl _ _) (by simp) rfl⟩)
set_option maxRecDepth 100000 in
theorem T16_op14 {B : Nat} {l : List Int} {a0 K : Nat} {w0 wX : World} {RT : Nat} {n : Int} {Av : Option Addr} {cv : Nat} {L : List St} {V : Nat → Option Value} {w : World} {a : Act} {KK : Act → World → Prop} {Q : Exit → Act → World → Prop} {ty : TypeId} {pp : String} {af : Array Edge} {gg : Option (Nat × Bool)} (HL : BytesOk l) (ha : a0 + K ≤ 4611686018427380000) (hB : B < w0.heap.size) (hWX : w0.heap.size ≤ wX.heap.size) (hRT : RT < wX.heap.size) (hnb : n ≤ 100) (h : T16 B l a0 K w0 wX RT n Av cv L V w) (d : DT16 V) (hi : V 14 = none) (E61 : ∀ v, V 9 = some v → a.eval (.tmp 61) = v) (E65 : ∀ v, V 13 = some v → a.eval (.tmp 65) = v) (p9 : (V 9).isSome = true) (p13 : (V 13).isSome = true) (p11 : (V 11).isSome = true) (hK : ∀ v w', T16 B l a0 K w0 wX RT n Av cv L (updV V 14 v) w' → KK (a.put (some 66) v) w') : Oper.wp Tryz.prog { dst := some 66, op := .call { callee := .value (.func 63), args := #[.tmp 61, .tmp 65], argTypes := #[78, 48] }, type := ty, pos := pp, after := af, guard := gg } a w KK Q := by
  obtain ⟨v9, hv9⟩ := some_of p9
  have e61 := E61 v9 hv9
  rw [h.r9 v9 hv9] at e61
  obtain ⟨v13, hv13⟩ := some_of p13
  have e65 := E65 v13 hv13
  obtain ⟨y13, hrs13⟩ := h.r13 v13 hv13 hi
  have hst := h.s3 p11 hi
  have hc := hst.2.2.2.2.1.1
  clear hst
  unfold Oper.wp execOp
  go_simp
  rw [ev_get e61, ev_get e65]
  refine (among_c B l HL (a0 + (K + 6)) (by omega) v13 [30, 60, 90, 300, 3600, y13] (by simp) (by simp) w hc hrs13.1 hrs13.2).mono ?_
  rintro e w2 ⟨x, rfl, _, hd⟩
  exact hK _ _ (T16_14 h d hi p9 p13 p11 hWX hRT w2 hd hB _ ⟨_, rfl⟩)
set_option maxRecDepth 100000 in
theorem T16_op15 {B : Nat} {l : List Int} {a0 K : Nat} {w0 wX : World} {RT : Nat} {n : Int} {Av : Option Addr} {cv : Nat} {L : List St} {V : Nat → Option Value} {w : World} {a : Act} {KK : Act → World → Prop} {Q : Exit → Act → World → Prop} {ty : TypeId} {pp : String} {af : Array Edge} {gg : Option (Nat × Bool)} (HL : BytesOk l) (ha : a0 + K ≤ 4611686018427380000) (hB : B < w0.heap.size) (hWX : w0.heap.size ≤ wX.heap.size) (hRT : RT < wX.heap.size) (hnb : n ≤ 100) (h : T16 B l a0 K w0 wX RT n Av cv L V w) (d : DT16 V) (hi : V 15 = none) (E56 : ∀ v, V 4 = some v → a.eval (.tmp 56) = v) (E60 : ∀ v, V 8 = some v → a.eval (.tmp 60) = v) (E66 : ∀ v, V 14 = some v → a.eval (.tmp 66) = v) (p4 : (V 4).isSome = true) (p8 : (V 8).isSome = true) (p14 : (V 14).isSome = true) (hK : ∀ v w', T16 B l a0 K w0 wX RT n Av cv L (updV V 15 v) w' → KK (a.put (some 67) v) w') : Oper.wp Tryz.prog { dst := some 67, op := .build 144 #[(0, .tmp 56), (1, .tmp 60), (2, .tmp 66)], type := ty, pos := pp, after := af, guard := gg } a w KK Q := by
  obtain ⟨v4, hv4⟩ := some_of p4
  have e56 := E56 v4 hv4
  obtain ⟨x4, q4⟩ := h.r4 v4 hv4
  rw [q4] at e56
  obtain ⟨v8, hv8⟩ := some_of p8
  have e60 := E60 v8 hv8
  obtain ⟨x8, q8⟩ := h.r8 v8 hv8
  rw [q8] at e60
  obtain ⟨v14, hv14⟩ := some_of p14
  have e66 := E66 v14 hv14
  obtain ⟨x14, q14⟩ := h.r14 v14 hv14
  rw [q14] at e66
  unfold Oper.wp execOp
  simp only [List.map_toArray, List.map_cons, List.map_nil, List.size_toArray, e56, e60, e66]
  go_simp
  exact hK _ _ (T16_15 h d hi p4 p8 p14 hWX hRT _ ⟨_, _, _, rfl⟩)
set_option maxRecDepth 100000 in
theorem T16_op16 {B : Nat} {l : List Int} {a0 K : Nat} {w0 wX : World} {RT : Nat} {n : Int} {Av : Option Addr} {cv : Nat} {L : List St} {V : Nat → Option Value} {w : World} {a : Act} {KK : Act → World → Prop} {Q : Exit → Act → World → Prop} {ty : TypeId} {pp : String} {af : Array Edge} {gg : Option (Nat × Bool)} (HL : BytesOk l) (ha : a0 + K ≤ 4611686018427380000) (hB : B < w0.heap.size) (hWX : w0.heap.size ≤ wX.heap.size) (hRT : RT < wX.heap.size) (hnb : n ≤ 100) (h : T16 B l a0 K w0 wX RT n Av cv L V w) (d : DT16 V) (hi : V 16 = none) (E52 : ∀ v, V 0 = some v → a.eval (.tmp 52) = v) (E67 : ∀ v, V 15 = some v → a.eval (.tmp 67) = v) (p0 : (V 0).isSome = true) (p15 : (V 15).isSome = true) (p14 : (V 14).isSome = true) (hK : ∀ v w', T16 B l a0 K w0 wX RT n Av cv L (updV V 16 v) w' → KK (a.put (some 68) v) w') : Oper.wp Tryz.prog { dst := some 68, op := .call { callee := .value (.func 154), args := #[.tmp 52, .tmp 67], argTypes := #[47, 144] }, type := ty, pos := pp, after := af, guard := gg } a w KK Q := by
  obtain ⟨v0, hv0⟩ := some_of p0
  have e52 := E52 v0 hv0
  rw [h.r0 v0 hv0] at e52
  obtain ⟨v15, hv15⟩ := some_of p15
  have e67 := E67 v15 hv15
  obtain ⟨f15, t15, s15, q15⟩ := h.r15 v15 hv15
  rw [q15] at e67
  obtain ⟨k9, hk9, hst⟩ := h.any
  have hown := hst.2.1
  clear hst
  unfold Oper.wp execOp
  go_simp
  rw [ev_get e52, ev_get e67]
  refine (addStreet_c n _ L f15 t15 s15 w w0.heap.size hown).mono ?_
  rintro e w2 ⟨n', v', L', b', rfl, hn', ho', hl', hb⟩
  obtain ⟨A', c', rfl, -⟩ := own_rd ho'
  exact hK _ _ (T16_16 h d hi p0 p15 p14 hWX hRT w2 hb _ ⟨n', A', c', L', b', rfl, hn', own_base ho' (Nat.le_trans hWX h.sz), hl'⟩)
set_option maxRecDepth 100000 in
theorem T16_op17 {B : Nat} {l : List Int} {a0 K : Nat} {w0 wX : World} {RT : Nat} {n : Int} {Av : Option Addr} {cv : Nat} {L : List St} {V : Nat → Option Value} {w : World} {a : Act} {KK : Act → World → Prop} {Q : Exit → Act → World → Prop} {ty : TypeId} {pp : String} {af : Array Edge} {gg : Option (Nat × Bool)} (HL : BytesOk l) (ha : a0 + K ≤ 4611686018427380000) (hB : B < w0.heap.size) (hWX : w0.heap.size ≤ wX.heap.size) (hRT : RT < wX.heap.size) (hnb : n ≤ 100) (h : T16 B l a0 K w0 wX RT n Av cv L V w) (d : DT16 V) (hi : V 17 = none) (E68 : ∀ v, V 16 = some v → a.eval (.tmp 68) = v) (p16 : (V 16).isSome = true) (hK : ∀ v w', T16 B l a0 K w0 wX RT n Av cv L (updV V 17 v) w' → KK (a.put (some 51) v) w') : Oper.wp Tryz.prog { dst := some 51, op := .move (.tmp 68), type := ty, pos := pp, after := af, guard := gg } a w KK Q := by
  obtain ⟨v16, hv16⟩ := some_of p16
  have e68 := E68 v16 hv16
  unfold Oper.wp execOp
  simp only [List.map_toArray, List.map_cons, List.map_nil, List.size_toArray, e68]
  go_simp
  exact hK _ _ (T16_17 h d hi p16 hWX hRT _ ((updV_ne (by decide)).trans hv16))
set_option maxRecDepth 100000 in
theorem T16_op18 {B : Nat} {l : List Int} {a0 K : Nat} {w0 wX : World} {RT : Nat} {n : Int} {Av : Option Addr} {cv : Nat} {L : List St} {V : Nat → Option Value} {w : World} {a : Act} {KK : Act → World → Prop} {Q : Exit → Act → World → Prop} {ty : TypeId} {pp : String} {af : Array Edge} {gg : Option (Nat × Bool)} (HL : BytesOk l) (ha : a0 + K ≤ 4611686018427380000) (hB : B < w0.heap.size) (hWX : w0.heap.size ≤ wX.heap.size) (hRT : RT < wX.heap.size) (hnb : n ≤ 100) (h : T16 B l a0 K w0 wX RT n Av cv L V w) (d : DT16 V) (hi : V 18 = none) (E51 : ∀ v, V 17 = some v → a.eval (.tmp 51) = v) (p17 : (V 17).isSome = true) (hK : ∀ v w', T16 B l a0 K w0 wX RT n Av cv L (updV V 18 v) w' → KK (a.put (some 69) v) w') : Oper.wp Tryz.prog { dst := some 69, op := .extract (.tmp 51) 0, type := ty, pos := pp, after := af, guard := gg } a w KK Q := by
  obtain ⟨v17, hv17⟩ := some_of p17
  have e51 := E51 v17 hv17
  have hv16 := h.r17 v17 hv17
  obtain ⟨n', A', c', L', b', q, -⟩ := h.r16 v17 hv16
  rw [q] at e51 hv16
  unfold Oper.wp execOp
  simp only [List.map_toArray, List.map_cons, List.map_nil, List.size_toArray, e51]
  go_simp
  exact hK _ _ (T16_18 h d hi p17 hWX hRT _ ⟨_, (updV_ne (by decide)).trans hv16⟩)
set_option maxRecDepth 100000 in
theorem T16_op19 {B : Nat} {l : List Int} {a0 K : Nat} {w0 wX : World} {RT : Nat} {n : Int} {Av : Option Addr} {cv : Nat} {L : List St} {V : Nat → Option Value} {w : World} {a : Act} {KK : Act → World → Prop} {Q : Exit → Act → World → Prop} {ty : TypeId} {pp : String} {af : Array Edge} {gg : Option (Nat × Bool)} (HL : BytesOk l) (ha : a0 + K ≤ 4611686018427380000) (hB : B < w0.heap.size) (hWX : w0.heap.size ≤ wX.heap.size) (hRT : RT < wX.heap.size) (hnb : n ≤ 100) (h : T16 B l a0 K w0 wX RT n Av cv L V w) (d : DT16 V) (hi : V 19 = none) (E51 : ∀ v, V 17 = some v → a.eval (.tmp 51) = v) (p17 : (V 17).isSome = true) (hK : ∀ v w', T16 B l a0 K w0 wX RT n Av cv L (updV V 19 v) w' → KK (a.put (some 70) v) w') : Oper.wp Tryz.prog { dst := some 70, op := .extract (.tmp 51) 1, type := ty, pos := pp, after := af, guard := gg } a w KK Q := by
  obtain ⟨v17, hv17⟩ := some_of p17
  have e51 := E51 v17 hv17
  have hv16 := h.r17 v17 hv17
  obtain ⟨n', A', c', L', b', q, -⟩ := h.r16 v17 hv16
  rw [q] at e51 hv16
  unfold Oper.wp execOp
  simp only [List.map_toArray, List.map_cons, List.map_nil, List.size_toArray, e51]
  go_simp
  exact hK _ _ (T16_19 h d hi p17 hWX hRT _ ⟨_, (updV_ne (by decide)).trans hv16⟩)
set_option maxRecDepth 100000 in
theorem T16_op20 {B : Nat} {l : List Int} {a0 K : Nat} {w0 wX : World} {RT : Nat} {n : Int} {Av : Option Addr} {cv : Nat} {L : List St} {V : Nat → Option Value} {w : World} {a : Act} {KK : Act → World → Prop} {Q : Exit → Act → World → Prop} {ty : TypeId} {pp : String} {af : Array Edge} {gg : Option (Nat × Bool)} (HL : BytesOk l) (ha : a0 + K ≤ 4611686018427380000) (hB : B < w0.heap.size) (hWX : w0.heap.size ≤ wX.heap.size) (hRT : RT < wX.heap.size) (hnb : n ≤ 100) (h : T16 B l a0 K w0 wX RT n Av cv L V w) (d : DT16 V) (hi : V 20 = none)  (hK : ∀ v w', T16 B l a0 K w0 wX RT n Av cv L (updV V 20 v) w' → KK (a.put (some 8) v) w') : Oper.wp Tryz.prog { dst := some 8, op := .alloc 47, type := ty, pos := pp, after := af, guard := gg } a w KK Q := by
  unfold Oper.wp execOp
  go_simp
  exact hK _ _ (T16_20 h d hi hWX hRT _ _ ⟨_, rfl, h.sz, fun _ => fresh_new w _ rfl⟩)
set_option maxRecDepth 100000 in
theorem T16_op21 {B : Nat} {l : List Int} {a0 K : Nat} {w0 wX : World} {RT : Nat} {n : Int} {Av : Option Addr} {cv : Nat} {L : List St} {V : Nat → Option Value} {w : World} {a : Act} {KK : Act → World → Prop} {Q : Exit → Act → World → Prop} {ty : TypeId} {pp : String} {af : Array Edge} {gg : Option (Nat × Bool)} (HL : BytesOk l) (ha : a0 + K ≤ 4611686018427380000) (hB : B < w0.heap.size) (hWX : w0.heap.size ≤ wX.heap.size) (hRT : RT < wX.heap.size) (hnb : n ≤ 100) (h : T16 B l a0 K w0 wX RT n Av cv L V w) (d : DT16 V) (hi : V 21 = none) (E8 : ∀ v, V 20 = some v → a.eval (.tmp 8) = v) (E69 : ∀ v, V 18 = some v → a.eval (.tmp 69) = v) (p18 : (V 18).isSome = true) (p20 : (V 20).isSome = true) (hK : ∀ v w', T16 B l a0 K w0 wX RT n Av cv L (updV V 21 v) w' → KK (a.put (none) v) w') : Oper.wp Tryz.prog { dst := none, op := .store 47 (.tmp 8) (.tmp 69), type := ty, pos := pp, after := af, guard := gg } a w KK Q := by
  obtain ⟨v20, hv20⟩ := some_of p20
  have e8 := E8 v20 hv20
  obtain ⟨v18, hv18⟩ := some_of p18
  have e69 := E69 v18 hv18
  obtain ⟨R, q20, hR, hf⟩ := h.r20 v20 hv20
  obtain ⟨bb, hv12⟩ := h.r18 v18 hv18
  obtain ⟨n', A', c', L', b', q, -⟩ := h.r16 _ hv12
  injection q with q
  have q2 : #[v18, bb].toList = [.agg #[.int .i64 n', .slice A' L'.length c'], .bool b'] := by rw [q]
  simp only [List.cons.injEq, and_true] at q2
  obtain ⟨q3, q4⟩ := q2
  rw [q3] at hv12 e69
  rw [q20] at e8 hv20
  have hf := hf hi
  have z0 := fresh_c0 hf
  have z1 := fresh_c1 hf
  have f0 := fresh_f hf 0
  have f1 := fresh_f hf 1
  unfold Oper.wp execOp
  simp only [List.map_toArray, List.map_cons, List.map_nil, List.size_toArray, e8, e69]
  go_simp
  refine hK undef _ (T16_21 h d hi p18 p20 hWX hRT _ (fun R2 hR2 => ?_) hB _ ?_)
  · rw [hv20] at hR2
    injection hR2 with e
    injection e with e
    injection e with e
    injection e with e
    subst e
    exact only_setCell (only_setCell (World.grownBy.refl _ _) 0 _) 1 _
  · exact ⟨R, n', A', c', L'.length, bb, (updV_ne (by decide)).trans hv20, (updV_ne (by decide)).trans hv12, by simp [go_sem, z0], by simp [go_sem, z1]⟩
set_option maxRecDepth 100000 in
theorem T16_op22 {B : Nat} {l : List Int} {a0 K : Nat} {w0 wX : World} {RT : Nat} {n : Int} {Av : Option Addr} {cv : Nat} {L : List St} {V : Nat → Option Value} {w : World} {a : Act} {KK : Act → World → Prop} {Q : Exit → Act → World → Prop} {ty : TypeId} {pp : String} {af : Array Edge} {gg : Option (Nat × Bool)} (HL : BytesOk l) (ha : a0 + K ≤ 4611686018427380000) (hB : B < w0.heap.size) (hWX : w0.heap.size ≤ wX.heap.size) (hRT : RT < wX.heap.size) (hnb : n ≤ 100) (h : T16 B l a0 K w0 wX RT n Av cv L V w) (d : DT16 V) (hi : V 22 = none) (E70 : ∀ v, V 19 = some v → a.eval (.tmp 70) = v) (p19 : (V 19).isSome = true) (hK : ∀ v w', T16 B l a0 K w0 wX RT n Av cv L (updV V 22 v) w' → KK (a.put (some 9) v) w') : Oper.wp Tryz.prog { dst := some 9, op := .assign (.tmp 70), type := ty, pos := pp, after := af, guard := gg } a w KK Q := by
  obtain ⟨v19, hv19⟩ := some_of p19
  have e70 := E70 v19 hv19
  unfold Oper.wp execOp
  simp only [List.map_toArray, List.map_cons, List.map_nil, List.size_toArray, e70]
  go_simp
  exact hK _ _ (T16_22 h d hi p19 hWX hRT _ ((updV_ne (by decide)).trans hv19))
theorem T16_end {B : Nat} {l : List Int} {a0 K : Nat} {w0 wX : World} {RT : Nat} {n : Int} {Av : Option Addr} {cv : Nat} {L : List St} {V : Nat → Option Value} {w : World} (h : T16 B l a0 K w0 wX RT n Av cv L V w) (hall : ∀ i, i < 23 → (V i).isSome = true) :
    ∃ (R : Nat) (b : Bool), V 20 = some (.pointer (some ⟨R, 0, none⟩)) ∧ V 22 = some (.bool b) ∧ NextSt B l a0 (K + 8) w0 RT n (.slice Av L.length cv) L (.pointer (some ⟨R, 0, none⟩)) (.bool b) w := by
  obtain ⟨v1, h1⟩ := some_of (hall 21 (by decide))
  obtain ⟨v2, h2⟩ := some_of (hall 16 (by decide))
  obtain ⟨v3, h3⟩ := some_of (hall 19 (by decide))
  obtain ⟨v4, h4⟩ := some_of (hall 22 (by decide))
  obtain ⟨R, n1, A1, c1, m1, bb, e16, e12, z0, z1⟩ := h.r21 v1 h1
  obtain ⟨n', A', c', L', b', q12, hnn, ho', hl'⟩ := h.r16 v2 h2
  obtain ⟨pp, e3⟩ := h.r19 v3 h3
  have e4 := h.r22 v4 h4
  rw [h3] at e4
  rw [h2] at e12 e3
  have e12 := Option.some.inj e12
  have e3 := Option.some.inj e3
  have e4 := Option.some.inj e4
  rw [q12] at e12 e3
  injection e12 with e12
  injection e3 with e3
  have q1 := congrArg Array.toList e12
  have q2 := congrArg Array.toList e3
  simp only [List.cons.injEq, Value.agg.injEq, Array.mk.injEq, and_true] at q1 q2
  simp only [Value.int.injEq, Value.slice.injEq, true_and] at q1
  obtain ⟨⟨qa, qb, qc, qd⟩, -⟩ := q1
  subst qa; subst qb; subst qc; subst qd
  have hst := h.s4 (hall 14 (by decide))
  exact ⟨R, b', e16, by rw [h4, ← e4, ← q2.2], R, n', _, L', b', rfl, rfl, hnn, z0, z1, ho', hl', hst⟩
end Go.Proofs.YthgegghdkoeofaaGreatDoor

namespace Go.Proofs.YthgegghdkoeofaaGreatDoor
set_option linter.unusedVariables false
set_option linter.unusedSimpArgs false
open Go.RowKit

set_option maxRecDepth 100000 in
set_option maxHeartbeats 4000000 in
theorem town_c (B : Nat) (l : List Int) (hl : BytesOk l) (a : Nat) (ha : a ≤ 4611686018427350000) (w : World) (hc : CurAt B l a w) :
    Calls Tryz.prog 128 #[.pointer (some ⟨B, 0, none⟩)] w fun e w' => ∃ (n : Int) (v : Value) (L : List St), e = .returned (.agg #[.int .i64 n, v]) ∧ w'.ownsRow w.heap.size 144 3 v L.length (L.flatMap St.cells) ∧ L.length ≤ 40 ∧ 1 ≤ n ∧ n ≤ 14 ∧ Drew B l a 4000 w w' := by
  have HL := Lib.hid hl
  have HD := Lib.hid (Drew.refl hc 0)
  have hBb : B < w.heap.size := hc.lt
  clear hc hl
  go_enter Tryz.func128, Tryz.ntmps128
  go_upto_region 1 with fail
  generalize hW : World.alloc w _ = W0
  have hf0 : FreshT W0 w.heap.size := by subst hW; exact fresh_new w _ rfl
  have hb0 : Below w.heap.size w W0 := by subst hW; exact bel_al (Below.refl _ _) _
  have hs0 : w.heap.size < W0.heap.size := by subst hW; simp
  have HD := Lib.hid (HD.out.bel hb0)
  have HF := Lib.hid hf0
  clear hW hf0 hb0
  go_wp2_with fail
  refine (pick_c B l HL.out (a + 0) (by omega) 8 (by omega) _ HD.out.1).mono ?_; rintro e W1 ⟨x, rfl, hx, hd⟩
  have HD := Lib.hid (HD.out.trans hd)
  have HF := Lib.hid (own_draw HF.out hd.2 hBb : FreshT W1 w.heap.size)
  have hs1 := hd.2.size
  have s1 : IntKind.i64.wrap (1 + (x : Int)) = ((1 + x : Nat) : Int) := by rw [IntWalk.i64_in _ (by omega)]; omega
  obtain ⟨N, hN⟩ : ∃ N : Nat, 1 + x = N := ⟨_, rfl⟩
  have hN1 : 1 ≤ N := by omega
  have hN2 : N ≤ 8 := by omega
  rw [hN] at s1
  clear hd hN hx
  go_upto_region 2 with fail
  clear s1
  generalize hW : World.alloc W1 _ = W2
  have ht : W2.ownsRow w.heap.size 47 2 (.slice (some ⟨W1.heap.size, 0, none⟩) 1 1) 1 [.int .i64 N, .slice none 0 0] := by subst hW; exact own_base (row_new W1 _ _ 1 2 rfl (by omega) (by omega)) (by omega)
  have hbl : Below W1.heap.size W1 W2 := by subst hW; exact bel_al (Below.refl _ _) _
  have hs2 : W1.heap.size < W2.heap.size := by subst hW; simp
  obtain ⟨RT, hRT⟩ : ∃ RT, W1.heap.size = RT := ⟨_, rfl⟩
  rw [hRT] at ht hs2 ⊢
  have HST : Hid (TownSt B l a 2 w RT N (.slice none 0 0) [] W2) := Lib.hid ⟨ht, World.ownsRow_nil _ _ _ _, by simp, own_below HF.out hbl, HD.out.bel hbl, by omega, hs2⟩
  clear hW ht hbl hs2 HD HF hs0 hs1 hRT
  go_wp2_with fail
  refine (one_c B l HL.out (a + 2) (by omega) 12 (by omega) _ HST.out.2.2.2.2.1.1).mono ?_; rintro e W3 ⟨b, rfl, hd⟩
  have HST := Lib.hid (town_drew HST.out hd hBb)
  clear hd
  go_upto_if 15 with fail
  go_cut [15] from 16 to 16 (fun v wx => ∃ M : Nat, 1 ≤ M ∧ M ≤ 14 ∧ TownSt B l a 4 w RT M (.slice none 0 0) [] wx)
  case first =>
    have t0 := HST.out.1.cellAt 0 (by omega)
    have f0 := HST.out.1.frozenAt 0
    dsimp only [List.getElem?_cons_zero, List.getElem?_cons_succ] at t0
    cases b
    · go_wp2_with fail
      go_meet
      exact ⟨N, hN1, by omega, HST.out⟩
    · go_wp2_with fail
      go_meet
      refine ⟨14, by omega, by omega, ?_⟩
      obtain ⟨h1, h2, h3, h4, h5, h6, h7⟩ := HST.out
      have hg : W3.grownBy (W3.setCell ⟨RT, 0, none⟩ (.int .i64 14)) (some RT) := only_setCell (World.grownBy.refl _ _) 0 _
      exact ⟨own_put [_] W3 _ 0 h1, World.ownsRow_nil _ _ _ _, h3, h4.kept hg (.inr (fun e => by have : w.heap.size = RT := Option.some.inj e; omega)), h5.own hg (by omega) hBb, h6, by simpa using h7⟩
  case rest => as_aux_lemma =>
    obtain ⟨M, hM1, hM2, hst⟩ := hcut
    have HST := Lib.hid hst
    clear hst hN1 hN2
    go_wp2_with fail
    go_loopw [4] (fun vi wr => ∃ (k : Nat) (Av : Option Addr) (cv : Nat) (L : List St), 1 ≤ k ∧ k ≤ M ∧ vi = .int .i64 k ∧ Hid (TownSt B l a (4 + 10 * k) w RT M (.slice Av L.length cv) L wr)) (fun vi _ => M - (intOf vi).toNat)
    case atStart => exact ⟨1, none, 0, [], Nat.le_refl _, hM1, rfl, Lib.hid (town_more HST.out (by omega))⟩
    case round =>
      obtain ⟨k, Av, cv, L, hk1, hkM, rfl, HSTL⟩ := hrel
      obtain ⟨wA, rfl⟩ : ∃ wA : World, wA = wr := ⟨_, rfl⟩
      obtain ⟨n, hn⟩ : ∃ n : Int, (M : Int) = n := ⟨_, rfl⟩
      obtain ⟨K, hK⟩ : ∃ K : Nat, 4 + 10 * k = K := ⟨_, rfl⟩
      have hK2 : K ≤ 200 := by omega
      rw [hn, hK] at HSTL
      have HN := Lib.hid hn
      clear HST
      have HST := HSTL
      clear HSTL
      have t0 := HST.out.1.cellAt 0 (by omega)
      dsimp only [List.getElem?_cons_zero, List.getElem?_cons_succ] at t0
      by_cases hlt : k < M
      · have hlt2 : (k : Int) < n := by omega
        have hkb : k ≤ 100 := by omega
        have hKK : 4 + 10 * k ≤ K := by omega
        have hKL : K ≤ 4 + 10 * k := by omega
        clear hn hK
        go_wp2_with fail
        refine (one_c B l HL.out (a + K) (by omega) 20 (by omega) _ HST.out.2.2.2.2.1.1).mono ?_; rintro e W3 ⟨b, rfl, hd⟩
        have HST := Lib.hid (town_drew HST.out hd hBb)
        clear hd t0
        cases b
        case true =>
          go_wp2
          exact ⟨⟨k + 1, Av, cv, L, by omega, by omega, by go_num, Lib.hid (by rw [HN.out]; exact town_more HST.out (by omega))⟩, by simp [intOf]; omega⟩
        case false =>
          obtain ⟨wX, rfl⟩ : ∃ x : World, x = W3 := ⟨_, rfl⟩
          go_upto_region 8 with fail
          go_cut [5, 6] from 26 to 40 (fun p o wx => NextSt B l a (K + 2 + 6) w RT n (.slice Av L.length cv) L p o wx)
          case first =>
            have hwX := HST.out.2.2.2.2.1.2.size
            have hRTx := HST.out.2.2.2.2.2.2
            have ha9 : a + (K + 2) ≤ 4611686018427380000 := by omega
            refine wp_region_inv2 (by kernel_rfl) (by kernel_rfl) (by kernel_rfl) (fun V w' => T8 B l a (K + 2) w wX RT n Av cv L k V w') (T8_start HST.out) ?_ ?_
            · intro V w' hI hcl i o ho hi19 hVi hp a9 hin hout KK hKK
              have D : DT8 V := ⟨fun h => wait_some (by kernel_rfl) (hcl 3 h), fun h => wait_some (by kernel_rfl) (hcl 3 h), fun h => wait_some (by kernel_rfl) (hcl 7 h), fun h => wait_some (by kernel_rfl) (hcl 7 h), fun h => wait_some (by kernel_rfl) (hcl 8 h), fun h => wait_some (by kernel_rfl) (hcl 9 h), fun h => wait_some (by kernel_rfl) (hcl 10 h), fun h => wait_some (by kernel_rfl) (hcl 10 h), fun h => wait_some (by kernel_rfl) (hcl 10 h), fun h => wait_some (by kernel_rfl) (hcl 11 h), fun h => wait_some (by kernel_rfl) (hcl 11 h), fun h => wait_some (by kernel_rfl) (hcl 11 h), fun h => wait_some (by kernel_rfl) (hcl 12 h), fun h => wait_some (by kernel_rfl) (hcl 12 h), fun h => wait_some (by kernel_rfl) (hcl 12 h), fun h => wait_some (by kernel_rfl) (hcl 13 h), fun h => wait_some (by kernel_rfl) (hcl 14 h), fun h => wait_some (by kernel_rfl) (hcl 15 h), fun h => wait_some (by kernel_rfl) (hcl 17 h), fun h => wait_some (by kernel_rfl) (hcl 17 h), fun h => wait_some (by kernel_rfl) (hcl 18 h)⟩
              have hi19 : i < 19 := hi19
              obtain rfl | rfl | rfl | rfl | rfl | rfl | rfl | rfl | rfl | rfl | rfl | rfl | rfl | rfl | rfl | rfl | rfl | rfl | rfl : i = 0 ∨ i = 1 ∨ i = 2 ∨ i = 3 ∨ i = 4 ∨ i = 5 ∨ i = 6 ∨ i = 7 ∨ i = 8 ∨ i = 9 ∨ i = 10 ∨ i = 11 ∨ i = 12 ∨ i = 13 ∨ i = 14 ∨ i = 15 ∨ i = 16 ∨ i = 17 ∨ i = 18 := by omega
              · obtain rfl := Option.some.inj ho
                exact T8_op0 HL.out ha9 hBb hwX hRTx hkb hI D hVi ((hout 3 (by kernel_rfl)).trans rfl) hKK
              · obtain rfl := Option.some.inj ho
                exact T8_op1 HL.out ha9 hBb hwX hRTx hkb hI D hVi ((hout 0 (by kernel_rfl)).trans rfl) hKK
              · obtain rfl := Option.some.inj ho
                exact T8_op2 HL.out ha9 hBb hwX hRTx hkb hI D hVi ((hout 4 (by kernel_rfl)).trans rfl) hKK
              · obtain rfl := Option.some.inj ho
                exact T8_op3 HL.out ha9 hBb hwX hRTx hkb hI D hVi (fun v hv => hin 1 27 v (by kernel_rfl) (by decide) (by simp) hv) (fun v hv => hin 2 28 v (by kernel_rfl) (by decide) (by simp) hv) (wait_some (by kernel_rfl) hp) (wait_some (by kernel_rfl) hp) hKK
              · obtain rfl := Option.some.inj ho
                exact T8_op4 HL.out ha9 hBb hwX hRTx hkb hI D hVi ((hout 4 (by kernel_rfl)).trans rfl) hKK
              · obtain rfl := Option.some.inj ho
                exact T8_op5 HL.out ha9 hBb hwX hRTx hkb hI D hVi ((hout 0 (by kernel_rfl)).trans rfl) hKK
              · obtain rfl := Option.some.inj ho
                exact T8_op6 HL.out ha9 hBb hwX hRTx hkb hI D hVi ((hout 0 (by kernel_rfl)).trans rfl) hKK
              · obtain rfl := Option.some.inj ho
                exact T8_op7 HL.out ha9 hBb hwX hRTx hkb hI D hVi (fun v hv => hin 6 32 v (by kernel_rfl) (by decide) (by simp) hv) (wait_some (by kernel_rfl) hp) (wait_some (by kernel_rfl) hp) hKK
              · obtain rfl := Option.some.inj ho
                exact T8_op8 HL.out ha9 hBb hwX hRTx hkb hI D hVi (fun v hv => hin 7 33 v (by kernel_rfl) (by decide) (by simp) hv) (wait_some (by kernel_rfl) hp) hKK
              · obtain rfl := Option.some.inj ho
                exact T8_op9 HL.out ha9 hBb hwX hRTx hkb hI D hVi (fun v hv => hin 8 34 v (by kernel_rfl) (by decide) (by simp) hv) (wait_some (by kernel_rfl) hp) hKK
              · obtain rfl := Option.some.inj ho
                exact T8_op10 HL.out ha9 hBb hwX hRTx hkb hI D hVi (fun v hv => hin 5 31 v (by kernel_rfl) (by decide) (by simp) hv) (fun v hv => hin 9 35 v (by kernel_rfl) (by decide) (by simp) hv) (wait_some (by kernel_rfl) hp) (wait_some (by kernel_rfl) hp) (wait_some (by kernel_rfl) hp) hKK
              · obtain rfl := Option.some.inj ho
                exact T8_op11 HL.out ha9 hBb hwX hRTx hkb hI D hVi (fun v hv => hin 3 29 v (by kernel_rfl) (by decide) (by simp) hv) (fun v hv => hin 4 30 v (by kernel_rfl) (by decide) (by simp) hv) (fun v hv => hin 10 36 v (by kernel_rfl) (by decide) (by simp) hv) (wait_some (by kernel_rfl) hp) (wait_some (by kernel_rfl) hp) (wait_some (by kernel_rfl) hp) hKK
              · obtain rfl := Option.some.inj ho
                exact T8_op12 HL.out ha9 hBb hwX hRTx hkb hI D hVi (fun v hv => hin 0 26 v (by kernel_rfl) (by decide) (by simp) hv) (fun v hv => hin 11 37 v (by kernel_rfl) (by decide) (by simp) hv) (wait_some (by kernel_rfl) hp) (wait_some (by kernel_rfl) hp) (wait_some (by kernel_rfl) hp) hKK
              · obtain rfl := Option.some.inj ho
                exact T8_op13 HL.out ha9 hBb hwX hRTx hkb hI D hVi (fun v hv => hin 12 38 v (by kernel_rfl) (by decide) (by simp) hv) (wait_some (by kernel_rfl) hp) hKK
              · obtain rfl := Option.some.inj ho
                exact T8_op14 HL.out ha9 hBb hwX hRTx hkb hI D hVi (fun v hv => hin 13 25 v (by kernel_rfl) (by decide) (by simp) hv) (wait_some (by kernel_rfl) hp) hKK
              · obtain rfl := Option.some.inj ho
                exact T8_op15 HL.out ha9 hBb hwX hRTx hkb hI D hVi (fun v hv => hin 13 25 v (by kernel_rfl) (by decide) (by simp) hv) (wait_some (by kernel_rfl) hp) hKK
              · obtain rfl := Option.some.inj ho
                exact T8_op16 HL.out ha9 hBb hwX hRTx hkb hI D hVi  hKK
              · obtain rfl := Option.some.inj ho
                exact T8_op17 HL.out ha9 hBb hwX hRTx hkb hI D hVi (fun v hv => hin 16 5 v (by kernel_rfl) (by decide) (by simp) hv) (fun v hv => hin 14 39 v (by kernel_rfl) (by decide) (by simp) hv) (wait_some (by kernel_rfl) hp) (wait_some (by kernel_rfl) hp) hKK
              · obtain rfl := Option.some.inj ho
                exact T8_op18 HL.out ha9 hBb hwX hRTx hkb hI D hVi (fun v hv => hin 15 40 v (by kernel_rfl) (by decide) (by simp) hv) (wait_some (by kernel_rfl) hp) hKK
            · intro V w' hI hall
              obtain ⟨v0, h0⟩ := some_of (hall 0 (by decide))
              obtain ⟨v1, h1⟩ := some_of (hall 1 (by decide))
              obtain ⟨v2, h2⟩ := some_of (hall 2 (by decide))
              obtain ⟨v3, h3⟩ := some_of (hall 3 (by decide))
              obtain ⟨v4, h4⟩ := some_of (hall 4 (by decide))
              obtain ⟨v5, h5⟩ := some_of (hall 5 (by decide))
              obtain ⟨v6, h6⟩ := some_of (hall 6 (by decide))
              obtain ⟨v7, h7⟩ := some_of (hall 7 (by decide))
              obtain ⟨v8, h8⟩ := some_of (hall 8 (by decide))
              obtain ⟨v9, h9⟩ := some_of (hall 9 (by decide))
              obtain ⟨v10, h10⟩ := some_of (hall 10 (by decide))
              obtain ⟨v11, h11⟩ := some_of (hall 11 (by decide))
              obtain ⟨v12, h12⟩ := some_of (hall 12 (by decide))
              obtain ⟨v13, h13⟩ := some_of (hall 13 (by decide))
              obtain ⟨v14, h14⟩ := some_of (hall 14 (by decide))
              obtain ⟨v15, h15⟩ := some_of (hall 15 (by decide))
              obtain ⟨v17, h17⟩ := some_of (hall 17 (by decide))
              obtain ⟨R, b', h16, h18, hN⟩ := T8_end hI (fun i hi => hall i hi)
              show Exit.then _ _ Exit.normal (putsTo _ V 19 _) _
              simp only [putsTo, h0, h1, h2, h3, h4, h5, h6, h7, h8, h9, h10, h11, h12, h13, h14, h15, h16, h17, h18, dstAt, List.getElem?_toArray, List.getElem?_cons_zero, List.getElem?_cons_succ, Option.bind_some, Act.put, List.setIfInBounds_toArray, List.set_cons_zero, List.set_cons_succ]
              go_wp2_with fail
              go_meet
              exact hN
          case rest => as_aux_lemma =>
            obtain ⟨R, n', v', L', b', rfl, rfl, hnn, c0, c1, ho', hl', hst⟩ := hcut
            obtain ⟨A', c', rfl, -⟩ := own_rd ho'
            have HST2 := Lib.hid hst
            have HO := Lib.hid ho'
            have szT := hst.2.2.2.2.2.2
            clear hst ho'
            cases b'
            · clear hnn
              go_wp2
              exact ⟨⟨k + 1, Av, cv, L, by omega, by omega, by go_num, Lib.hid (by rw [HN.out]; exact town_more HST2.out (by omega))⟩, by simp [intOf]; omega⟩
            · obtain rfl : n = n' := (hnn rfl).symm
              have t0 := HST2.out.1.cellAt 0 (by omega)
              have t1 := HST2.out.1.cellAt 1 (by omega)
              have f0 := HST2.out.1.frozenAt 0
              have f1 := HST2.out.1.frozenAt 1
              dsimp only [List.getElem?_cons_zero, List.getElem?_cons_succ] at t0 t1
              clear hnn
              go_wp2
              exact ⟨⟨k + 1, A', c', L', by omega, by omega, by go_num, Lib.hid (by rw [HN.out]; exact town_more (town_next HST2.out HO.out hl' hBb) (by omega))⟩, by simp [intOf]; omega⟩
      · obtain rfl : k = M := by omega
        have hn1 : 1 ≤ n := by omega
        have hn2 : n ≤ 14 := by omega
        replace HST := Lib.hid (town_more HST.out (show K ≤ 150 by omega))
        have hlt2 : n ≤ (k : Int) := by omega
        clear hn hK hK2 hlt HN
        go_wp2_with fail
        clear t0 hlt2
        refine (pick_c B l HL.out (a + 150) (by omega) 6 (by omega) _ HST.out.2.2.2.2.1.1).mono ?_; rintro e W4 ⟨x, rfl, hx, hd⟩
        replace HST := Lib.hid (town_drew HST.out hd hBb)
        clear hd
        go_wp2_with fail
        refine (one_c B l HL.out (a + 152) (by omega) 16 (by omega) _ HST.out.2.2.2.2.1.1).mono ?_; rintro e W5 ⟨b, rfl, hd⟩
        replace HST := Lib.hid (town_drew HST.out hd hBb)
        clear hd
        go_upto_if 46 with fail
        go_cut [7] from 47 to 47 (fun v wx => ∃ X : Nat, X ≤ 200 ∧ v = .int .i64 X ∧ TownSt B l a 154 w RT n (.slice Av L.length cv) L wx)
        case first =>
          cases b
          · go_wp2_with fail
            go_meet
            exact ⟨x, by omega, rfl, HST.out⟩
          · go_wp2_with fail
            go_meet
            exact ⟨200, by omega, rfl, HST.out⟩
        case rest => as_aux_lemma =>
          obtain ⟨X, hX, rfl, hst⟩ := hcut
          clear HST
          have HST := Lib.hid hst
          clear hst hx
          go_wp2_with fail
          go_loopw [7] (fun vi wr => ∃ (k j : Nat) (Av : Option Addr) (cv : Nat) (L : List St), j + k = X ∧ vi = .int .i64 k ∧ Hid (TownSt B l a (154 + 10 * j) w RT n (.slice Av L.length cv) L wr)) (fun vi _ => (intOf vi).toNat)
          case atStart => exact ⟨X, 0, Av, cv, L, by omega, rfl, HST⟩
          case round =>
            clear HST
            obtain ⟨k, j, Av, cv, L, hjk, rfl, HST⟩ := hrel
            obtain ⟨wX, rfl⟩ : ∃ wA : World, wA = wr := ⟨_, rfl⟩
            obtain ⟨K, hK⟩ : ∃ K : Nat, 154 + 10 * j = K := ⟨_, rfl⟩
            have hK2 : K ≤ 2200 := by omega
            have hKK : 154 + 10 * j ≤ K := by omega
            have hKL : K ≤ 154 + 10 * j := by omega
            rw [hK] at HST
            clear hK
            by_cases hlt : 0 < k
            · have hlt2 : (0 : Int) < (k : Int) := by omega
              have hnb : n ≤ 100 := by omega
              go_upto_region 16 with fail
              go_cut [8, 9] from 52 to 70 (fun p o wx => NextSt B l a (K + 8) w RT n (.slice Av L.length cv) L p o wx)
              case first =>
                have hwX := HST.out.2.2.2.2.1.2.size
                have hRTx := HST.out.2.2.2.2.2.2
                have ha9 : a + K ≤ 4611686018427380000 := by omega
                refine wp_region_inv2 (by kernel_rfl) (by kernel_rfl) (by kernel_rfl) (fun V w' => T16 B l a K w wX RT n Av cv L V w') (T16_start HST.out) ?_ ?_
                · intro V w' hI hcl i o ho hi19 hVi hp a9 hin hout KK hKK
                  have D : DT16 V := ⟨fun h => wait_some (by kernel_rfl) (hcl 3 h), fun h => wait_some (by kernel_rfl) (hcl 4 h), fun h => wait_some (by kernel_rfl) (hcl 4 h), fun h => wait_some (by kernel_rfl) (hcl 7 h), fun h => wait_some (by kernel_rfl) (hcl 8 h), fun h => wait_some (by kernel_rfl) (hcl 8 h), fun h => wait_some (by kernel_rfl) (hcl 8 h), fun h => wait_some (by kernel_rfl) (hcl 11 h), fun h => wait_some (by kernel_rfl) (hcl 11 h), fun h => wait_some (by kernel_rfl) (hcl 12 h), fun h => wait_some (by kernel_rfl) (hcl 13 h), fun h => wait_some (by kernel_rfl) (hcl 14 h), fun h => wait_some (by kernel_rfl) (hcl 14 h), fun h => wait_some (by kernel_rfl) (hcl 14 h), fun h => wait_some (by kernel_rfl) (hcl 15 h), fun h => wait_some (by kernel_rfl) (hcl 15 h), fun h => wait_some (by kernel_rfl) (hcl 15 h), fun h => wait_some (by kernel_rfl) (hcl 16 h), fun h => wait_some (by kernel_rfl) (hcl 16 h), fun h => wait_some (by kernel_rfl) (hcl 16 h), fun h => wait_some (by kernel_rfl) (hcl 17 h), fun h => wait_some (by kernel_rfl) (hcl 18 h), fun h => wait_some (by kernel_rfl) (hcl 19 h), fun h => wait_some (by kernel_rfl) (hcl 21 h), fun h => wait_some (by kernel_rfl) (hcl 21 h), fun h => wait_some (by kernel_rfl) (hcl 22 h)⟩
                  have hi19 : i < 23 := hi19
                  obtain rfl | rfl | rfl | rfl | rfl | rfl | rfl | rfl | rfl | rfl | rfl | rfl | rfl | rfl | rfl | rfl | rfl | rfl | rfl | rfl | rfl | rfl | rfl : i = 0 ∨ i = 1 ∨ i = 2 ∨ i = 3 ∨ i = 4 ∨ i = 5 ∨ i = 6 ∨ i = 7 ∨ i = 8 ∨ i = 9 ∨ i = 10 ∨ i = 11 ∨ i = 12 ∨ i = 13 ∨ i = 14 ∨ i = 15 ∨ i = 16 ∨ i = 17 ∨ i = 18 ∨ i = 19 ∨ i = 20 ∨ i = 21 ∨ i = 22 := by omega
                  · obtain rfl := Option.some.inj ho
                    exact T16_op0 HL.out ha9 hBb hwX hRTx hnb hI D hVi ((hout 3 (by kernel_rfl)).trans rfl) hKK
                  · obtain rfl := Option.some.inj ho
                    exact T16_op1 HL.out ha9 hBb hwX hRTx hnb hI D hVi ((hout 0 (by kernel_rfl)).trans rfl) hKK
                  · obtain rfl := Option.some.inj ho
                    exact T16_op2 HL.out ha9 hBb hwX hRTx hnb hI D hVi ((hout 3 (by kernel_rfl)).trans rfl) hKK
                  · obtain rfl := Option.some.inj ho
                    exact T16_op3 HL.out ha9 hBb hwX hRTx hnb hI D hVi (fun v hv => hin 2 54 v (by kernel_rfl) (by decide) (by simp) hv) (wait_some (by kernel_rfl) hp) hKK
                  · obtain rfl := Option.some.inj ho
                    exact T16_op4 HL.out ha9 hBb hwX hRTx hnb hI D hVi (fun v hv => hin 1 53 v (by kernel_rfl) (by decide) (by simp) hv) (fun v hv => hin 3 55 v (by kernel_rfl) (by decide) (by simp) hv) (wait_some (by kernel_rfl) hp) (wait_some (by kernel_rfl) hp) hKK
                  · obtain rfl := Option.some.inj ho
                    exact T16_op5 HL.out ha9 hBb hwX hRTx hnb hI D hVi ((hout 0 (by kernel_rfl)).trans rfl) hKK
                  · obtain rfl := Option.some.inj ho
                    exact T16_op6 HL.out ha9 hBb hwX hRTx hnb hI D hVi ((hout 3 (by kernel_rfl)).trans rfl) hKK
                  · obtain rfl := Option.some.inj ho
                    exact T16_op7 HL.out ha9 hBb hwX hRTx hnb hI D hVi (fun v hv => hin 6 58 v (by kernel_rfl) (by decide) (by simp) hv) (wait_some (by kernel_rfl) hp) hKK
                  · obtain rfl := Option.some.inj ho
                    exact T16_op8 HL.out ha9 hBb hwX hRTx hnb hI D hVi (fun v hv => hin 5 57 v (by kernel_rfl) (by decide) (by simp) hv) (fun v hv => hin 7 59 v (by kernel_rfl) (by decide) (by simp) hv) (wait_some (by kernel_rfl) hp) (wait_some (by kernel_rfl) hp) (wait_some (by kernel_rfl) hp) hKK
                  · obtain rfl := Option.some.inj ho
                    exact T16_op9 HL.out ha9 hBb hwX hRTx hnb hI D hVi ((hout 0 (by kernel_rfl)).trans rfl) hKK
                  · obtain rfl := Option.some.inj ho
                    exact T16_op10 HL.out ha9 hBb hwX hRTx hnb hI D hVi ((hout 0 (by kernel_rfl)).trans rfl) hKK
                  · obtain rfl := Option.some.inj ho
                    exact T16_op11 HL.out ha9 hBb hwX hRTx hnb hI D hVi (fun v hv => hin 10 62 v (by kernel_rfl) (by decide) (by simp) hv) (wait_some (by kernel_rfl) hp) (wait_some (by kernel_rfl) hp) hKK
                  · obtain rfl := Option.some.inj ho
                    exact T16_op12 HL.out ha9 hBb hwX hRTx hnb hI D hVi (fun v hv => hin 11 63 v (by kernel_rfl) (by decide) (by simp) hv) (wait_some (by kernel_rfl) hp) hKK
                  · obtain rfl := Option.some.inj ho
                    exact T16_op13 HL.out ha9 hBb hwX hRTx hnb hI D hVi (fun v hv => hin 12 64 v (by kernel_rfl) (by decide) (by simp) hv) (wait_some (by kernel_rfl) hp) hKK
                  · obtain rfl := Option.some.inj ho
                    exact T16_op14 HL.out ha9 hBb hwX hRTx hnb hI D hVi (fun v hv => hin 9 61 v (by kernel_rfl) (by decide) (by simp) hv) (fun v hv => hin 13 65 v (by kernel_rfl) (by decide) (by simp) hv) (wait_some (by kernel_rfl) hp) (wait_some (by kernel_rfl) hp) (wait_some (by kernel_rfl) hp) hKK
                  · obtain rfl := Option.some.inj ho
                    exact T16_op15 HL.out ha9 hBb hwX hRTx hnb hI D hVi (fun v hv => hin 4 56 v (by kernel_rfl) (by decide) (by simp) hv) (fun v hv => hin 8 60 v (by kernel_rfl) (by decide) (by simp) hv) (fun v hv => hin 14 66 v (by kernel_rfl) (by decide) (by simp) hv) (wait_some (by kernel_rfl) hp) (wait_some (by kernel_rfl) hp) (wait_some (by kernel_rfl) hp) hKK
                  · obtain rfl := Option.some.inj ho
                    exact T16_op16 HL.out ha9 hBb hwX hRTx hnb hI D hVi (fun v hv => hin 0 52 v (by kernel_rfl) (by decide) (by simp) hv) (fun v hv => hin 15 67 v (by kernel_rfl) (by decide) (by simp) hv) (wait_some (by kernel_rfl) hp) (wait_some (by kernel_rfl) hp) (wait_some (by kernel_rfl) hp) hKK
                  · obtain rfl := Option.some.inj ho
                    exact T16_op17 HL.out ha9 hBb hwX hRTx hnb hI D hVi (fun v hv => hin 16 68 v (by kernel_rfl) (by decide) (by simp) hv) (wait_some (by kernel_rfl) hp) hKK
                  · obtain rfl := Option.some.inj ho
                    exact T16_op18 HL.out ha9 hBb hwX hRTx hnb hI D hVi (fun v hv => hin 17 51 v (by kernel_rfl) (by decide) (by simp) hv) (wait_some (by kernel_rfl) hp) hKK
                  · obtain rfl := Option.some.inj ho
                    exact T16_op19 HL.out ha9 hBb hwX hRTx hnb hI D hVi (fun v hv => hin 17 51 v (by kernel_rfl) (by decide) (by simp) hv) (wait_some (by kernel_rfl) hp) hKK
                  · obtain rfl := Option.some.inj ho
                    exact T16_op20 HL.out ha9 hBb hwX hRTx hnb hI D hVi  hKK
                  · obtain rfl := Option.some.inj ho
                    exact T16_op21 HL.out ha9 hBb hwX hRTx hnb hI D hVi (fun v hv => hin 20 8 v (by kernel_rfl) (by decide) (by simp) hv) (fun v hv => hin 18 69 v (by kernel_rfl) (by decide) (by simp) hv) (wait_some (by kernel_rfl) hp) (wait_some (by kernel_rfl) hp) hKK
                  · obtain rfl := Option.some.inj ho
                    exact T16_op22 HL.out ha9 hBb hwX hRTx hnb hI D hVi (fun v hv => hin 19 70 v (by kernel_rfl) (by decide) (by simp) hv) (wait_some (by kernel_rfl) hp) hKK
                · intro V w' hI hall
                  obtain ⟨v0, h0⟩ := some_of (hall 0 (by decide))
                  obtain ⟨v1, h1⟩ := some_of (hall 1 (by decide))
                  obtain ⟨v2, h2⟩ := some_of (hall 2 (by decide))
                  obtain ⟨v3, h3⟩ := some_of (hall 3 (by decide))
                  obtain ⟨v4, h4⟩ := some_of (hall 4 (by decide))
                  obtain ⟨v5, h5⟩ := some_of (hall 5 (by decide))
                  obtain ⟨v6, h6⟩ := some_of (hall 6 (by decide))
                  obtain ⟨v7, h7⟩ := some_of (hall 7 (by decide))
                  obtain ⟨v8, h8⟩ := some_of (hall 8 (by decide))
                  obtain ⟨v9, h9⟩ := some_of (hall 9 (by decide))
                  obtain ⟨v10, h10⟩ := some_of (hall 10 (by decide))
                  obtain ⟨v11, h11⟩ := some_of (hall 11 (by decide))
                  obtain ⟨v12, h12⟩ := some_of (hall 12 (by decide))
                  obtain ⟨v13, h13⟩ := some_of (hall 13 (by decide))
                  obtain ⟨v14, h14⟩ := some_of (hall 14 (by decide))
                  obtain ⟨v15, h15⟩ := some_of (hall 15 (by decide))
                  obtain ⟨v16, h16⟩ := some_of (hall 16 (by decide))
                  obtain ⟨v17, h17⟩ := some_of (hall 17 (by decide))
                  obtain ⟨v18, h18⟩ := some_of (hall 18 (by decide))
                  obtain ⟨v19, h19⟩ := some_of (hall 19 (by decide))
                  obtain ⟨v21, h21⟩ := some_of (hall 21 (by decide))
                  obtain ⟨R, b', h20, h22, hN⟩ := T16_end hI (fun i hi => hall i hi)
                  show Exit.then _ _ Exit.normal (putsTo _ V 23 _) _
                  simp only [putsTo, h0, h1, h2, h3, h4, h5, h6, h7, h8, h9, h10, h11, h12, h13, h14, h15, h16, h17, h18, h19, h20, h21, h22, dstAt, List.getElem?_toArray, List.getElem?_cons_zero, List.getElem?_cons_succ, Option.bind_some, Act.put, List.setIfInBounds_toArray, List.set_cons_zero, List.set_cons_succ]
                  go_wp2_with fail
                  go_meet
                  exact hN
              case rest => as_aux_lemma =>
                obtain ⟨R, n', v', L', b', rfl, rfl, hnn, c0, c1, ho', hl', hst⟩ := hcut
                obtain ⟨A', c', rfl, -⟩ := own_rd ho'
                have HST2 := Lib.hid hst
                have HO := Lib.hid ho'
                have szT := hst.2.2.2.2.2.2
                clear hst ho'
                cases b'
                · clear hnn
                  go_wp2
                  exact ⟨⟨k - 1, j + 1, Av, cv, L, by omega, by (have e : ((k : Int) - 1) = ((k - 1 : Nat) : Int) := by omega); rw [e], Lib.hid (town_more HST2.out (by omega))⟩, by simp [intOf]; omega⟩
                · obtain rfl : n = n' := (hnn rfl).symm
                  have t0 := HST2.out.1.cellAt 0 (by omega)
                  have t1 := HST2.out.1.cellAt 1 (by omega)
                  have f0 := HST2.out.1.frozenAt 0
                  have f1 := HST2.out.1.frozenAt 1
                  dsimp only [List.getElem?_cons_zero, List.getElem?_cons_succ] at t0 t1
                  clear hnn
                  go_wp2
                  exact ⟨⟨k - 1, j + 1, A', c', L', by omega, by (have e : ((k : Int) - 1) = ((k - 1 : Nat) : Int) := by omega); rw [e], Lib.hid (town_more (town_next HST2.out HO.out hl' hBb) (by omega))⟩, by simp [intOf]; omega⟩
            · obtain rfl : k = 0 := by omega
              have t0 := HST.out.1.cellAt 0 (by omega)
              have t1 := HST.out.1.cellAt 1 (by omega)
              dsimp only [List.getElem?_cons_zero, List.getElem?_cons_succ] at t0 t1
              have r0 := fresh_c0 HST.out.2.2.2.1
              have r1 := fresh_c1 HST.out.2.2.2.1
              have f0 := fresh_f HST.out.2.2.2.1 0
              have f1 := fresh_f HST.out.2.2.2.1 1
              go_wp2
              refine bodyPost_ret (v := .agg #[.int .i64 n, .slice Av L.length cv]) (by simp [results, Tryz.results128, go_sem, r0, r1]) rfl ?_
              obtain ⟨h1, h2, h3, h4, h5, h6, h7⟩ := HST.out
              have hg : wX.grownBy ((wX.setCell ⟨w.heap.size, 0, none⟩ (.int .i64 n)).setCell ⟨w.heap.size, 1, none⟩ (.slice Av L.length cv)) (some w.heap.size) := only_setCell (only_setCell (World.grownBy.refl _ _) 0 _) 1 _
              exact ⟨n, _, L, rfl, own_farR (own_farR h2 (fresh_ne h4 h2) 0 _) (fresh_ne h4 h2) 1 _, h3, hn1, hn2, (h5.own hg (Nat.le_refl _) hBb).more (by omega)⟩
end Go.Proofs.YthgegghdkoeofaaGreatDoor

namespace Go.Proofs.YthgegghdkoeofaaGreatDoor
set_option linter.unusedVariables false
set_option linter.unusedSimpArgs false
open Go.RowKit

def AnyPost (B : Nat) (l : List Int) (a : Nat) (w : World) (n : Int) (v : Value) (w' : World) : Prop := ∃ L : List St, w'.ownsRow w.heap.size 144 3 v L.length (L.flatMap St.cells) ∧ Drew B l a 4300 w w'
theorem anyT_ret {B : Nat} {l : List Int} {a k : Nat} {w : World} {RT : Nat} {n : Int} {v : Value} {L : List St} {W : World} (h : AnyT B l a k w RT n v L W) (hB : B < w.heap.size) (hk : k ≤ 4300) :
    ∃ (n' : Int) (v' : Value) (L' : List St), Ending.returned (.agg #[.int .i64 n, v]) = .returned (.agg #[.int .i64 n', v']) ∧ ((W.setCell ⟨w.heap.size, 0, none⟩ (.int .i64 n)).setCell ⟨w.heap.size, 1, none⟩ v).ownsRow w.heap.size 144 3 v' L'.length (L'.flatMap St.cells) ∧ Drew B l a 4300 w ((W.setCell ⟨w.heap.size, 0, none⟩ (.int .i64 n)).setCell ⟨w.heap.size, 1, none⟩ v) := by
  obtain ⟨h1, h2, h3, h4, h5, h6, h7⟩ := h
  have hg : W.grownBy ((W.setCell ⟨w.heap.size, 0, none⟩ (.int .i64 n)).setCell ⟨w.heap.size, 1, none⟩ v) (some w.heap.size) := only_setCell (only_setCell (World.grownBy.refl _ _) 0 _) 1 _
  exact ⟨n, v, L, rfl, own_farR (own_farR h2 (fresh_ne h4 h2) 0 _) (fresh_ne h4 h2) 1 _, (h5.own hg (Nat.le_refl _) hB).more hk⟩
set_option maxRecDepth 100000 in
set_option maxHeartbeats 4000000 in
theorem anyTown_c (B : Nat) (l : List Int) (hl : BytesOk l) (a : Nat) (ha : a ≤ 4611686018427340000) (w : World) (hc : CurAt B l a w) :
    Calls Tryz.prog 129 #[.pointer (some ⟨B, 0, none⟩)] w fun e w' => ∃ (n : Int) (v : Value) (L : List St), e = .returned (.agg #[.int .i64 n, v]) ∧ w'.ownsRow w.heap.size 144 3 v L.length (L.flatMap St.cells) ∧ Drew B l a 4300 w w' := by
  have HL := Lib.hid hl
  have HD := Lib.hid (Drew.refl hc 0)
  have hBb : B < w.heap.size := hc.lt
  clear hc hl
  go_enter Tryz.func129, Tryz.ntmps129
  go_upto_region 1 with fail
  generalize hW : World.alloc w _ = W0
  have hf0 : FreshT W0 w.heap.size := by subst hW; exact fresh_new w _ rfl
  have hb0 : Below w.heap.size w W0 := by subst hW; exact bel_al (Below.refl _ _) _
  have hs0 : w.heap.size < W0.heap.size := by subst hW; simp
  have HD := Lib.hid (HD.out.bel hb0)
  have HF := Lib.hid hf0
  clear hW hf0 hb0
  go_wp2_with fail
  refine (town_c B l HL.out (a + 0) (by omega) _ HD.out.1).mono ?_; rintro e W1 ⟨n, v, L, rfl, ho, hL40, hn1, hn2, hd⟩
  obtain ⟨Av, cv, rfl, -⟩ := own_rd ho
  have HD := Lib.hid (HD.out.trans hd)
  have HF := Lib.hid (own_draw HF.out hd.2 hBb : FreshT W1 w.heap.size)
  have hs1 := hd.2.size
  have HO := Lib.hid (own_base ho (by omega : w.heap.size ≤ W0.heap.size))
  clear hd ho
  go_upto_region 2 with fail
  generalize hW : World.alloc W1 _ = W2
  have ht : W2.ownsRow w.heap.size 47 2 (.slice (some ⟨W1.heap.size, 0, none⟩) 1 1) 1 [.int .i64 n, .slice Av L.length cv] := by subst hW; exact own_base (row_new W1 _ _ 1 2 rfl (by omega) (by omega)) (by omega)
  have hbl : Below W1.heap.size W1 W2 := by subst hW; exact bel_al (Below.refl _ _) _
  have hs2 : W1.heap.size < W2.heap.size := by subst hW; simp
  obtain ⟨RT, hRT⟩ : ∃ RT, W1.heap.size = RT := ⟨_, rfl⟩
  rw [hRT] at ht hs2 ⊢
  have HST : Hid (AnyT B l a 4000 w RT n (.slice Av L.length cv) L W2) := Lib.hid ⟨ht, own_below HO.out hbl, by omega, own_below HF.out hbl, (HD.out.bel hbl).more (by omega), by omega, hs2⟩
  clear hW ht hbl hs2 HD HF HO hs0 hs1 hRT
  go_wp2_with fail
  refine (pick_c B l HL.out (a + 4000) (by omega) 30 (by omega) _ HST.out.2.2.2.2.1.1).mono ?_; rintro e W4 ⟨y, rfl, hy, hd⟩
  replace HST := Lib.hid (anyT_drew HST.out hd hBb)
  clear hd
  by_cases hy0 : y = 0
  · have e0 : ((y : Int) == 0) = true := by simp [hy0]
    clear hy0 hy
    go_wp2_with fail
    generalize hW : World.alloc W4 _ = W5
    have hq : RdI W5 (.slice (some ⟨W4.heap.size, 0, none⟩) 4 4) [0, -1, 15, 4611686018427387904] := by subst hW; exact rd_new W4 rfl (Nat.le_refl _) (by rw [maxLen_eq]; omega)
    have hbl : Below W4.heap.size W4 W5 := by subst hW; exact bel_al (Below.refl _ _) _
    have hBW := HST.out.2.2.2.2.1.1.lt
    replace HST := Lib.hid (anyT_bel HST.out hbl)
    clear hW hbl
    refine (among_c B l HL.out (a + 4002) (by omega) _ [0, -1, 15, 4611686018427387904] (by simp) (by simp) _ HST.out.2.2.2.2.1.1 hq (lit_ne hBW)).mono ?_; rintro e W6 ⟨z, rfl, _, hd⟩
    replace HST := Lib.hid (anyT_drew HST.out hd hBb)
    clear hd hq hBW
    have t0 := HST.out.1.cellAt 0 (by omega)
    have f0 := HST.out.1.frozenAt 0
    dsimp only [List.getElem?_cons_zero, List.getElem?_cons_succ] at t0
    have HST2 := Lib.hid (anyT_nodes (m := z) HST.out hBb)
    go_upto_region 17 with fail
    generalize hW : World.setCell W6 _ _ = W7
    rw [hW] at HST2
    clear hW HST t0 f0
    have t0 := HST2.out.1.cellAt 0 (by omega)
    have t1 := HST2.out.1.cellAt 1 (by omega)
    dsimp only [List.getElem?_cons_zero, List.getElem?_cons_succ] at t0 t1
    have r0 := fresh_c0 HST2.out.2.2.2.1
    have r1 := fresh_c1 HST2.out.2.2.2.1
    have f0 := fresh_f HST2.out.2.2.2.1 0
    have f1 := fresh_f HST2.out.2.2.2.1 1
    have hneR := HST2.out.2.2.2.2.2.1
    go_wp2
    refine bodyPost_ret (v := .agg #[.int .i64 z, .slice Av L.length cv]) (by simp [results, Tryz.results129, go_sem, r0, r1]) rfl ?_
    exact anyT_ret HST2.out hBb (by omega)
  · have e0 : ((y : Int) == 0) = false := beq_false_of_ne (by omega)
    by_cases hy1 : y = 1
    · have e1 : ((y : Int) == 1) = true := by simp [hy1]
      clear hy0 hy1 hy
      go_upto_region 6 with fail
      have hwX := HST.out.2.2.2.2.1.2.size
      have hRTx := HST.out.2.2.2.2.2.2
      have ha9 : a + 4002 ≤ 4611686018427380000 := by omega
      refine wp_region_inv2 (by kernel_rfl) (by kernel_rfl) (by kernel_rfl) (fun V w' => A6 B l a 4002 w W4 RT n Av cv L V w') (A6_start HST.out) ?_ ?_
      · intro V w' hI hcl i o ho hi19 hVi hp a9 hin hout KK hKK
        have D : DA6 V := ⟨fun h => wait_some (by kernel_rfl) (hcl 1 h), fun h => wait_some (by kernel_rfl) (hcl 3 h), fun h => wait_some (by kernel_rfl) (hcl 4 h), fun h => wait_some (by kernel_rfl) (hcl 6 h), fun h => wait_some (by kernel_rfl) (hcl 6 h), fun h => wait_some (by kernel_rfl) (hcl 9 h), fun h => wait_some (by kernel_rfl) (hcl 9 h), fun h => wait_some (by kernel_rfl) (hcl 9 h), fun h => wait_some (by kernel_rfl) (hcl 10 h), fun h => wait_some (by kernel_rfl) (hcl 10 h), fun h => wait_some (by kernel_rfl) (hcl 10 h), fun h => wait_some (by kernel_rfl) (hcl 11 h), fun h => wait_some (by kernel_rfl) (hcl 12 h), fun h => wait_some (by kernel_rfl) (hcl 12 h), fun h => wait_some (by kernel_rfl) (hcl 12 h), fun h => wait_some (by kernel_rfl) (hcl 14 h), fun h => wait_some (by kernel_rfl) (hcl 14 h)⟩
        have hi19 : i < 15 := hi19
        obtain rfl | rfl | rfl | rfl | rfl | rfl | rfl | rfl | rfl | rfl | rfl | rfl | rfl | rfl | rfl : i = 0 ∨ i = 1 ∨ i = 2 ∨ i = 3 ∨ i = 4 ∨ i = 5 ∨ i = 6 ∨ i = 7 ∨ i = 8 ∨ i = 9 ∨ i = 10 ∨ i = 11 ∨ i = 12 ∨ i = 13 ∨ i = 14 := by omega
        · obtain rfl := Option.some.inj ho
          exact A6_op0 HL.out ha9 hBb hwX hRTx hL40 hI D hVi ((hout 3 (by kernel_rfl)).trans rfl) hKK
        · obtain rfl := Option.some.inj ho
          exact A6_op1 HL.out ha9 hBb hwX hRTx hL40 hI D hVi (fun v hv => hin 0 18 v (by kernel_rfl) (by decide) (by simp) hv) (wait_some (by kernel_rfl) hp) hKK
        · obtain rfl := Option.some.inj ho
          exact A6_op2 HL.out ha9 hBb hwX hRTx hL40 hI D hVi ((hout 0 (by kernel_rfl)).trans rfl) hKK
        · obtain rfl := Option.some.inj ho
          exact A6_op3 HL.out ha9 hBb hwX hRTx hL40 hI D hVi (fun v hv => hin 2 20 v (by kernel_rfl) (by decide) (by simp) hv) (wait_some (by kernel_rfl) hp) hKK
        · obtain rfl := Option.some.inj ho
          exact A6_op4 HL.out ha9 hBb hwX hRTx hL40 hI D hVi (fun v hv => hin 3 21 v (by kernel_rfl) (by decide) (by simp) hv) (wait_some (by kernel_rfl) hp) hKK
        · obtain rfl := Option.some.inj ho
          exact A6_op5 HL.out ha9 hBb hwX hRTx hL40 hI D hVi ((hout 0 (by kernel_rfl)).trans rfl) hKK
        · obtain rfl := Option.some.inj ho
          exact A6_op6 HL.out ha9 hBb hwX hRTx hL40 hI D hVi (fun v hv => hin 5 23 v (by kernel_rfl) (by decide) (by simp) hv) (wait_some (by kernel_rfl) hp) (wait_some (by kernel_rfl) hp) hKK
        · obtain rfl := Option.some.inj ho
          exact A6_op7 HL.out ha9 hBb hwX hRTx hL40 hI D hVi ((hout 0 (by kernel_rfl)).trans rfl) hKK
        · obtain rfl := Option.some.inj ho
          exact A6_op8 HL.out ha9 hBb hwX hRTx hL40 hI D hVi  hKK
        · obtain rfl := Option.some.inj ho
          exact A6_op9 HL.out ha9 hBb hwX hRTx hL40 hI D hVi (fun v hv => hin 7 25 v (by kernel_rfl) (by decide) (by simp) hv) (fun v hv => hin 8 26 v (by kernel_rfl) (by decide) (by simp) hv) (wait_some (by kernel_rfl) hp) (wait_some (by kernel_rfl) hp) (wait_some (by kernel_rfl) hp) hKK
        · obtain rfl := Option.some.inj ho
          exact A6_op10 HL.out ha9 hBb hwX hRTx hL40 hI D hVi (fun v hv => hin 4 22 v (by kernel_rfl) (by decide) (by simp) hv) (fun v hv => hin 6 24 v (by kernel_rfl) (by decide) (by simp) hv) (fun v hv => hin 9 27 v (by kernel_rfl) (by decide) (by simp) hv) (wait_some (by kernel_rfl) hp) (wait_some (by kernel_rfl) hp) (wait_some (by kernel_rfl) hp) hKK
        · obtain rfl := Option.some.inj ho
          exact A6_op11 HL.out ha9 hBb hwX hRTx hL40 hI D hVi (fun v hv => hin 10 28 v (by kernel_rfl) (by decide) (by simp) hv) (wait_some (by kernel_rfl) hp) hKK
        · obtain rfl := Option.some.inj ho
          exact A6_op12 HL.out ha9 hBb hwX hRTx hL40 hI D hVi (fun v hv => hin 1 19 v (by kernel_rfl) (by decide) (by simp) hv) (fun v hv => hin 11 29 v (by kernel_rfl) (by decide) (by simp) hv) (wait_some (by kernel_rfl) hp) (wait_some (by kernel_rfl) hp) (wait_some (by kernel_rfl) hp) hKK
        · obtain rfl := Option.some.inj ho
          exact A6_op13 HL.out ha9 hBb hwX hRTx hL40 hI D hVi ((hout 3 (by kernel_rfl)).trans rfl) hKK
        · obtain rfl := Option.some.inj ho
          exact A6_op14 HL.out ha9 hBb hwX hRTx hL40 hI D hVi (fun v hv => hin 13 31 v (by kernel_rfl) (by decide) (by simp) hv) (fun v hv => hin 12 30 v (by kernel_rfl) (by decide) (by simp) hv) (wait_some (by kernel_rfl) hp) (wait_some (by kernel_rfl) hp) hKK
      · intro V w' hI hall
        obtain ⟨v0, h0⟩ := some_of (hall 0 (by decide))
        obtain ⟨v1, h1⟩ := some_of (hall 1 (by decide))
        obtain ⟨v2, h2⟩ := some_of (hall 2 (by decide))
        obtain ⟨v3, h3⟩ := some_of (hall 3 (by decide))
        obtain ⟨v4, h4⟩ := some_of (hall 4 (by decide))
        obtain ⟨v5, h5⟩ := some_of (hall 5 (by decide))
        obtain ⟨v6, h6⟩ := some_of (hall 6 (by decide))
        obtain ⟨v7, h7⟩ := some_of (hall 7 (by decide))
        obtain ⟨v8, h8⟩ := some_of (hall 8 (by decide))
        obtain ⟨v9, h9⟩ := some_of (hall 9 (by decide))
        obtain ⟨v10, h10⟩ := some_of (hall 10 (by decide))
        obtain ⟨v11, h11⟩ := some_of (hall 11 (by decide))
        obtain ⟨v12, h12⟩ := some_of (hall 12 (by decide))
        obtain ⟨v13, h13⟩ := some_of (hall 13 (by decide))
        obtain ⟨v14, h14⟩ := some_of (hall 14 (by decide))
        simp only [List.size_toArray, List.length_cons, List.length_nil, Nat.zero_add, Nat.reduceAdd]
        simp only [putsTo, h0, h1, h2, h3, h4, h5, h6, h7, h8, h9, h10, h11, h12, h13, h14, dstAt, List.getElem?_toArray, List.getElem?_cons_zero, List.getElem?_cons_succ, Option.bind_some, Act.put, List.setIfInBounds_toArray, List.set_cons_zero, List.set_cons_succ]
        obtain ⟨Av', cv', L', hN⟩ := A6_end hI (fun i hi => hall i hi)
        clear HST hI hall hL40
        have HST := Lib.hid hN
        clear hN
        have t0 := HST.out.1.cellAt 0 (by omega)
        have t1 := HST.out.1.cellAt 1 (by omega)
        dsimp only [List.getElem?_cons_zero, List.getElem?_cons_succ] at t0 t1
        have r0 := fresh_c0 HST.out.2.2.2.1
        have r1 := fresh_c1 HST.out.2.2.2.1
        have f0 := fresh_f HST.out.2.2.2.1 0
        have f1 := fresh_f HST.out.2.2.2.1 1
        have hneR := HST.out.2.2.2.2.2.1
        go_wp2
        refine bodyPost_ret (v := .agg #[.int .i64 n, .slice Av' L'.length cv']) (by simp [results, Tryz.results129, go_sem, r0, r1]) rfl ?_
        exact anyT_ret HST.out hBb (by omega)
    · have e1 : ((y : Int) == 1) = false := beq_false_of_ne (by omega)
      by_cases hy2 : y = 2
      · have e2 : ((y : Int) == 2) = true := by simp [hy2]
        clear hy0 hy1 hy2 hy
        have t0 := HST.out.1.cellAt 0 (by omega)
        have t1 := HST.out.1.cellAt 1 (by omega)
        have f0 := HST.out.1.frozenAt 0
        have f1 := HST.out.1.frozenAt 1
        dsimp only [List.getElem?_cons_zero, List.getElem?_cons_succ] at t0 t1
        have HST2 := Lib.hid (anyT_nil (anyT_nodes (m := 14) HST.out hBb) hBb)
        go_upto_region 10 with fail
        generalize hW : World.setCell (World.setCell W4 _ _) _ _ = W7
        rw [hW] at HST2
        clear hW HST t0 t1 f0 f1 e0 e1 e2 hL40
        have HST := HST2
        clear HST2
        obtain ⟨i0, hi, hz0, hz1, hz2⟩ := info_parts Tryz.infoSt
        go_wp2_with fail
        go_loopw [4] (fun vi wr => ∃ (i : Nat) (Av : Option Addr) (cv : Nat) (L : List St), i ≤ 4 ∧ vi = .int .i64 i ∧ Hid (AnyT B l a (4002 + 28 * i) w RT 14 (.slice Av L.length cv) L wr)) (fun vi _ => 4 - (intOf vi).toNat)
        case atStart => exact ⟨0, none, 0, [], by omega, rfl, HST⟩
        case round =>
          clear HST
          obtain ⟨i, Av, cv, L, hi4, rfl, HST⟩ := hrel
          obtain ⟨wA, rfl⟩ : ∃ wA : World, wA = wr := ⟨_, rfl⟩
          by_cases hlt : i < 4
          · have hlt2 : (i : Int) < 4 := by omega
            have s1 : IntKind.i64.wrap ((i : Int) + 1) = ((i + 1 : Nat) : Int) := by rw [IntWalk.i64_in _ (by omega)]; omega
            go_upto_region 13 with fail
            go_wp2_with fail
            go_loopw [5] (fun vj wr => ∃ (j : Nat) (Av : Option Addr) (cv : Nat) (L : List St), i + 1 ≤ j ∧ j ≤ 14 ∧ vj = .int .i64 j ∧ Hid (AnyT B l a (4002 + 28 * i + 2 * (j - i)) w RT 14 (.slice Av L.length cv) L wr)) (fun vj _ => 14 - (intOf vj).toNat)
            case atStart => exact ⟨i + 1, Av, cv, L, Nat.le_refl _, by omega, by go_num, Lib.hid (anyT_more HST.out (by omega))⟩
            case round =>
              clear HST
              obtain ⟨j, Av, cv, L, hij, hj14, rfl, HST⟩ := hrel
              obtain ⟨wB, rfl⟩ : ∃ wB : World, wB = wr := ⟨_, rfl⟩
              obtain ⟨K, hK⟩ : ∃ K : Nat, 4002 + 28 * i + 2 * (j - i) = K := ⟨_, rfl⟩
              have hK1 : K ≤ 4002 + 28 * i + 2 * (j - i) := by omega
              have hK2 : 4002 + 28 * i + 2 * (j - i) ≤ K := by omega
              have hK3 : K ≤ 4250 := by omega
              rw [hK] at HST
              clear hK
              by_cases hjt : j < 14
              · have hjt2 : (j : Int) < 14 := by omega
                have t1 := HST.out.1.cellAt 1 (by omega)
                dsimp only [List.getElem?_cons_zero, List.getElem?_cons_succ] at t1
                have hRTB : RT < wB.heap.size := HST.out.2.2.2.2.2.2
                have h6 := HST.out.2.2.2.2.2.1
                have hRB : RT ≠ B := by omega
                clear s1
                go_upto_region 14 with fail
                go_cut [52] from 42 to 52 (fun v wx => ∃ x : Nat, x ≤ 1 ∧ v = .bool (decide ((L.length : Int) < 40 + (x : Int))) ∧ AnyT B l a (K + 2) w RT 14 (.slice Av L.length cv) L wx)
                case first =>
                  go_region_held3 (fun W' => W'.cell? ⟨RT, 1, none⟩ = some (.slice Av L.length cv)) (first | (with_reducible exact t1) | (with_reducible exact cell_drw t1) | (with_reducible assumption)) (first | (go_at_call 71; refine (pick_at2 HL.out HST.out.2.2.2.2.1 (bel_dr (Below.refl _ _)) (by omega) 2 (by omega)).mono ?_; rintro e W9 ⟨x, rfl, hx, hd, hg⟩; have t1 := (gro_cell hg (o := 1) (x := RT) (by first | exact hRTB | (simpa using hRTB)) hRB).trans (show wB.drew.cell? ⟨RT, 1, none⟩ = _ from t1); have s4 : IntKind.i64.wrap (40 + (x : Int)) = 40 + (x : Int) := IntWalk.i64_in _ (by omega)))
                  all_goals
                    have HST9 : AnyT B l a (K + 2) w RT 14 (.slice Av L.length cv) L W9 := by
                      have h9 := HST.out
                      obtain ⟨h1, h2, h3, h4, h5, h6', h7⟩ := h9
                      exact ⟨own_draw (own_dr h1) hg hBb, own_draw (own_dr h2) hg hBb, h3, own_draw (own_dr h4) hg (by omega), hd, h6', Nat.lt_of_lt_of_le h7 hg.size⟩
                    go_wp2_with fail
                    go_meet
                    exact ⟨x, by omega, rfl, HST9⟩
                case rest => as_aux_lemma =>
                  obtain ⟨x, hx, rfl, hst⟩ := hcut
                  clear HST t1
                  have HST := Lib.hid hst
                  clear hst
                  by_cases hlx : (L.length : Int) < 40 + (x : Int)
                  · have hdx : decide ((L.length : Int) < 40 + (x : Int)) = true := decide_eq_true hlx
                    have t1 := HST.out.1.cellAt 1 (by omega)
                    have hL40 : L.length ≤ 40 := by omega
                    dsimp only [List.getElem?_cons_zero, List.getElem?_cons_succ] at t1
                    rw [hdx]
                    clear hdx hlx
                    go_wp2_with (at_builtin; go_loud (refine wpList_app_rd _ rfl _ _ 45 rfl w.heap.size 144 i0 _ 3 24 Tryz.underlying45 hi hz0 hz1 hz2 rfl (by decide) _ L.length (L.flatMap St.cells) rfl (HST.out.2.1.alloc _) _ 1 [.int .i64 (i : Int), .int .i64 (j : Int), .int .i64 60] rfl (rd_new _ rfl (Nat.le_refl _) (by rw [maxLen_eq]; omega)) rfl (by intro u hu; simp at hu; rcases hu with rfl | rfl | rfl <;> rfl) (by rw [maxLen_eq]; omega) (by omega) (by have := HST.out.2.2.2.2.1.2.size; simp; omega) ?_); intro v7 w7 hown7 hgrow7 _; obtain ⟨A7, c7, rfl, _⟩ := own_rd hown7; have e0 : (L ++ [(⟨(i : Int), (j : Int), 60⟩ : St)]).length = L.length + 1 := (by simp); have e1 : (L ++ [(⟨(i : Int), (j : Int), 60⟩ : St)]).flatMap St.cells = L.flatMap St.cells ++ [.int .i64 (i : Int), .int .i64 (j : Int), .int .i64 60] := (by rw [List.flatMap_append]; simp [St.cells]); have HAP := Lib.hid (anyT_app (L' := L ++ [(⟨(i : Int), (j : Int), 60⟩ : St)]) (anyT_bel HST.out (bel_al (Below.refl _ _) _)) hgrow7 (by rw [e0, e1]; exact hown7) (by rw [e0]; omega) hBb); have t1 := HAP.out.1.cellAt 1 (by omega); have f1 := HAP.out.1.frozenAt 1; dsimp only [List.getElem?_cons_zero, List.getElem?_cons_succ] at t1; clear e0 e1)
                    have HN := app_store HAP.out hBb
                    exact ⟨⟨j + 1, A7, c7, L ++ [(⟨(i : Int), (j : Int), 60⟩ : St)], by omega, by omega, by go_num, Lib.hid (anyT_more (by simpa using HN) (by omega))⟩, by simp [intOf]; omega⟩
                  · have hdx : decide ((L.length : Int) < 40 + (x : Int)) = false := decide_eq_false hlx
                    rw [hdx]
                    clear hdx hlx
                    go_wp2
                    exact ⟨⟨i + 1, Av, cv, L, by omega, by go_num, Lib.hid (anyT_more HST.out (by omega))⟩, by simp [intOf]; omega⟩
              · obtain rfl : j = 14 := by omega
                have hd14 : decide ((((14 : Nat) : Int)) < 14) = false := by decide
                go_wp2_with fail
                go_quiet (fail)
                go_wp2
                exact ⟨⟨i + 1, Av, cv, L, by omega, by go_num, Lib.hid (anyT_more (anyT_bel HST.out (below_drewN (Below.refl _ _) _)) (by omega))⟩, by simp [intOf]; omega⟩
          · obtain rfl : i = 4 := by omega
            have t0 := HST.out.1.cellAt 0 (by omega)
            have t1 := HST.out.1.cellAt 1 (by omega)
            dsimp only [List.getElem?_cons_zero, List.getElem?_cons_succ] at t0 t1
            have r0 := fresh_c0 HST.out.2.2.2.1
            have r1 := fresh_c1 HST.out.2.2.2.1
            have f0 := fresh_f HST.out.2.2.2.1 0
            have f1 := fresh_f HST.out.2.2.2.1 1
            have hneR := HST.out.2.2.2.2.2.1
            go_wp2
            refine bodyPost_ret (v := .agg #[.int .i64 14, .slice Av L.length cv]) (by simp [results, Tryz.results129, go_sem, r0, r1]) rfl ?_
            exact anyT_ret HST.out hBb (by omega)
      · have e2 : ((y : Int) == 2) = false := beq_false_of_ne (by omega)
        clear hy0 hy1 hy2 hy
        have t0 := HST.out.1.cellAt 0 (by omega)
        have t1 := HST.out.1.cellAt 1 (by omega)
        dsimp only [List.getElem?_cons_zero, List.getElem?_cons_succ] at t0 t1
        have r0 := fresh_c0 HST.out.2.2.2.1
        have r1 := fresh_c1 HST.out.2.2.2.1
        have f0 := fresh_f HST.out.2.2.2.1 0
        have f1 := fresh_f HST.out.2.2.2.1 1
        have hneR := HST.out.2.2.2.2.2.1
        go_wp2
        refine bodyPost_ret (v := .agg #[.int .i64 n, .slice Av L.length cv]) (by simp [results, Tryz.results129, go_sem, r0, r1]) rfl ?_
        exact anyT_ret HST.out hBb (by omega)
end Go.Proofs.YthgegghdkoeofaaGreatDoor

namespace Go.Proofs.YthgegghdkoeofaaGreatDoor
set_option linter.unusedVariables false
set_option linter.unusedSimpArgs false
open Go.RowKit

theorem fresh_gro {w w' : World} {R B : Nat} (h : FreshT w R) (g : w.grownBy w' (some B)) (hne : R ≠ B) : FreshT w' R :=
  World.ownsRow.kept h g (.inr (fun e => hne (Option.some.inj e)))
theorem rd_of {w : World} {v : Value} {n : Nat} {xs : List Value} (h : Rd w v n xs) : ∃ A c, v = .slice A n c := by obtain ⟨A, c, e, _⟩ := h; exact ⟨A, c, e⟩

end Go.Proofs.YthgegghdkoeofaaGreatDoor
