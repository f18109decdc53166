/-
  Draws of limits, stations and movers (printed by gen_drawt.py). (joined by pack.py: DrawTa)
-/
import Derived.Test.YthgegghdkoeofaaGreatDoorK26
import Derived.Test.YthgegghdkoeofaaGreatDoorK10
import Derived.Test.YthgegghdkoeofaaGreatDoorK8
import Derived.Test.YthgegghdkoeofaaGreatDoorK3
import Derived.Deep.DeepCutAuto
import Derived.Deep.CutBlock
namespace Go.Proofs.YthgegghdkoeofaaGreatDoor
set_option linter.unusedVariables false
set_option linter.unusedSimpArgs false
open Go.RowKit

theorem own_at {w : World} {base : Nat} {e : TypeId} {sz n c : Nat} {A : Option Addr} {xs : List Value} (h : w.ownsRow base e sz (.slice A n c) n xs) (h0 : 0 < n) : ∃ g, A = some ⟨g, 0, none⟩ ∧ base ≤ g ∧ g < w.heap.size := by
  rcases h.2 with ⟨_, hq⟩ | ⟨g, cap, cur, hv, hb, hg, _⟩
  · omega
  · simp only [Value.slice.injEq] at hv
    exact ⟨g, hv.1, hb, (Array.getElem?_eq_some_iff.1 hg).1⟩
def FewPost (B : Nat) (l : List Int) (a : Nat) (w : World) (e : Ending) (w' : World) : Prop := ∃ (v : Value) (Q : List Int), e = .returned v ∧ RdB w.heap.size w' v Q.length (ints Q) ∧ Q.length ≤ 7 ∧ Drew B l a 22 w w'
theorem rdi_cutA {w : World} {A : Option Addr} {c j : Nat} {l : List Int} (h : RdI w (.slice A l.length c) l) (hj : j ≤ l.length) : RdI w (.slice A j c) (l.take j) := by
  obtain ⟨A', c', hv, h1, h2, h3⟩ := rd_front h hj
  refine ⟨A', c', by rw [List.length_take, Nat.min_eq_left hj]; exact hv, by rw [List.length_take]; omega, h2, fun h0 => h3 (by rw [List.length_take] at h0; omega)⟩
theorem nodes_bd (n : Int) : 1 ≤ maxI 1 (minI 14 n) ∧ maxI 1 (minI 14 n) ≤ 14 := by unfold maxI minI; split <;> split <;> omega
theorem own_nil0 (w : World) (base : Nat) : w.ownsRow base 3 1 (.slice none 0 0) ([] : List Int).length (ints []) := World.ownsRow_nil _ _ _ _

set_option maxRecDepth 100000 in
set_option maxHeartbeats 2000000 in
theorem limitSeconds_c (B : Nat) (l : List Int) (hl : BytesOk l) (a : Nat) (ha : a ≤ 4611686018427360000) (w : World) (hc : CurAt B l a w) :
    Calls Tryz.prog 98 #[.pointer (some ⟨B, 0, none⟩)] w fun e w' => ∃ x : Int, e = .returned (.int .i64 x) ∧ Drew B l a 6 w w' := by
  have HL := Lib.hid hl
  have HD := Lib.hid (Drew.refl hc 0)
  have hBb : B < w.heap.size := hc.lt
  obtain ⟨i0, hi, hz0, hz1, hz2⟩ := info_parts Tryz.infoInt
  clear hc hl
  clear i0 hi hz0 hz1 hz2
  go_enter Tryz.func98, Tryz.ntmps98
  go_wp2_with fail
  refine (pick_c B l HL.out (a + 0) (by omega) 400 (by omega) _ HD.out.1).mono ?_; rintro e W1 ⟨x2, rfl, hx2, hd⟩
  have HD := Lib.hid (HD.out.trans hd)
  have szW1 := hd.2.size
  clear hd
  go_wp2_with fail
  generalize hW : World.alloc W1 _ = W3
  have hq : RdI W3 (.slice (some ⟨W1.heap.size, 0, none⟩) 2 2) [-1, 36001] := by subst hW; exact rd_new W1 rfl (Nat.le_refl _) (by rw [maxLen_eq]; omega)
  have hbl : Below W1.heap.size W1 W3 := by subst hW; exact bel_al (Below.refl _ _) _
  have hBW := HD.out.1.lt
  have HD := Lib.hid (HD.out.bel hbl)
  have szW3 := hbl.size
  clear hW hbl
  refine (among_c B l HL.out (a + 2) (by omega) _ [-1, 36001] (by simp) (by simp) _ HD.out.1 hq (lit_ne hBW)).mono ?_; rintro e W4 ⟨y5, rfl, _, hd⟩
  clear hq hBW
  have HD := Lib.hid (HD.out.trans hd)
  have szW4 := hd.2.size
  clear hd
  go_wp2_with fail
  generalize hW : World.alloc W4 _ = W6
  have hq : RdI W6 (.slice (some ⟨W4.heap.size, 0, none⟩) 8 8) [0, 30, 60, 120, 300, 36000, (x2 : Int), y5] := by subst hW; exact rd_new W4 rfl (Nat.le_refl _) (by rw [maxLen_eq]; omega)
  have hbl : Below W4.heap.size W4 W6 := by subst hW; exact bel_al (Below.refl _ _) _
  have hBW := HD.out.1.lt
  have HD := Lib.hid (HD.out.bel hbl)
  have szW6 := hbl.size
  clear hW hbl
  refine (among_c B l HL.out (a + 4) (by omega) _ [0, 30, 60, 120, 300, 36000, (x2 : Int), y5] (by simp) (by simp) _ HD.out.1 hq (lit_ne hBW)).mono ?_; rintro e W7 ⟨y8, rfl, _, hd⟩
  clear hq hBW
  have HD := Lib.hid (HD.out.trans hd)
  have szW7 := hd.2.size
  clear hd
  go_wp2
  go_ret
  exact ⟨y8, rfl, HD.out⟩
end Go.Proofs.YthgegghdkoeofaaGreatDoor
