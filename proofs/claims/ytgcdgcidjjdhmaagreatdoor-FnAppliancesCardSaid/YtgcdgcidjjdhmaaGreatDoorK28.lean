/-
  A cursor that draws choices from bytes: next, pick, one, among. Draws: pick, one, among. laws.big: whether two lists of bytes are too long together. (joined by pack.py: Cur Draw Big)
-/
import Derived.Test.YtgcdgcidjjdhmaaGreatDoorK6
import Derived.Test.YtgcdgcidjjdhmaaGreatDoorK1
import Derived.Test.YtgcdgcidjjdhmaaGreatDoorK0
import Derived.BigQuiet
import Derived.Laws.BitsAllLaws
namespace Go.Proofs.YtgcdgcidjjdhmaaGreatDoor
set_option linter.unusedVariables false
set_option linter.unusedSimpArgs false
open Go.RowKit

def bys (l : List Int) : List Value := l.map (Value.int .u8)
theorem bys_len (l : List Int) : (bys l).length = l.length := by simp [bys]
theorem bys_get {l : List Int} {k : Nat} {x : Int} (h : l[k]? = some x) : (bys l)[k]? = some (.int .u8 x) := by simp [bys, h]
def BytesOk (l : List Int) : Prop := ∀ x ∈ l, 0 ≤ x ∧ x ≤ 255
/-- Block B holds a cursor over the bytes l that stands at place p. -/
def CurIs (B : Nat) (l : List Int) (p : Nat) (A : Option Addr) (c : Nat) (sd : Int) (w : World) : Prop :=
  l.length ≤ 9223372036854775807 ∧ w.cell? ⟨B, 0, none⟩ = some (.slice A l.length c) ∧ w.cell? ⟨B, 1, none⟩ = some (.int .i64 p) ∧ w.cell? ⟨B, 2, none⟩ = some (.int .u64 sd) ∧
    w.frozen? ⟨B, 1, none⟩ = false ∧ w.frozen? ⟨B, 2, none⟩ = false ∧ (0 < l.length → ∃ b off, A = some ⟨b, off, none⟩ ∧ b < B ∧ b < w.heap.size ∧ ∀ j u, (bys l)[j]? = some u → w.cell? ⟨b, off + j, none⟩ = some u)
/-- A cursor that has gone at most a places. -/
def CurAt (B : Nat) (l : List Int) (a : Nat) (w : World) : Prop := ∃ (p : Nat) (A : Option Addr) (c : Nat) (sd : Int), p ≤ a ∧ CurIs B l p A c sd w
/-- What a draw leaves: the cursor gone k places more; of old memory only its block written. -/
def Drew (B : Nat) (l : List Int) (a k : Nat) (w w' : World) : Prop := CurAt B l (a + k) w' ∧ w.grownBy w' (some B)
theorem CurIs.lt {B : Nat} {l : List Int} {p : Nat} {A : Option Addr} {c : Nat} {sd : Int} {w : World} (h : CurIs B l p A c sd w) : B < w.heap.size := World.block_lt_of_cell? w _ h.2.1
theorem CurIs.keep {B : Nat} {l : List Int} {p : Nat} {A : Option Addr} {c : Nat} {sd : Int} {w w' : World} (h : CurIs B l p A c sd w) (hk : Below (B + 1) w w') : CurIs B l p A c sd w' := by
  obtain ⟨h2, h3, h4, h5, h6, h7, h8⟩ := h
  refine ⟨h2, (hk.cell (p := ⟨B, 0, none⟩) (by show B < B + 1; omega)).trans h3, (hk.cell (p := ⟨B, 1, none⟩) (by show B < B + 1; omega)).trans h4, (hk.cell (p := ⟨B, 2, none⟩) (by show B < B + 1; omega)).trans h5, (hk.frozen (p := ⟨B, 1, none⟩) (by show B < B + 1; omega)).trans h6, (hk.frozen (p := ⟨B, 2, none⟩) (by show B < B + 1; omega)).trans h7, fun hl => ?_⟩
  obtain ⟨b, off, e, hb, hbs, hc⟩ := h8 hl
  exact ⟨b, off, e, hb, Nat.lt_of_lt_of_le hbs hk.size, fun j u hu => (hk.cell (p := ⟨b, off + j, none⟩) (by show b < B + 1; omega)).trans (hc j u hu)⟩
theorem CurIs.dr {B : Nat} {l : List Int} {p : Nat} {A : Option Addr} {c : Nat} {sd : Int} {w : World} (h : CurIs B l p A c sd w) (n : Nat) : CurIs B l p A c sd (w.drewN n) := h.keep ((below_drewN (Below.refl _ _) n).mono h.lt)
theorem CurIs.step {B : Nat} {l : List Int} {p : Nat} {A : Option Addr} {c : Nat} {sd : Int} {w : World} (h : CurIs B l p A c sd w) (sd' : Int) : CurIs B l (p + 1) A c sd' ((w.setCell ⟨B, 1, none⟩ (.int .i64 ((p : Int) + 1))).setCell ⟨B, 2, none⟩ (.int .u64 sd')) ∧ w.grownBy ((w.setCell ⟨B, 1, none⟩ (.int .i64 ((p : Int) + 1))).setCell ⟨B, 2, none⟩ (.int .u64 sd')) (some B) := by
  have hB := h.lt
  obtain ⟨h2, h3, h4, h5, h6, h7, h8⟩ := h
  have hg : w.grownBy ((w.setCell ⟨B, 1, none⟩ (.int .i64 ((p : Int) + 1))).setCell ⟨B, 2, none⟩ (.int .u64 sd')) (some B) := only_setCell (only_setCell (World.grownBy.refl w (some B)) 1 _) 2 _
  refine ⟨⟨h2, ?_, ?_, ?_, ?_, ?_, fun hl => ?_⟩, hg⟩
  · simpa [go_sem] using h3
  · simp [go_sem, h4]
  · simp [go_sem, h5]
  · simpa [go_sem] using h6
  · simpa [go_sem] using h7
  · obtain ⟨b, off, e, hb, hbs, hcl⟩ := h8 hl
    exact ⟨b, off, e, hb, by simpa using hbs, fun j u hu => (gro_cell hg hbs (by omega)).trans (hcl j u hu)⟩
theorem CurAt.mono {B : Nat} {l : List Int} {a a' : Nat} {w : World} (h : CurAt B l a w) (ha : a ≤ a') : CurAt B l a' w := by
  obtain ⟨p, A, c, sd, h1, h2⟩ := h
  exact ⟨p, A, c, sd, Nat.le_trans h1 ha, h2⟩
theorem CurAt.lt {B : Nat} {l : List Int} {a : Nat} {w : World} (h : CurAt B l a w) : B < w.heap.size := by
  obtain ⟨p, A, c, sd, h1, h2⟩ := h
  exact h2.lt
theorem CurAt.keep {B : Nat} {l : List Int} {a : Nat} {w w' : World} (h : CurAt B l a w) (k : Below (B + 1) w w') : CurAt B l a w' := by
  obtain ⟨p, A, c, sd, h1, h2⟩ := h
  exact ⟨p, A, c, sd, h1, h2.keep k⟩
theorem CurAt.below {B : Nat} {l : List Int} {a : Nat} {w w' : World} (h : CurAt B l a w) (k : Below w.heap.size w w') : CurAt B l a w' := h.keep (k.mono h.lt)
theorem CurAt.gro {B : Nat} {l : List Int} {a : Nat} {w w' : World} {r : Option Nat} (h : CurAt B l a w) (k : w.grownBy w' r) (hr : ∀ q, r = some q → B < q) : CurAt B l a w' :=
  h.keep ⟨k.os, k.tape, k.output, k.size, fun i hi => k.block i (by have := h.lt; omega) (fun e => by have := hr i e.symm; omega)⟩
theorem Drew.refl {B : Nat} {l : List Int} {a : Nat} {w : World} (h : CurAt B l a w) (k : Nat) : Drew B l a k w w := ⟨h.mono (by omega), World.grownBy.refl _ _⟩
theorem Drew.trans {B : Nat} {l : List Int} {a k j : Nat} {w w1 w2 : World} (h : Drew B l a k w w1) (g : Drew B l (a + k) j w1 w2) : Drew B l a (k + j) w w2 := ⟨by rw [← Nat.add_assoc]; exact g.1, gro_trans h.2 g.2⟩
theorem Drew.more {B : Nat} {l : List Int} {a k k' : Nat} {w w1 : World} (h : Drew B l a k w w1) (hk : k ≤ k') : Drew B l a k' w w1 := ⟨h.1.mono (by omega), h.2⟩
theorem Drew.bel {B : Nat} {l : List Int} {a k : Nat} {w w1 w2 : World} (h : Drew B l a k w w1) (g : Below w1.heap.size w1 w2) : Drew B l a k w w2 := ⟨h.1.below g, gro_bel h.2 g⟩

theorem and_small (y : Int) (h0 : 0 ≤ y) (h1 : y < 18446744073709551616) : ∃ x : Nat, wrap64 (bits .and .u64 y 255) = (x : Int) ∧ x ≤ 255 := by
  obtain ⟨n, rfl⟩ := Int.eq_ofNat_of_zero_le h0
  have e := u64_and_nat n 255 (by omega) (by omega)
  have hb : n &&& 255 ≤ 255 := Nat.and_le_right
  refine ⟨n &&& 255, ?_, hb⟩
  rw [show (255 : Int) = ((255 : Nat) : Int) from rfl, e]
  generalize n &&& 255 = m at hb
  unfold wrap64
  omega
set_option maxRecDepth 100000 in
set_option maxHeartbeats 2000000 in
theorem next_c (B : Nat) (l : List Int) (hl : BytesOk l) (a : Nat) (ha : a ≤ 4611686018427387904) (w : World) (hc : CurAt B l a w) :
    Calls Tryz.prog 67 #[.pointer (some ⟨B, 0, none⟩)] w fun e w' => ∃ x : Nat, e = .returned (.int .i64 x) ∧ x ≤ 255 ∧ Drew B l a 1 w w' := by
  obtain ⟨p, A, c, sd, hpa, hci⟩ := hc
  have HI := Lib.hid hci
  obtain ⟨h2, h3, h4, h5, h6, h7, h8⟩ := hci
  have s1 : IntKind.i64.wrap ((p : Int) + 1) = (p : Int) + 1 := IntWalk.i64_in _ (by omega)
  by_cases hlt : p < l.length
  · obtain ⟨b, off, rfl, hb, hbs, hcell⟩ := h8 (by omega)
    obtain ⟨x, hx⟩ : ∃ x, l[p]? = some x := ⟨_, List.getElem?_eq_getElem hlt⟩
    obtain ⟨x0, x1⟩ := hl x (List.mem_of_getElem? hx)
    obtain ⟨n, rfl⟩ := Int.eq_ofNat_of_zero_le x0
    have HX := Lib.hid (bys_get hx)
    have hle : (p : Int) + 1 ≤ (l.length : Int) := by omega
    have hlt2 : (p : Int) < (l.length : Int) := by omega
    clear hx h8 hcell hl
    go_enter Tryz.func67, Tryz.ntmps67
    go_wp2_with fail
    go_quiet (fail)
    have HI1 := Lib.hid (HI.out.dr nq)
    have hg1 := gro_drN (World.grownBy.refl w (some B)) nq
    generalize w.drewN nq = w1 at HI1 hg1 ⊢
    have HG1 := Lib.hid hg1
    clear h3 h4 h5 h6 h7 hg1
    obtain ⟨_, h3, h4, h5, h6, h7, h8⟩ := HI1.out
    obtain ⟨b', off', e', hb', hbs', hcell'⟩ := h8 (by omega)
    cases e'
    have c0 := hcell' p _ HX.out
    clear h8 hcell' hbs hbs'
    go_wp2_with fail
    go_quiet (fail)
    have HI2 := Lib.hid (HI1.out.dr nq)
    have hg2 := gro_drN HG1.out nq
    generalize w1.drewN nq = w2 at HI2 hg2 ⊢
    have HG2 := Lib.hid hg2
    clear h3 h4 h5 h6 h7 hg2 c0
    obtain ⟨_, h3, h4, h5, h6, h7, _⟩ := HI2.out
    have HST := Lib.hid HI2.out.step
    go_wp2_with fail
    go_quiet (fail)
    go_wp2
    go_ret
    exact ⟨n, rfl, by omega, ⟨p + 1, _, _, _, by omega, (HST.out _).1.dr _⟩, gro_drN (gro_trans HG2.out (HST.out _).2) _⟩
  · have hge : (l.length : Int) ≤ (p : Int) := by omega
    clear h8 hl
    go_enter Tryz.func67, Tryz.ntmps67
    go_wp2_with fail
    go_quiet (fail)
    have HI2 := Lib.hid (HI.out.dr nq)
    have hg2 := gro_drN (World.grownBy.refl w (some B)) nq
    generalize w.drewN nq = w2 at HI2 hg2 ⊢
    have HG2 := Lib.hid hg2
    clear h3 h4 h5 h6 h7 hg2
    obtain ⟨_, h3, h4, h5, h6, h7, _⟩ := HI2.out
    have HST := Lib.hid HI2.out.step
    go_wp2_with fail
    go_quiet (fail)
    go_wp2
    go_ret
    obtain ⟨x, hx, hx2⟩ := and_small (IntKind.u64.wrap (IntKind.u64.wrap (IntKind.u64.wrap (sd * 6364136223846793005)) + 1442695040888963407) / 1099511627776) (by rw [IntKind.wrap_u64]; omega) (by rw [IntKind.wrap_u64]; omega)
    rw [hx]
    exact ⟨x, rfl, hx2, ⟨p + 1, _, _, _, by omega, (HST.out _).1.dr _⟩, gro_drN (gro_trans HG2.out (HST.out _).2) _⟩
end Go.Proofs.YtgcdgcidjjdhmaaGreatDoor

namespace Go.Proofs.YtgcdgcidjjdhmaaGreatDoor
set_option linter.unusedVariables false
set_option linter.unusedSimpArgs false
open Go.RowKit

theorem tmod_nat (x : Nat) {n : Int} (hn : 1 < n) : ∃ r : Nat, (x : Int).tmod n = (r : Int) ∧ (r : Int) < n := by
  have h1 := Int.emod_nonneg (x : Int) (show n ≠ 0 by omega)
  have h2 := Int.emod_lt_of_pos (x : Int) (show 0 < n by omega)
  obtain ⟨r, hr⟩ := Int.eq_ofNat_of_zero_le h1
  exact ⟨r, by rw [Int.tmod_eq_emod_of_nonneg (by omega), hr], by omega⟩
set_option maxHeartbeats 1000000 in
theorem pick_c (B : Nat) (l : List Int) (hl : BytesOk l) (a : Nat) (ha : a ≤ 4611686018427387000) (n : Int) (hn : n ≤ 4294967296) (w : World) (hc : CurAt B l a w) :
    Calls Tryz.prog 47 #[.pointer (some ⟨B, 0, none⟩), .int .i64 n] w fun e w' => ∃ x : Nat, e = .returned (.int .i64 x) ∧ (x : Int) < max n 1 ∧ Drew B l a 2 w w' := by
  have HC := Lib.hid hc
  have HL := Lib.hid hl
  clear hc hl
  by_cases h1 : n ≤ 1
  · go_enter Tryz.func47, Tryz.ntmps47
    go_wp2
    go_ret
    exact ⟨0, rfl, by omega, Drew.refl HC.out 2⟩
  · have h1' : 1 < n := by omega
    by_cases h2 : n ≤ 200
    · go_enter Tryz.func47, Tryz.ntmps47
      go_wp2_with fail
      refine (next_c B l HL.out a (by omega) _ HC.out).mono ?_; rintro e w1 ⟨x, rfl, hx, hd⟩
      have HD := Lib.hid hd
      obtain ⟨r, hr, hrn⟩ := tmod_nat x h1'
      clear hd
      go_wp2
      go_ret
      exact ⟨r, rfl, by omega, HD.out.more (by omega)⟩
    · have h2' : 200 < n := by omega
      go_enter Tryz.func47, Tryz.ntmps47
      go_wp2_with fail
      refine (next_c B l HL.out a (by omega) _ HC.out).mono ?_; rintro e w1 ⟨x, rfl, hx, hd⟩
      have HD := Lib.hid hd
      clear hd
      go_wp2_with fail
      refine (next_c B l HL.out (a + 1) (by omega) _ HD.out.1).mono ?_; rintro e w2 ⟨y, rfl, hy, hd⟩
      have HD2 := Lib.hid (HD.out.trans hd)
      obtain ⟨r, hr, hrn⟩ := tmod_nat (x * 256 + y) h1'
      have s1 : IntKind.i64.wrap ((x : Int) * 256) = (x : Int) * 256 := IntWalk.i64_in _ (by omega)
      have s2 : IntKind.i64.wrap ((x : Int) * 256 + (y : Int)) = (x : Int) * 256 + (y : Int) := IntWalk.i64_in _ (by omega)
      have e3 : ((x * 256 + y : Nat) : Int) = (x : Int) * 256 + (y : Int) := by omega
      rw [e3] at hr
      clear e3
      clear hd
      go_wp2
      go_ret
      exact ⟨r, rfl, by omega, HD2.out⟩
set_option maxHeartbeats 1000000 in
theorem one_c (B : Nat) (l : List Int) (hl : BytesOk l) (a : Nat) (ha : a ≤ 4611686018427387000) (n : Int) (hn : n ≤ 4294967296) (w : World) (hc : CurAt B l a w) :
    Calls Tryz.prog 57 #[.pointer (some ⟨B, 0, none⟩), .int .i64 n] w fun e w' => ∃ b : Bool, e = .returned (.bool b) ∧ Drew B l a 2 w w' := by
  have HC := Lib.hid hc
  have HL := Lib.hid hl
  clear hc hl
  go_enter Tryz.func57, Tryz.ntmps57
  go_wp2_with fail
  refine (pick_c B l HL.out a ha n hn _ HC.out).mono ?_; rintro e w1 ⟨x, rfl, hx, hd⟩
  have HD := Lib.hid hd
  clear hd
  go_wp2
  go_ret
  exact ⟨_, rfl, HD.out⟩
set_option maxHeartbeats 1000000 in
theorem among_c (B : Nat) (l : List Int) (hl : BytesOk l) (a : Nat) (ha : a ≤ 4611686018427387000) (v : Value) (q : List Int) (hq0 : 0 < q.length) (hq1 : q.length ≤ 1000) (w : World) (hc : CurAt B l a w) (hq : RdI w v q) (hne : ∀ b off n c, v = .slice (some ⟨b, off, none⟩) n c → b ≠ B) :
    Calls Tryz.prog 39 #[.pointer (some ⟨B, 0, none⟩), v] w fun e w' => ∃ y : Int, e = .returned (.int .i64 y) ∧ y ∈ q ∧ Drew B l a 2 w w' := by
  have HC := Lib.hid hc
  have HL := Lib.hid hl
  obtain ⟨A, c, rfl, hcc, hm, hr⟩ := hq
  rw [maxLen_eq] at hm
  obtain ⟨b, off, rfl, hb, hcell⟩ := hr hq0
  have hbB := hne b off _ _ rfl
  have HCL := Lib.hid hcell
  clear hc hl hr hcell hne
  go_enter Tryz.func39, Tryz.ntmps39
  go_wp2_with fail
  refine (pick_c B l HL.out a ha _ (by omega) _ HC.out).mono ?_; rintro e w1 ⟨x, rfl, hx, hd⟩
  have hxl : x < q.length := by omega
  obtain ⟨y, hy⟩ : ∃ y, q[x]? = some y := ⟨_, List.getElem?_eq_getElem hxl⟩
  have c0 := (gro_cell hd.2 (o := off + x) hb hbB).trans (HCL.out x _ (ints_get hy))
  have x1 : (x : Int) < (q.length : Int) := by omega
  have HD := Lib.hid hd
  have HY := Lib.hid (List.mem_of_getElem? hy)
  clear hd hy hx
  go_wp2
  go_ret
  exact ⟨y, rfl, HY.out, HD.out⟩
end Go.Proofs.YtgcdgcidjjdhmaaGreatDoor

namespace Go.Proofs.YtgcdgcidjjdhmaaGreatDoor
set_option linter.unusedVariables false
set_option linter.unusedSimpArgs false
open Go.RowKit

def bigB (n0 n1 : Nat) : Bool := decide (1048576 < (n0 : Int)) || decide (1048576 - (n0 : Int) < (n1 : Int))
set_option maxHeartbeats 400000 in
theorem big_c (A0 A1 : Option Addr) (n0 c0 n1 c1 : Nat) (w : World) :
    Calls Tryz.prog 4 #[.slice A0 n0 c0, .slice A1 n1 c1] w fun e w' => e = .returned (.bool (bigB n0 n1)) ∧ w = w' := by
  unfold bigB
  by_cases h : 1048576 < (n0 : Int)
  · rw [decide_eq_true h, Bool.true_or]
    go_enter Tryz.func4, Tryz.ntmps4
    go_wp2
    go_ret
    exact ⟨rfl, rfl⟩
  · rw [decide_eq_false h, Bool.false_or]
    have h2 : (n0 : Int) ≤ 1048576 := by omega
    have s1 : IntKind.i64.wrap (1048576 - (n0 : Int)) = 1048576 - (n0 : Int) := IntWalk.i64_in _ (by omega)
    go_enter Tryz.func4, Tryz.ntmps4
    go_wp2
    all_goals (go_ret; exact ⟨rfl, rfl⟩)
end Go.Proofs.YtgcdgcidjjdhmaaGreatDoor
