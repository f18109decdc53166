/-
  Draws: pick, one, among.
-/
import Derived.Test.YtbjiipicbcamnaaCur
namespace Go.Proofs.Ytbjiipicbcamnaa
open Go.RowKit

theorem tmod_nat (x : Nat) {n : Int} (hn : 1 < n) : ∃ r : Nat, (x : Int).tmod n = (r : Int) ∧ (r : Int) < n := by
  have h1 := Int.emod_nonneg (x : Int) (show n ≠ 0 by omega)
  have h2 := Int.emod_lt_of_pos (x : Int) (show 0 < n by omega)
  obtain ⟨r, hr⟩ := Int.eq_ofNat_of_zero_le h1
  exact ⟨r, by rw [Int.tmod_eq_emod_of_nonneg (by omega), hr], by omega⟩
set_option maxHeartbeats 1000000 in
theorem pick_c (B : Nat) (l : List Int) (hl : BytesOk l) (a : Nat) (ha : a ≤ 4611686018427387000) (n : Int) (hn : n ≤ 4294967296) (w : World) (hc : CurAt B l a w) :
    Calls Try.prog 62 #[.pointer (some ⟨B, 0, none⟩), .int .i64 n] w fun e w' => ∃ x : Nat, e = .returned (.int .i64 x) ∧ (x : Int) < max n 1 ∧ Drew B l a 2 w w' := by
  have HC := Lib.hid hc
  have HL := Lib.hid hl
  clear hc hl
  by_cases h1 : n ≤ 1
  · go_enter Try.func62, Try.ntmps62
    go_wp2
    go_ret
    exact ⟨0, rfl, by omega, Drew.refl HC.out 2⟩
  · have h1' : 1 < n := by omega
    by_cases h2 : n ≤ 200
    · go_enter Try.func62, Try.ntmps62
      go_wp2_with fail
      refine (next_c B l HL.out a (by omega) _ HC.out).mono ?_; rintro e w1 ⟨x, rfl, hx, hd⟩
      have HD := Lib.hid hd
      obtain ⟨r, hr, hrn⟩ := tmod_nat x h1'
      clear hd
      go_wp2
      go_ret
      exact ⟨r, rfl, by omega, HD.out.more (by omega)⟩
    · have h2' : 200 < n := by omega
      go_enter Try.func62, Try.ntmps62
      go_wp2_with fail
      refine (next_c B l HL.out a (by omega) _ HC.out).mono ?_; rintro e w1 ⟨x, rfl, hx, hd⟩
      have HD := Lib.hid hd
      clear hd
      go_wp2_with fail
      refine (next_c B l HL.out (a + 1) (by omega) _ HD.out.1).mono ?_; rintro e w2 ⟨y, rfl, hy, hd⟩
      have HD2 := Lib.hid (HD.out.trans hd)
      obtain ⟨r, hr, hrn⟩ := tmod_nat (x * 256 + y) h1'
      have s1 : IntKind.i64.wrap ((x : Int) * 256) = (x : Int) * 256 := IntWalk.i64_in _ (by omega)
      have s2 : IntKind.i64.wrap ((x : Int) * 256 + (y : Int)) = (x : Int) * 256 + (y : Int) := IntWalk.i64_in _ (by omega)
      have e3 : ((x * 256 + y : Nat) : Int) = (x : Int) * 256 + (y : Int) := by omega
      rw [e3] at hr
      clear e3
      clear hd
      go_wp2
      go_ret
      exact ⟨r, rfl, by omega, HD2.out⟩
set_option maxHeartbeats 1000000 in
theorem one_c (B : Nat) (l : List Int) (hl : BytesOk l) (a : Nat) (ha : a ≤ 4611686018427387000) (n : Int) (hn : n ≤ 4294967296) (w : World) (hc : CurAt B l a w) :
    Calls Try.prog 63 #[.pointer (some ⟨B, 0, none⟩), .int .i64 n] w fun e w' => ∃ b : Bool, e = .returned (.bool b) ∧ Drew B l a 2 w w' := by
  have HC := Lib.hid hc
  have HL := Lib.hid hl
  clear hc hl
  go_enter Try.func63, Try.ntmps63
  go_wp2_with fail
  refine (pick_c B l HL.out a ha n hn _ HC.out).mono ?_; rintro e w1 ⟨x, rfl, hx, hd⟩
  have HD := Lib.hid hd
  clear hd
  go_wp2
  go_ret
  exact ⟨_, rfl, HD.out⟩
set_option maxHeartbeats 1000000 in
theorem among_c (B : Nat) (l : List Int) (hl : BytesOk l) (a : Nat) (ha : a ≤ 4611686018427387000) (v : Value) (q : List Int) (hq0 : 0 < q.length) (hq1 : q.length ≤ 1000) (w : World) (hc : CurAt B l a w) (hq : RdI w v q) (hne : ∀ b off n c, v = .slice (some ⟨b, off, none⟩) n c → b ≠ B) :
    Calls Try.prog 56 #[.pointer (some ⟨B, 0, none⟩), v] w fun e w' => ∃ y : Int, e = .returned (.int .i64 y) ∧ y ∈ q ∧ Drew B l a 2 w w' := by
  have HC := Lib.hid hc
  have HL := Lib.hid hl
  obtain ⟨A, c, rfl, hcc, hm, hr⟩ := hq
  rw [maxLen_eq] at hm
  obtain ⟨b, off, rfl, hb, hcell⟩ := hr hq0
  have hbB := hne b off _ _ rfl
  have HCL := Lib.hid hcell
  clear hc hl hr hcell hne
  go_enter Try.func56, Try.ntmps56
  go_wp2_with fail
  refine (pick_c B l HL.out a ha _ (by omega) _ HC.out).mono ?_; rintro e w1 ⟨x, rfl, hx, hd⟩
  have hxl : x < q.length := by omega
  obtain ⟨y, hy⟩ : ∃ y, q[x]? = some y := ⟨_, List.getElem?_eq_getElem hxl⟩
  have c0 := (gro_cell hd.2 (o := off + x) hb hbB).trans (HCL.out x _ (ints_get hy))
  have x1 : (x : Int) < (q.length : Int) := by omega
  have HD := Lib.hid hd
  have HY := Lib.hid (List.mem_of_getElem? hy)
  clear hd hy hx
  go_wp2
  go_ret
  exact ⟨y, rfl, HY.out, HD.out⟩
end Go.Proofs.Ytbjiipicbcamnaa
