/-
  Draws: a text with one or two edits (printed by gen_drawpf.py). (joined by pack.py: DrawPf)
-/
import Derived.Test.YtgcdgcidjjdhmaaGreatDoorK31
import Derived.Test.YtgcdgcidjjdhmaaGreatDoorK34
import Derived.Test.YtgcdgcidjjdhmaaGreatDoorK33
import Derived.BigQuiet
namespace Go.Proofs.YtgcdgcidjjdhmaaGreatDoor
set_option linter.unusedVariables false
set_option linter.unusedSimpArgs false
open Go.RowKit

set_option maxRecDepth 100000 in
set_option maxHeartbeats 4000000 in
theorem spoilt_c (B : Nat) (l : List Int) (hl : BytesOk l) (a : Nat) (ha : a ≤ 4611686018427380000) (t S0 : ByteArray) (ht : t.size ≤ 400) (hs : S0.size = 6) (w : World) (hc : CurAt B l a w) :
    Calls Tryz.prog 48 #[.pointer (some ⟨B, 0, none⟩), .string t, .string S0] w fun e w' => ∃ r : ByteArray, e = .returned (.string r) ∧ r.size ≤ t.size + 2 ∧ Drew B l a 20 w w' := by
  have HL := Lib.hid hl
  have HD := Lib.hid (Drew.refl hc 0)
  have HS0 := Lib.hid hs
  have hs6 : S0.size ≤ 6 := by omega
  have hs6' : 6 ≤ S0.size := by omega
  clear hc hl hs
  go_enter Tryz.func48, Tryz.ntmps48
  go_wp2_with fail
  refine (pick_c B l HL.out (a + 0) (by omega) _ (by omega) _ HD.out.1).mono ?_; rintro e w1 ⟨x, rfl, hx, hd⟩
  have HD := Lib.hid (HD.out.trans hd)
  have hx2 : x ≤ 1 := by omega
  clear hx hd
  go_wp2_with fail
  go_loopw [1, 7] (fun v1 v7 wr => ∃ (s : ByteArray) (n j : Nat), s.size + n ≤ t.size + 2 ∧ j + n ≤ 2 ∧ v1 = .string s ∧ v7 = .int .i64 n ∧ Hid (Drew B l a (2 + 6 * j) w wr)) (fun _ v7 _ => (intOf v7).toNat)
  case atStart => exact ⟨t, 1 + x, 0, by omega, by omega, rfl, by simp, HD⟩
  case round =>
    obtain ⟨s, n, j, hsn, hjn, rfl, rfl, HD⟩ := hrel
    by_cases hn : n = 0
    · subst hn
      have n0 : decide ((((0 : Nat) : Int)) > 0) = false := by decide
      go_wp2
      go_ret
      exact ⟨s, rfl, by omega, HD.out.more (by omega)⟩
    · have n1 : 0 < n := by omega
      by_cases hz : s.size = 0
      · have z0 : ¬ (0 < s.size) := by omega
        go_wp2
        go_ret
        exact ⟨s, rfl, by omega, HD.out.more (by omega)⟩
      · have z0 : 0 < s.size := by omega
        go_wp2_with fail
        refine (pick_c B l HL.out (a + (2 + 6 * j)) (by omega) _ (by omega) _ HD.out.1).mono ?_; rintro e w2 ⟨i, rfl, hi, hd⟩
        have HD := Lib.hid (HD.out.trans hd)
        have hi2 : i < s.size := by omega
        clear hi hd
        go_wp2_with fail
        refine (pick_c B l HL.out (a + (2 + 6 * j + 2)) (by omega) _ (by omega) _ HD.out.1).mono ?_; rintro e w3 ⟨y, rfl, hy, hd⟩
        have HD := Lib.hid (HD.out.trans hd)
        have hy2 : y < S0.size := by omega
        clear hy hd
        have hyv : IntKind.u8.wrap (S0[y].toNat : Int) = (S0[y].toNat : Int) := by have := UInt8.toNat_lt S0[y]; simp only [IntKind.wrap, IntKind.bits, IntKind.signed]; simp; omega
        have hcv := fun W => conv_byte W (S0[y].toNat : Int) S0[y] rfl
        go_wp2_with fail
        obtain ⟨q, hq⟩ : ∃ q : ByteArray, (⟨#[S0[y]]⟩ : ByteArray) = q := ⟨_, rfl⟩
        have hq1 : q.size = 1 := by subst hq; rfl
        have hBW : Below w3.heap.size w3 (w3.alloc (.cells #[.int .u8 (S0[y].toNat : Int)] 5)) := bel_al (Below.refl _ _) _
        have HD := Lib.hid (HD.out.bel hBW)
        rw [hq]
        clear hq hcv hyv hBW
        generalize World.alloc w3 _ = w4 at HD ⊢
        refine (pick_c B l HL.out (a + (2 + 6 * j + 2 + 2)) (by omega) _ (by omega) _ HD.out.1).mono ?_; rintro e w5 ⟨z, rfl, hz3, hd⟩
        have HD := Lib.hid (HD.out.trans hd)
        clear hd
        have i0 : (0 : Int) ≤ (i : Int) := by omega
        have i1 : (i : Int) < (s.size : Int) := by omega
        have i2 : (i : Int) ≤ (s.size : Int) := by omega
        have e1 : (s.extract 0 i).size = i := by rw [ByteArray.size_extract]; omega
        have e2 : (s.extract i s.size).size = s.size - i := by rw [ByteArray.size_extract]; omega
        have e3 : (s.extract (i + 1) s.size).size = s.size - (i + 1) := by rw [ByteArray.size_extract]; omega
        have e4 : (s.extract 0 i ++ q).size = i + 1 := by rw [ByteArray.size_append]; omega
        rcases (show z = 0 ∨ z = 1 ∨ z = 2 by omega) with rfl | rfl | rfl
        · go_wp2_with fail
          go_quiet (fail)
          go_wp2
          exact ⟨⟨_, n - 1, j + 1, by simp only [ByteArray.size_append]; omega, by omega, rfl, by rw [show ((n - 1 : Nat) : Int) = (n : Int) - 1 by omega], Lib.hid ((HD.out.bel (below_drewN (Below.refl _ _) nq)).more (by omega))⟩, by simp [intOf]; omega⟩
        · go_wp2_with fail
          go_quiet (fail)
          go_wp2
          exact ⟨⟨_, n - 1, j + 1, by simp only [ByteArray.size_append]; omega, by omega, rfl, by rw [show ((n - 1 : Nat) : Int) = (n : Int) - 1 by omega], Lib.hid ((HD.out.bel (below_drewN (Below.refl _ _) nq)).more (by omega))⟩, by simp [intOf]; omega⟩
        · go_wp2_with fail
          go_quiet (fail)
          go_wp2
          exact ⟨⟨_, n - 1, j + 1, by simp only [ByteArray.size_append]; omega, by omega, rfl, by rw [show ((n - 1 : Nat) : Int) = (n : Int) - 1 by omega], Lib.hid ((HD.out.bel (below_drewN (Below.refl _ _) nq)).more (by omega))⟩, by simp [intOf]; omega⟩
end Go.Proofs.YtgcdgcidjjdhmaaGreatDoor
