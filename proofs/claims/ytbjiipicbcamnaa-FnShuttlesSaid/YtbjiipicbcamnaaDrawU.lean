/-
  Lists of tankers drawn, and the public draws of foam and flows (printed by gen_draw.py).
-/
import Derived.Test.YtbjiipicbcamnaaDrawT
import Derived.Deep.DeepCutAuto
import Derived.Deep.CutBlock
namespace Go.Proofs.Ytbjiipicbcamnaa
open Go.RowKit

theorem Try.infoTkD : (Try.prog.info? 42).map (fun i => (i.zero, i.size, i.bytes)) = some (some (.agg #[.int .i64 0, .int .i64 0, .int .i64 0, .int .i64 0]), 4, 32) := by kernel_rfl
theorem flat_snoc_tk (l : List Tk) (t : Tk) : (l ++ [t]).flatMap Tk.cells = l.flatMap Tk.cells ++ [.int .i64 t.l, .int .i64 t.f, .int .i64 t.d, .int .i64 t.e] := by rw [List.flatMap_append]; simp [Tk.cells]
set_option maxRecDepth 100000 in
set_option maxHeartbeats 4000000 in
theorem tankers_c (B : Nat) (l : List Int) (hl : BytesOk l) (a : Nat) (ha : a ≤ 4611686018427370000) (w : World) (hc : CurAt B l a w) :
    Calls Try.prog 43 #[.pointer (some ⟨B, 0, none⟩)] w fun e w' => ∃ (v : Value) (T : List Tk), e = .returned v ∧ w'.ownsRow w.heap.size 42 4 v T.length (T.flatMap Tk.cells) ∧ T.length ≤ 14 ∧ Drew B l a 300 w w' := by
  have HL := Lib.hid hl
  have HD := Lib.hid (Drew.refl hc 0)
  have hBb : B < w.heap.size := hc.lt
  obtain ⟨i0, hi, hz0, hz1, hz2⟩ := info_parts Try.infoTkD
  clear hc hl
  go_enter Try.func43, Try.ntmps43
  go_wp2_with fail
  refine (pick_c B l HL.out (a + 0) (by omega) 5 (by omega) _ HD.out.1).mono ?_; rintro e w1 ⟨x, rfl, hx, hd⟩
  have HD := Lib.hid (HD.out.trans hd)
  clear hd
  go_wp2_with fail
  refine (one_c B l HL.out (a + 2) (by omega) 12 (by omega) _ HD.out.1).mono ?_; rintro e w2 ⟨b, rfl, hd⟩
  have HD := Lib.hid (HD.out.trans hd)
  clear hd
  cases b
  · obtain ⟨w3, hw3⟩ : ∃ w3 : World, w2 = w3 := ⟨_, rfl⟩
    obtain ⟨n, hn0⟩ : ∃ n : Nat, x = n := ⟨_, rfl⟩
    have hn : n ≤ 14 := by omega
    rw [hw3] at HD ⊢
    rw [hn0] at ⊢
    have HD6 := Lib.hid (HD.out.more (k' := 6) (by omega))
    have hs3 := HD6.out.2.size
    clear hw3 hn0
    go_wp2_with fail
    go_loopw [3] (fun v3 wr => ∃ (T : List Tk) (A : Option Addr) (c : Nat), v3 = .slice A T.length c ∧ T.length ≤ n ∧ Hid (wr.ownsRow w.heap.size 42 4 (.slice A T.length c) T.length (T.flatMap Tk.cells)) ∧ Hid (Drew B l a (6 + 14 * T.length) w wr)) (fun v3 _ => n - lenOf v3)
    case atStart => exact ⟨[], none, 0, rfl, Nat.zero_le _, Lib.hid (World.ownsRow_nil _ _ _ _), HD6⟩
    case round =>
      obtain ⟨T, A, c, rfl, hTn, HOW, HDR⟩ := hrel
      obtain ⟨wA, rfl⟩ : ∃ wA : World, wA = wr := ⟨_, rfl⟩
      by_cases hlt : T.length < n
      · have hlt2 : (T.length : Int) < (n : Int) := by omega
        go_wp2_with fail
        refine (tanker_c B l HL.out (a + (6 + 14 * T.length)) (by omega) _ HDR.out.1).mono ?_; rintro e w4 ⟨⟨t1, t2, t3, t4⟩, rfl, hd⟩
        have HOW4 := Lib.hid (own_draw HOW.out hd.2 hBb)
        have HD4 := Lib.hid (HDR.out.trans hd)
        have hs4 := HD4.out.2.size
        clear hd
        go_wp2_with (at_builtin; refine wpList_app_rd _ rfl _ _ 27 rfl w.heap.size 42 i0 _ 4 32 Try.underlying27 hi hz0 hz1 hz2 rfl (by decide) _ _ _ rfl (HOW4.out.alloc _) _ 1 [.int .i64 t1, .int .i64 t2, .int .i64 t3, .int .i64 t4] rfl (rd_new _ rfl (Nat.le_refl _) (by rw [maxLen_eq]; omega)) rfl (by intro u hu; simp at hu; rcases hu with rfl | rfl | rfl | rfl <;> rfl) (by rw [maxLen_eq]; omega) (by omega) (by simp; omega) ?_; intro v7 w7 hown7 hgrow7 _)
        obtain ⟨A7, c7, rfl, _⟩ := own_rd hown7
        have hlo := HOW4.out.lt
        have hB7 : Drew B l a (6 + 14 * T.length + 14) w w7 := HD4.out.app hgrow7 (fun q e => (hlo q e).1) hBb
        refine ⟨⟨T ++ [⟨t1, t2, t3, t4⟩], A7, c7, by simp, by simp; omega, Lib.hid ?_, Lib.hid ?_⟩, by simp [lenOf]; omega⟩
        · rw [flat_snoc_tk, List.length_append]; exact hown7
        · rw [List.length_append]; exact hB7.more (by simp; omega)
      · have hge : (n : Int) ≤ (T.length : Int) := by omega
        go_wp2
        go_ret
        exact ⟨_, T, rfl, HOW.out, by omega, HDR.out.more (by omega)⟩
  · go_wp2_with fail
    refine (pick_c B l HL.out (a + 4) (by omega) 2 (by omega) _ HD.out.1).mono ?_; rintro e w3 ⟨y, rfl, hy, hd⟩
    have HD6 := Lib.hid (HD.out.trans hd)
    have s1 : IntKind.i64.wrap (12 + (y : Int)) = ((12 + y : Nat) : Int) := by rw [IntWalk.i64_in _ (by omega)]; omega
    obtain ⟨n, hn0⟩ : ∃ n : Nat, 12 + y = n := ⟨_, rfl⟩
    have hn : n ≤ 14 := by omega
    have hs3 := HD6.out.2.size
    rw [hn0] at s1
    clear hd hn0
    go_wp2_with fail
    go_loopw [3] (fun v3 wr => ∃ (T : List Tk) (A : Option Addr) (c : Nat), v3 = .slice A T.length c ∧ T.length ≤ n ∧ Hid (wr.ownsRow w.heap.size 42 4 (.slice A T.length c) T.length (T.flatMap Tk.cells)) ∧ Hid (Drew B l a (6 + 14 * T.length) w wr)) (fun v3 _ => n - lenOf v3)
    case atStart => exact ⟨[], none, 0, rfl, Nat.zero_le _, Lib.hid (World.ownsRow_nil _ _ _ _), HD6⟩
    case round =>
      obtain ⟨T, A, c, rfl, hTn, HOW, HDR⟩ := hrel
      obtain ⟨wA, rfl⟩ : ∃ wA : World, wA = wr := ⟨_, rfl⟩
      by_cases hlt : T.length < n
      · have hlt2 : (T.length : Int) < (n : Int) := by omega
        go_wp2_with fail
        refine (tanker_c B l HL.out (a + (6 + 14 * T.length)) (by omega) _ HDR.out.1).mono ?_; rintro e w4 ⟨⟨t1, t2, t3, t4⟩, rfl, hd⟩
        have HOW4 := Lib.hid (own_draw HOW.out hd.2 hBb)
        have HD4 := Lib.hid (HDR.out.trans hd)
        have hs4 := HD4.out.2.size
        clear hd
        go_wp2_with (at_builtin; refine wpList_app_rd _ rfl _ _ 27 rfl w.heap.size 42 i0 _ 4 32 Try.underlying27 hi hz0 hz1 hz2 rfl (by decide) _ _ _ rfl (HOW4.out.alloc _) _ 1 [.int .i64 t1, .int .i64 t2, .int .i64 t3, .int .i64 t4] rfl (rd_new _ rfl (Nat.le_refl _) (by rw [maxLen_eq]; omega)) rfl (by intro u hu; simp at hu; rcases hu with rfl | rfl | rfl | rfl <;> rfl) (by rw [maxLen_eq]; omega) (by omega) (by simp; omega) ?_; intro v7 w7 hown7 hgrow7 _)
        obtain ⟨A7, c7, rfl, _⟩ := own_rd hown7
        have hlo := HOW4.out.lt
        have hB7 : Drew B l a (6 + 14 * T.length + 14) w w7 := HD4.out.app hgrow7 (fun q e => (hlo q e).1) hBb
        refine ⟨⟨T ++ [⟨t1, t2, t3, t4⟩], A7, c7, by simp, by simp; omega, Lib.hid ?_, Lib.hid ?_⟩, by simp [lenOf]; omega⟩
        · rw [flat_snoc_tk, List.length_append]; exact hown7
        · rw [List.length_append]; exact hB7.more (by simp; omega)
      · have hge : (n : Int) ≤ (T.length : Int) := by omega
        go_wp2
        go_ret
        exact ⟨_, T, rfl, HOW.out, by omega, HDR.out.more (by omega)⟩


end Go.Proofs.Ytbjiipicbcamnaa
