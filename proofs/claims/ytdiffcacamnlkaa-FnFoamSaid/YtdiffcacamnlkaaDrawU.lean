/-
  Lists of tankers drawn, and the public draws of foam and flows (printed by gen_draw.py).
-/
import Derived.Test.YtdiffcacamnlkaaDrawT
import Derived.Deep.DeepCutAuto
import Derived.Deep.CutBlock
namespace Go.Proofs.Ytdiffcacamnlkaa
open Go.RowKit

theorem Drew.app {B : Nat} {l : List Int} {a k : Nat} {w w4 w7 : World} {o : Obj} {r : Option Nat} (h : Drew B l a k w w4) (g : (w4.alloc o).grownBy w7 r) (hr : ∀ q, r = some q → w.heap.size ≤ q) (hB : B < w.heap.size) : Drew B l a k w w7 := by
  have h1 : Drew B l a k w (w4.alloc o) := h.bel (bel_al (Below.refl _ _) o)
  exact ⟨h1.1.gro g (fun q e => by have := hr q e; omega), ⟨g.os.trans h1.2.os, g.tape.trans h1.2.tape, g.output.trans h1.2.output, Nat.le_trans h1.2.size g.size, fun i hi hne => (g.block i (Nat.lt_of_lt_of_le hi h1.2.size) (fun e => by have := hr i e.symm; omega)).trans (h1.2.block i hi hne)⟩⟩
def lenOf : Value → Nat
  | .slice _ n _ => n
  | _ => 0
theorem Try.infoTkD : (Try.prog.info? 37).map (fun i => (i.zero, i.size, i.bytes)) = some (some (.agg #[.int .i64 0, .int .i64 0, .int .i64 0, .int .i64 0]), 4, 32) := by kernel_rfl
theorem flat_snoc_tk (l : List Tk) (t : Tk) : (l ++ [t]).flatMap Tk.cells = l.flatMap Tk.cells ++ [.int .i64 t.l, .int .i64 t.f, .int .i64 t.d, .int .i64 t.e] := by rw [List.flatMap_append]; simp [Tk.cells]
set_option maxRecDepth 100000 in
set_option maxHeartbeats 4000000 in
theorem tankers_c (B : Nat) (l : List Int) (hl : BytesOk l) (a : Nat) (ha : a ≤ 4611686018427370000) (w : World) (hc : CurAt B l a w) :
    Calls Try.prog 57 #[.pointer (some ⟨B, 0, none⟩)] w fun e w' => ∃ (v : Value) (T : List Tk), e = .returned v ∧ w'.ownsRow w.heap.size 37 4 v T.length (T.flatMap Tk.cells) ∧ T.length ≤ 14 ∧ Drew B l a 300 w w' := by
  have HL := Lib.hid hl
  have HD := Lib.hid (Drew.refl hc 0)
  have hBb : B < w.heap.size := hc.lt
  obtain ⟨i0, hi, hz0, hz1, hz2⟩ := info_parts Try.infoTkD
  clear hc hl
  go_enter Try.func57, Try.ntmps57
  go_wp2_with fail
  refine (pick_c B l HL.out (a + 0) (by omega) 5 (by omega) _ HD.out.1).mono ?_; rintro e w1 ⟨x, rfl, hx, hd⟩
  have HD := Lib.hid (HD.out.trans hd)
  clear hd
  go_wp2_with fail
  refine (one_c B l HL.out (a + 2) (by omega) 12 (by omega) _ HD.out.1).mono ?_; rintro e w2 ⟨b, rfl, hd⟩
  have HD := Lib.hid (HD.out.trans hd)
  clear hd
  cases b
  · obtain ⟨w3, hw3⟩ : ∃ w3 : World, w2 = w3 := ⟨_, rfl⟩
    obtain ⟨n, hn0⟩ : ∃ n : Nat, x = n := ⟨_, rfl⟩
    have hn : n ≤ 14 := by omega
    rw [hw3] at HD ⊢
    rw [hn0] at ⊢
    have HD6 := Lib.hid (HD.out.more (k' := 6) (by omega))
    have hs3 := HD6.out.2.size
    clear hw3 hn0
    go_wp2_with fail
    go_loopw [3] (fun v3 wr => ∃ (T : List Tk) (A : Option Addr) (c : Nat), v3 = .slice A T.length c ∧ T.length ≤ n ∧ Hid (wr.ownsRow w.heap.size 37 4 (.slice A T.length c) T.length (T.flatMap Tk.cells)) ∧ Hid (Drew B l a (6 + 14 * T.length) w wr)) (fun v3 _ => n - lenOf v3)
    case atStart => exact ⟨[], none, 0, rfl, Nat.zero_le _, Lib.hid (World.ownsRow_nil _ _ _ _), HD6⟩
    case round =>
      obtain ⟨T, A, c, rfl, hTn, HOW, HDR⟩ := hrel
      obtain ⟨wA, rfl⟩ : ∃ wA : World, wA = wr := ⟨_, rfl⟩
      by_cases hlt : T.length < n
      · have hlt2 : (T.length : Int) < (n : Int) := by omega
        go_wp2_with fail
        refine (tanker_c B l HL.out (a + (6 + 14 * T.length)) (by omega) _ HDR.out.1).mono ?_; rintro e w4 ⟨⟨t1, t2, t3, t4⟩, rfl, hd⟩
        have HOW4 := Lib.hid (own_draw HOW.out hd.2 hBb)
        have HD4 := Lib.hid (HDR.out.trans hd)
        have hs4 := HD4.out.2.size
        clear hd
        go_wp2_with (at_builtin; refine wpList_app_rd _ rfl _ _ 29 rfl w.heap.size 37 i0 _ 4 32 Try.underlying29 hi hz0 hz1 hz2 rfl (by decide) _ _ _ rfl (HOW4.out.alloc _) _ 1 [.int .i64 t1, .int .i64 t2, .int .i64 t3, .int .i64 t4] rfl (rd_new _ rfl (Nat.le_refl _) (by rw [maxLen_eq]; omega)) rfl (by intro u hu; simp at hu; rcases hu with rfl | rfl | rfl | rfl <;> rfl) (by rw [maxLen_eq]; omega) (by omega) (by simp; omega) ?_; intro v7 w7 hown7 hgrow7 _)
        obtain ⟨A7, c7, rfl, _⟩ := own_rd hown7
        have hlo := HOW4.out.lt
        have hB7 : Drew B l a (6 + 14 * T.length + 14) w w7 := HD4.out.app hgrow7 (fun q e => (hlo q e).1) hBb
        refine ⟨⟨T ++ [⟨t1, t2, t3, t4⟩], A7, c7, by simp, by simp; omega, Lib.hid ?_, Lib.hid ?_⟩, by simp [lenOf]; omega⟩
        · rw [flat_snoc_tk, List.length_append]; exact hown7
        · rw [List.length_append]; exact hB7.more (by simp; omega)
      · have hge : (n : Int) ≤ (T.length : Int) := by omega
        go_wp2
        go_ret
        exact ⟨_, T, rfl, HOW.out, by omega, HDR.out.more (by omega)⟩
  · go_wp2_with fail
    refine (pick_c B l HL.out (a + 4) (by omega) 2 (by omega) _ HD.out.1).mono ?_; rintro e w3 ⟨y, rfl, hy, hd⟩
    have HD6 := Lib.hid (HD.out.trans hd)
    have s1 : IntKind.i64.wrap (12 + (y : Int)) = ((12 + y : Nat) : Int) := by rw [IntWalk.i64_in _ (by omega)]; omega
    obtain ⟨n, hn0⟩ : ∃ n : Nat, 12 + y = n := ⟨_, rfl⟩
    have hn : n ≤ 14 := by omega
    have hs3 := HD6.out.2.size
    rw [hn0] at s1
    clear hd hn0
    go_wp2_with fail
    go_loopw [3] (fun v3 wr => ∃ (T : List Tk) (A : Option Addr) (c : Nat), v3 = .slice A T.length c ∧ T.length ≤ n ∧ Hid (wr.ownsRow w.heap.size 37 4 (.slice A T.length c) T.length (T.flatMap Tk.cells)) ∧ Hid (Drew B l a (6 + 14 * T.length) w wr)) (fun v3 _ => n - lenOf v3)
    case atStart => exact ⟨[], none, 0, rfl, Nat.zero_le _, Lib.hid (World.ownsRow_nil _ _ _ _), HD6⟩
    case round =>
      obtain ⟨T, A, c, rfl, hTn, HOW, HDR⟩ := hrel
      obtain ⟨wA, rfl⟩ : ∃ wA : World, wA = wr := ⟨_, rfl⟩
      by_cases hlt : T.length < n
      · have hlt2 : (T.length : Int) < (n : Int) := by omega
        go_wp2_with fail
        refine (tanker_c B l HL.out (a + (6 + 14 * T.length)) (by omega) _ HDR.out.1).mono ?_; rintro e w4 ⟨⟨t1, t2, t3, t4⟩, rfl, hd⟩
        have HOW4 := Lib.hid (own_draw HOW.out hd.2 hBb)
        have HD4 := Lib.hid (HDR.out.trans hd)
        have hs4 := HD4.out.2.size
        clear hd
        go_wp2_with (at_builtin; refine wpList_app_rd _ rfl _ _ 29 rfl w.heap.size 37 i0 _ 4 32 Try.underlying29 hi hz0 hz1 hz2 rfl (by decide) _ _ _ rfl (HOW4.out.alloc _) _ 1 [.int .i64 t1, .int .i64 t2, .int .i64 t3, .int .i64 t4] rfl (rd_new _ rfl (Nat.le_refl _) (by rw [maxLen_eq]; omega)) rfl (by intro u hu; simp at hu; rcases hu with rfl | rfl | rfl | rfl <;> rfl) (by rw [maxLen_eq]; omega) (by omega) (by simp; omega) ?_; intro v7 w7 hown7 hgrow7 _)
        obtain ⟨A7, c7, rfl, _⟩ := own_rd hown7
        have hlo := HOW4.out.lt
        have hB7 : Drew B l a (6 + 14 * T.length + 14) w w7 := HD4.out.app hgrow7 (fun q e => (hlo q e).1) hBb
        refine ⟨⟨T ++ [⟨t1, t2, t3, t4⟩], A7, c7, by simp, by simp; omega, Lib.hid ?_, Lib.hid ?_⟩, by simp [lenOf]; omega⟩
        · rw [flat_snoc_tk, List.length_append]; exact hown7
        · rw [List.length_append]; exact hB7.more (by simp; omega)
      · have hge : (n : Int) ≤ (T.length : Int) := by omega
        go_wp2
        go_ret
        exact ⟨_, T, rfl, HOW.out, by omega, HDR.out.more (by omega)⟩

theorem cur_new (w : World) (v : Value) (l : List Int) (hr : Rd w v l.length (bys l)) (hl : l.length ≤ 9223372036854775807) (w1 : World) (h0 : w1.cell? ⟨w.heap.size, 0, none⟩ = some v) (h1 : w1.cell? ⟨w.heap.size, 1, none⟩ = some (.int .i64 0)) (h2 : w1.cell? ⟨w.heap.size, 2, none⟩ = some (.int .u64 0))
    (h3 : w1.frozen? ⟨w.heap.size, 1, none⟩ = false) (h4 : w1.frozen? ⟨w.heap.size, 2, none⟩ = false) (hb : Below w.heap.size w w1) : CurAt w.heap.size l 0 w1 := by
  obtain ⟨A, c, rfl, _, _, hc⟩ := hr
  refine ⟨0, A, c, 0, Nat.le_refl _, hl, h0, h1, h2, h3, h4, fun h => ?_⟩
  obtain ⟨b, off, rfl, hbl, hcl⟩ := hc h
  exact ⟨b, off, rfl, hbl, Nat.lt_of_lt_of_le hbl hb.size, fun j u hu => (hb.cell (p := ⟨b, off + j, none⟩) hbl).trans (hcl j u hu)⟩
theorem Drew.out {l : List Int} {a k : Nat} {w w1 w2 : World} (hb : Below w.heap.size w w1) (h : Drew w.heap.size l a k w1 w2) : Below w.heap.size w w2 := bel_grown hb h.2 (fun q e => by have := Option.some.inj e; omega)

set_option maxRecDepth 100000 in
set_option maxHeartbeats 4000000 in
theorem drawFoamFor_c (v : Value) (l : List Int) (hn : l.length ≤ 9223372036854775807) (hl : BytesOk l) (w : World) (hr : Rd w v l.length (bys l)) :
    Calls Try.prog 6 #[v] w fun e w' => (∃ a b c d : Int, e = .returned (.tuple #[.int .i64 a, .int .i64 b, .int .i64 c, .int .i64 d])) ∧ Below w.heap.size w w' := by
  have HB9 := Lib.hid hr
  have HL := Lib.hid hl
  obtain ⟨A0, c0, rfl, _⟩ := hr
  clear hl
  go_enter Try.func6, Try.ntmps6
  go_upto_region 2 with fail
  generalize hW : World.alloc w _ = w0
  have hc := cur_new w _ l HB9.out hn w0 (by subst hW; simp [go_sem]) (by subst hW; simp [go_sem]) (by subst hW; simp [go_sem]) (by subst hW; simp [go_sem]) (by subst hW; simp [go_sem]) (by subst hW; exact bel_al (Below.refl _ _) _)
  have hb0 : Below w.heap.size w w0 := by subst hW; exact bel_al (Below.refl _ _) _
  obtain ⟨B, hBd⟩ : ∃ B, w.heap.size = B := ⟨_, rfl⟩
  rw [hBd] at hc ⊢
  have HB0 := Lib.hid hb0
  have HBD := Lib.hid hBd
  obtain ⟨a, ha0, ha1⟩ : ∃ a : Nat, a = 0 ∧ a ≤ 0 := ⟨0, rfl, Nat.le_refl _⟩
  rw [← ha0] at hc
  have HD := Lib.hid (Drew.refl hc 0)
  have hBb : B < w0.heap.size := hc.lt
  clear hW hb0 hBd hc ha0
  go_wp2_with fail
  generalize hW : World.alloc w0 _ = W49
  have hq : RdI W49 (.slice (some ⟨w0.heap.size, 0, none⟩) 2 2) [0, 5001] := by subst hW; exact rd_new w0 rfl (Nat.le_refl _) (by rw [maxLen_eq]; omega)
  have hbl : Below w0.heap.size w0 W49 := by subst hW; exact bel_al (Below.refl _ _) _
  have hBW := HD.out.1.lt
  have HD := Lib.hid (HD.out.bel hbl)
  have szW49 := hbl.size
  clear hW hbl
  refine (among_c B l HL.out (a + 0) (by omega) _ [0, 5001] (by simp) (by simp) _ HD.out.1 hq (lit_ne hBW)).mono ?_; rintro e W50 ⟨y51, rfl, _, hd⟩
  clear hq hBW
  have HD := Lib.hid (HD.out.trans hd)
  have szW50 := hd.2.size
  clear hd
  go_wp2_with fail
  generalize hW : World.alloc W50 _ = W52
  have hq : RdI W52 (.slice (some ⟨W50.heap.size, 0, none⟩) 5 5) [1, 100, 333, 5000, y51] := by subst hW; exact rd_new W50 rfl (Nat.le_refl _) (by rw [maxLen_eq]; omega)
  have hbl : Below W50.heap.size W50 W52 := by subst hW; exact bel_al (Below.refl _ _) _
  have hBW := HD.out.1.lt
  have HD := Lib.hid (HD.out.bel hbl)
  have szW52 := hbl.size
  clear hW hbl
  refine (among_c B l HL.out (a + 2) (by omega) _ [1, 100, 333, 5000, y51] (by simp) (by simp) _ HD.out.1 hq (lit_ne hBW)).mono ?_; rintro e W53 ⟨y54, rfl, _, hd⟩
  clear hq hBW
  have HD := Lib.hid (HD.out.trans hd)
  have szW53 := hd.2.size
  clear hd
  go_wp2_with fail
  generalize hW : World.alloc W53 _ = W55
  have hq : RdI W55 (.slice (some ⟨W53.heap.size, 0, none⟩) 2 2) [0, 21] := by subst hW; exact rd_new W53 rfl (Nat.le_refl _) (by rw [maxLen_eq]; omega)
  have hbl : Below W53.heap.size W53 W55 := by subst hW; exact bel_al (Below.refl _ _) _
  have hBW := HD.out.1.lt
  have HD := Lib.hid (HD.out.bel hbl)
  have szW55 := hbl.size
  clear hW hbl
  refine (among_c B l HL.out (a + 4) (by omega) _ [0, 21] (by simp) (by simp) _ HD.out.1 hq (lit_ne hBW)).mono ?_; rintro e W56 ⟨y57, rfl, _, hd⟩
  clear hq hBW
  have HD := Lib.hid (HD.out.trans hd)
  have szW56 := hd.2.size
  clear hd
  go_wp2_with fail
  generalize hW : World.alloc W56 _ = W58
  have hq : RdI W58 (.slice (some ⟨W56.heap.size, 0, none⟩) 5 5) [1, 4, 7, 20, y57] := by subst hW; exact rd_new W56 rfl (Nat.le_refl _) (by rw [maxLen_eq]; omega)
  have hbl : Below W56.heap.size W56 W58 := by subst hW; exact bel_al (Below.refl _ _) _
  have hBW := HD.out.1.lt
  have HD := Lib.hid (HD.out.bel hbl)
  have szW58 := hbl.size
  clear hW hbl
  refine (among_c B l HL.out (a + 6) (by omega) _ [1, 4, 7, 20, y57] (by simp) (by simp) _ HD.out.1 hq (lit_ne hBW)).mono ?_; rintro e W59 ⟨y60, rfl, _, hd⟩
  clear hq hBW
  have HD := Lib.hid (HD.out.trans hd)
  have szW59 := hd.2.size
  clear hd
  go_wp2_with fail
  generalize hW : World.alloc W59 _ = W61
  have hq : RdI W61 (.slice (some ⟨W59.heap.size, 0, none⟩) 2 2) [0, 7] := by subst hW; exact rd_new W59 rfl (Nat.le_refl _) (by rw [maxLen_eq]; omega)
  have hbl : Below W59.heap.size W59 W61 := by subst hW; exact bel_al (Below.refl _ _) _
  have hBW := HD.out.1.lt
  have HD := Lib.hid (HD.out.bel hbl)
  have szW61 := hbl.size
  clear hW hbl
  refine (among_c B l HL.out (a + 8) (by omega) _ [0, 7] (by simp) (by simp) _ HD.out.1 hq (lit_ne hBW)).mono ?_; rintro e W62 ⟨y63, rfl, _, hd⟩
  clear hq hBW
  have HD := Lib.hid (HD.out.trans hd)
  have szW62 := hd.2.size
  clear hd
  go_wp2_with fail
  generalize hW : World.alloc W62 _ = W64
  have hq : RdI W64 (.slice (some ⟨W62.heap.size, 0, none⟩) 4 4) [1, 3, 6, y63] := by subst hW; exact rd_new W62 rfl (Nat.le_refl _) (by rw [maxLen_eq]; omega)
  have hbl : Below W62.heap.size W62 W64 := by subst hW; exact bel_al (Below.refl _ _) _
  have hBW := HD.out.1.lt
  have HD := Lib.hid (HD.out.bel hbl)
  have szW64 := hbl.size
  clear hW hbl
  refine (among_c B l HL.out (a + 10) (by omega) _ [1, 3, 6, y63] (by simp) (by simp) _ HD.out.1 hq (lit_ne hBW)).mono ?_; rintro e W65 ⟨y66, rfl, _, hd⟩
  clear hq hBW
  have HD := Lib.hid (HD.out.trans hd)
  have szW65 := hd.2.size
  clear hd
  go_wp2_with fail
  generalize hW : World.alloc W65 _ = W67
  have hq : RdI W67 (.slice (some ⟨W65.heap.size, 0, none⟩) 2 2) [0, 61] := by subst hW; exact rd_new W65 rfl (Nat.le_refl _) (by rw [maxLen_eq]; omega)
  have hbl : Below W65.heap.size W65 W67 := by subst hW; exact bel_al (Below.refl _ _) _
  have hBW := HD.out.1.lt
  have HD := Lib.hid (HD.out.bel hbl)
  have szW67 := hbl.size
  clear hW hbl
  refine (among_c B l HL.out (a + 12) (by omega) _ [0, 61] (by simp) (by simp) _ HD.out.1 hq (lit_ne hBW)).mono ?_; rintro e W68 ⟨y69, rfl, _, hd⟩
  clear hq hBW
  have HD := Lib.hid (HD.out.trans hd)
  have szW68 := hd.2.size
  clear hd
  go_wp2_with fail
  generalize hW : World.alloc W68 _ = W70
  have hq : RdI W70 (.slice (some ⟨W68.heap.size, 0, none⟩) 4 4) [1, 15, 60, y69] := by subst hW; exact rd_new W68 rfl (Nat.le_refl _) (by rw [maxLen_eq]; omega)
  have hbl : Below W68.heap.size W68 W70 := by subst hW; exact bel_al (Below.refl _ _) _
  have hBW := HD.out.1.lt
  have HD := Lib.hid (HD.out.bel hbl)
  have szW70 := hbl.size
  clear hW hbl
  refine (among_c B l HL.out (a + 14) (by omega) _ [1, 15, 60, y69] (by simp) (by simp) _ HD.out.1 hq (lit_ne hBW)).mono ?_; rintro e W71 ⟨y72, rfl, _, hd⟩
  clear hq hBW
  have HD := Lib.hid (HD.out.trans hd)
  have szW71 := hd.2.size
  clear hd
  go_wp2
  have hbb : Below B w w0 := by rw [← HBD.out]; exact HB0.out
  have hfin : Below B w W71 := ⟨HD.out.2.os.trans hbb.os, HD.out.2.tape.trans hbb.tape, HD.out.2.output.trans hbb.output, Nat.le_trans hbb.size HD.out.2.size, fun i hi => (HD.out.2.block i (by omega) (fun e => by have := Option.some.inj e; omega)).trans (hbb.block i hi)⟩
  refine bodyPost_ret (v := .tuple #[.int .i64 y54, .int .i64 y60, .int .i64 y66, .int .i64 y72]) (by simp [results, Try.results6, go_sem]) rfl ?_
  exact ⟨⟨y54, y60, y66, y72, rfl⟩, by rw [HBD.out]; exact hfin⟩
set_option maxRecDepth 100000 in
set_option maxHeartbeats 4000000 in
theorem drawFoamLasts_c (v : Value) (l : List Int) (hn : l.length ≤ 9223372036854775807) (hl : BytesOk l) (w : World) (hr : Rd w v l.length (bys l)) :
    Calls Try.prog 9 #[v] w fun e w' => (∃ a b c d : Int, e = .returned (.tuple #[.int .i64 a, .int .i64 b, .int .i64 c, .int .i64 d])) ∧ Below w.heap.size w w' := by
  have HB9 := Lib.hid hr
  have HL := Lib.hid hl
  obtain ⟨A0, c0, rfl, _⟩ := hr
  clear hl
  go_enter Try.func9, Try.ntmps9
  go_upto_region 2 with fail
  generalize hW : World.alloc w _ = w0
  have hc := cur_new w _ l HB9.out hn w0 (by subst hW; simp [go_sem]) (by subst hW; simp [go_sem]) (by subst hW; simp [go_sem]) (by subst hW; simp [go_sem]) (by subst hW; simp [go_sem]) (by subst hW; exact bel_al (Below.refl _ _) _)
  have hb0 : Below w.heap.size w w0 := by subst hW; exact bel_al (Below.refl _ _) _
  obtain ⟨B, hBd⟩ : ∃ B, w.heap.size = B := ⟨_, rfl⟩
  rw [hBd] at hc ⊢
  have HB0 := Lib.hid hb0
  have HBD := Lib.hid hBd
  obtain ⟨a, ha0, ha1⟩ : ∃ a : Nat, a = 0 ∧ a ≤ 0 := ⟨0, rfl, Nat.le_refl _⟩
  rw [← ha0] at hc
  have HD := Lib.hid (Drew.refl hc 0)
  have hBb : B < w0.heap.size := hc.lt
  clear hW hb0 hBd hc ha0
  go_wp2_with fail
  generalize hW : World.alloc w0 _ = W73
  have hq : RdI W73 (.slice (some ⟨w0.heap.size, 0, none⟩) 2 2) [-1, 100001] := by subst hW; exact rd_new w0 rfl (Nat.le_refl _) (by rw [maxLen_eq]; omega)
  have hbl : Below w0.heap.size w0 W73 := by subst hW; exact bel_al (Below.refl _ _) _
  have hBW := HD.out.1.lt
  have HD := Lib.hid (HD.out.bel hbl)
  have szW73 := hbl.size
  clear hW hbl
  refine (among_c B l HL.out (a + 0) (by omega) _ [-1, 100001] (by simp) (by simp) _ HD.out.1 hq (lit_ne hBW)).mono ?_; rintro e W74 ⟨y75, rfl, _, hd⟩
  clear hq hBW
  have HD := Lib.hid (HD.out.trans hd)
  have szW74 := hd.2.size
  clear hd
  go_wp2_with fail
  generalize hW : World.alloc W74 _ = W76
  have hq : RdI W76 (.slice (some ⟨W74.heap.size, 0, none⟩) 5 5) [0, 6000, 99, 100000, y75] := by subst hW; exact rd_new W74 rfl (Nat.le_refl _) (by rw [maxLen_eq]; omega)
  have hbl : Below W74.heap.size W74 W76 := by subst hW; exact bel_al (Below.refl _ _) _
  have hBW := HD.out.1.lt
  have HD := Lib.hid (HD.out.bel hbl)
  have szW76 := hbl.size
  clear hW hbl
  refine (among_c B l HL.out (a + 2) (by omega) _ [0, 6000, 99, 100000, y75] (by simp) (by simp) _ HD.out.1 hq (lit_ne hBW)).mono ?_; rintro e W77 ⟨y78, rfl, _, hd⟩
  clear hq hBW
  have HD := Lib.hid (HD.out.trans hd)
  have szW77 := hd.2.size
  clear hd
  go_wp2_with fail
  generalize hW : World.alloc W77 _ = W79
  have hq : RdI W79 (.slice (some ⟨W77.heap.size, 0, none⟩) 2 2) [-1, 100001] := by subst hW; exact rd_new W77 rfl (Nat.le_refl _) (by rw [maxLen_eq]; omega)
  have hbl : Below W77.heap.size W77 W79 := by subst hW; exact bel_al (Below.refl _ _) _
  have hBW := HD.out.1.lt
  have HD := Lib.hid (HD.out.bel hbl)
  have szW79 := hbl.size
  clear hW hbl
  refine (among_c B l HL.out (a + 4) (by omega) _ [-1, 100001] (by simp) (by simp) _ HD.out.1 hq (lit_ne hBW)).mono ?_; rintro e W80 ⟨y81, rfl, _, hd⟩
  clear hq hBW
  have HD := Lib.hid (HD.out.trans hd)
  have szW80 := hd.2.size
  clear hd
  go_wp2_with fail
  generalize hW : World.alloc W80 _ = W82
  have hq : RdI W82 (.slice (some ⟨W80.heap.size, 0, none⟩) 5 5) [0, 200, 20, 100000, y81] := by subst hW; exact rd_new W80 rfl (Nat.le_refl _) (by rw [maxLen_eq]; omega)
  have hbl : Below W80.heap.size W80 W82 := by subst hW; exact bel_al (Below.refl _ _) _
  have hBW := HD.out.1.lt
  have HD := Lib.hid (HD.out.bel hbl)
  have szW82 := hbl.size
  clear hW hbl
  refine (among_c B l HL.out (a + 6) (by omega) _ [0, 200, 20, 100000, y81] (by simp) (by simp) _ HD.out.1 hq (lit_ne hBW)).mono ?_; rintro e W83 ⟨y84, rfl, _, hd⟩
  clear hq hBW
  have HD := Lib.hid (HD.out.trans hd)
  have szW83 := hd.2.size
  clear hd
  go_wp2_with fail
  refine (takenFlow_c B l HL.out (a + 8) (by omega) _ HD.out.1).mono ?_; rintro e W86 ⟨f85, rfl, hd⟩
  have HD := Lib.hid (HD.out.trans hd)
  have szW86 := hd.2.size
  clear hd
  go_wp2_with fail
  generalize hW : World.alloc W86 _ = W87
  have hq : RdI W87 (.slice (some ⟨W86.heap.size, 0, none⟩) 2 2) [0, 7] := by subst hW; exact rd_new W86 rfl (Nat.le_refl _) (by rw [maxLen_eq]; omega)
  have hbl : Below W86.heap.size W86 W87 := by subst hW; exact bel_al (Below.refl _ _) _
  have hBW := HD.out.1.lt
  have HD := Lib.hid (HD.out.bel hbl)
  have szW87 := hbl.size
  clear hW hbl
  refine (among_c B l HL.out (a + 14) (by omega) _ [0, 7] (by simp) (by simp) _ HD.out.1 hq (lit_ne hBW)).mono ?_; rintro e W88 ⟨y89, rfl, _, hd⟩
  clear hq hBW
  have HD := Lib.hid (HD.out.trans hd)
  have szW88 := hd.2.size
  clear hd
  go_wp2_with fail
  generalize hW : World.alloc W88 _ = W90
  have hq : RdI W90 (.slice (some ⟨W88.heap.size, 0, none⟩) 4 4) [1, 3, 6, y89] := by subst hW; exact rd_new W88 rfl (Nat.le_refl _) (by rw [maxLen_eq]; omega)
  have hbl : Below W88.heap.size W88 W90 := by subst hW; exact bel_al (Below.refl _ _) _
  have hBW := HD.out.1.lt
  have HD := Lib.hid (HD.out.bel hbl)
  have szW90 := hbl.size
  clear hW hbl
  refine (among_c B l HL.out (a + 16) (by omega) _ [1, 3, 6, y89] (by simp) (by simp) _ HD.out.1 hq (lit_ne hBW)).mono ?_; rintro e W91 ⟨y92, rfl, _, hd⟩
  clear hq hBW
  have HD := Lib.hid (HD.out.trans hd)
  have szW91 := hd.2.size
  clear hd
  go_wp2
  have hbb : Below B w w0 := by rw [← HBD.out]; exact HB0.out
  have hfin : Below B w W91 := ⟨HD.out.2.os.trans hbb.os, HD.out.2.tape.trans hbb.tape, HD.out.2.output.trans hbb.output, Nat.le_trans hbb.size HD.out.2.size, fun i hi => (HD.out.2.block i (by omega) (fun e => by have := Option.some.inj e; omega)).trans (hbb.block i hi)⟩
  refine bodyPost_ret (v := .tuple #[.int .i64 y78, .int .i64 y84, .int .i64 f85, .int .i64 y92]) (by simp [results, Try.results9, go_sem]) rfl ?_
  exact ⟨⟨y78, y84, f85, y92, rfl⟩, by rw [HBD.out]; exact hfin⟩
set_option maxRecDepth 100000 in
set_option maxHeartbeats 4000000 in
theorem drawFlowOf_c (v : Value) (l : List Int) (hn : l.length ≤ 9223372036854775807) (hl : BytesOk l) (w : World) (hr : Rd w v l.length (bys l)) :
    Calls Try.prog 15 #[v] w fun e w' => (∃ (x : Value) (T : List Tk), e = .returned x ∧ Rd w' x T.length (T.flatMap Tk.cells) ∧ T.length ≤ 14) ∧ Below w.heap.size w w' := by
  have HB9 := Lib.hid hr
  have HL := Lib.hid hl
  obtain ⟨A0, c0, rfl, _⟩ := hr
  clear hl
  go_enter Try.func15, Try.ntmps15
  go_upto_region 2 with fail
  generalize hW : World.alloc w _ = w0
  have hc := cur_new w _ l HB9.out hn w0 (by subst hW; simp [go_sem]) (by subst hW; simp [go_sem]) (by subst hW; simp [go_sem]) (by subst hW; simp [go_sem]) (by subst hW; simp [go_sem]) (by subst hW; exact bel_al (Below.refl _ _) _)
  have hb0 : Below w.heap.size w w0 := by subst hW; exact bel_al (Below.refl _ _) _
  obtain ⟨B, hBd⟩ : ∃ B, w.heap.size = B := ⟨_, rfl⟩
  rw [hBd] at hc ⊢
  have HB0 := Lib.hid hb0
  have HBD := Lib.hid hBd
  obtain ⟨a, ha0, ha1⟩ : ∃ a : Nat, a = 0 ∧ a ≤ 0 := ⟨0, rfl, Nat.le_refl _⟩
  rw [← ha0] at hc
  have HD := Lib.hid (Drew.refl hc 0)
  have hBb : B < w0.heap.size := hc.lt
  clear hW hb0 hBd hc ha0
  go_wp2_with fail
  refine (tankers_c B l HL.out (a + 0) (by omega) _ HD.out.1).mono ?_; rintro e w9 ⟨v9, T, rfl, ho, hT, hd⟩
  have HD := Lib.hid (HD.out.trans hd)
  have HO := Lib.hid ho
  have sz9 := hd.2.size
  clear hd ho
  go_wp2
  go_ret
  have hbb : Below B w w0 := by rw [← HBD.out]; exact HB0.out
  have hfin : Below B w w9 := ⟨HD.out.2.os.trans hbb.os, HD.out.2.tape.trans hbb.tape, HD.out.2.output.trans hbb.output, Nat.le_trans hbb.size HD.out.2.size, fun i hi => (HD.out.2.block i (by omega) (fun e => by have := Option.some.inj e; omega)).trans (hbb.block i hi)⟩
  exact ⟨⟨v9, T, rfl, own_rd HO.out, hT⟩, by rw [HBD.out]; exact hfin⟩
theorem drawFillOrder_c (v : Value) (l : List Int) (hn : l.length ≤ 9223372036854775807) (hl : BytesOk l) (w : World) (hr : Rd w v l.length (bys l)) :
    Calls Try.prog 12 #[v] w fun e w' => (∃ (x : Value) (T : List Tk), e = .returned x ∧ Rd w' x T.length (T.flatMap Tk.cells) ∧ T.length ≤ 14) ∧ Below w.heap.size w w' := by
  have HB9 := Lib.hid hr
  have HL := Lib.hid hl
  clear hr hl
  go_enter Try.func12, Try.ntmps12
  go_wp2_with fail
  refine (drawFlowOf_c v l hn HL.out _ HB9.out).mono ?_; rintro e w1 ⟨⟨x, T, rfl, hr, hT⟩, hb⟩
  have HR := Lib.hid hr
  have HB := Lib.hid hb
  clear hr hb
  go_wp2
  go_ret
  exact ⟨⟨x, T, rfl, HR.out, hT⟩, HB.out⟩

end Go.Proofs.Ytdiffcacamnlkaa
