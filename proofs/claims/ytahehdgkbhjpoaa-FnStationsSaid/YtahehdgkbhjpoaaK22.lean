/-
  Draws of limits, stations and movers (printed by gen_drawt.py). (joined by pack.py: DrawTa)
-/
import Derived.Test.YtahehdgkbhjpoaaK18
import Derived.Test.YtahehdgkbhjpoaaK3
import Derived.Test.YtahehdgkbhjpoaaK7
import Derived.Test.YtahehdgkbhjpoaaK5
import Derived.Deep.DeepCutAuto
import Derived.Deep.CutBlock
namespace Go.Proofs.Ytahehdgkbhjpoaa
set_option linter.unusedVariables false
set_option linter.unusedSimpArgs false
open Go.RowKit

theorem own_at {w : World} {base : Nat} {e : TypeId} {sz n c : Nat} {A : Option Addr} {xs : List Value} (h : w.ownsRow base e sz (.slice A n c) n xs) (h0 : 0 < n) : ∃ g, A = some ⟨g, 0, none⟩ ∧ base ≤ g ∧ g < w.heap.size := by
  rcases h.2 with ⟨_, hq⟩ | ⟨g, cap, cur, hv, hb, hg, _⟩
  · omega
  · simp only [Value.slice.injEq] at hv
    exact ⟨g, hv.1, hb, (Array.getElem?_eq_some_iff.1 hg).1⟩
def FewPost (B : Nat) (l : List Int) (a : Nat) (w : World) (e : Ending) (w' : World) : Prop := ∃ (v : Value) (Q : List Int), e = .returned v ∧ RdB w.heap.size w' v Q.length (ints Q) ∧ Q.length ≤ 7 ∧ Drew B l a 22 w w'
theorem rdi_cutA {w : World} {A : Option Addr} {c j : Nat} {l : List Int} (h : RdI w (.slice A l.length c) l) (hj : j ≤ l.length) : RdI w (.slice A j c) (l.take j) := by
  obtain ⟨A', c', hv, h1, h2, h3⟩ := rd_front h hj
  refine ⟨A', c', by rw [List.length_take, Nat.min_eq_left hj]; exact hv, by rw [List.length_take]; omega, h2, fun h0 => h3 (by rw [List.length_take] at h0; omega)⟩
theorem nodes_bd (n : Int) : 1 ≤ maxI 1 (minI 14 n) ∧ maxI 1 (minI 14 n) ≤ 14 := by unfold maxI minI; split <;> split <;> omega
theorem own_nil0 (w : World) (base : Nat) : w.ownsRow base 3 1 (.slice none 0 0) ([] : List Int).length (ints []) := World.ownsRow_nil _ _ _ _

set_option maxRecDepth 100000 in
set_option maxHeartbeats 2000000 in
theorem limitSeconds_c (B : Nat) (l : List Int) (hl : BytesOk l) (a : Nat) (ha : a ≤ 4611686018427360000) (w : World) (hc : CurAt B l a w) :
    Calls Try.prog 56 #[.pointer (some ⟨B, 0, none⟩)] w fun e w' => ∃ x : Int, e = .returned (.int .i64 x) ∧ Drew B l a 6 w w' := by
  have HL := Lib.hid hl
  have HD := Lib.hid (Drew.refl hc 0)
  have hBb : B < w.heap.size := hc.lt
  obtain ⟨i0, hi, hz0, hz1, hz2⟩ := info_parts Try.infoInt
  clear hc hl
  clear i0 hi hz0 hz1 hz2
  go_enter Try.func56, Try.ntmps56
  go_wp2_with fail
  refine (pick_c B l HL.out (a + 0) (by omega) 400 (by omega) _ HD.out.1).mono ?_; rintro e W1 ⟨x2, rfl, hx2, hd⟩
  have HD := Lib.hid (HD.out.trans hd)
  have szW1 := hd.2.size
  clear hd
  go_wp2_with fail
  generalize hW : World.alloc W1 _ = W3
  have hq : RdI W3 (.slice (some ⟨W1.heap.size, 0, none⟩) 2 2) [-1, 36001] := by subst hW; exact rd_new W1 rfl (Nat.le_refl _) (by rw [maxLen_eq]; omega)
  have hbl : Below W1.heap.size W1 W3 := by subst hW; exact bel_al (Below.refl _ _) _
  have hBW := HD.out.1.lt
  have HD := Lib.hid (HD.out.bel hbl)
  have szW3 := hbl.size
  clear hW hbl
  refine (among_c B l HL.out (a + 2) (by omega) _ [-1, 36001] (by simp) (by simp) _ HD.out.1 hq (lit_ne hBW)).mono ?_; rintro e W4 ⟨y5, rfl, _, hd⟩
  clear hq hBW
  have HD := Lib.hid (HD.out.trans hd)
  have szW4 := hd.2.size
  clear hd
  go_wp2_with fail
  generalize hW : World.alloc W4 _ = W6
  have hq : RdI W6 (.slice (some ⟨W4.heap.size, 0, none⟩) 8 8) [0, 30, 60, 120, 300, 36000, (x2 : Int), y5] := by subst hW; exact rd_new W4 rfl (Nat.le_refl _) (by rw [maxLen_eq]; omega)
  have hbl : Below W4.heap.size W4 W6 := by subst hW; exact bel_al (Below.refl _ _) _
  have hBW := HD.out.1.lt
  have HD := Lib.hid (HD.out.bel hbl)
  have szW6 := hbl.size
  clear hW hbl
  refine (among_c B l HL.out (a + 4) (by omega) _ [0, 30, 60, 120, 300, 36000, (x2 : Int), y5] (by simp) (by simp) _ HD.out.1 hq (lit_ne hBW)).mono ?_; rintro e W7 ⟨y8, rfl, _, hd⟩
  clear hq hBW
  have HD := Lib.hid (HD.out.trans hd)
  have szW7 := hd.2.size
  clear hd
  go_wp2
  go_ret
  exact ⟨y8, rfl, HD.out⟩
set_option maxRecDepth 100000 in
set_option maxHeartbeats 4000000 in
theorem stationsOf_c (B : Nat) (l : List Int) (hl : BytesOk l) (a : Nat) (ha : a ≤ 4611686018427360000) (w : World) (hc : CurAt B l a w) (n : Int) (At : Option Addr) (mt ct : Nat) :
    Calls Try.prog 55 #[.pointer (some ⟨B, 0, none⟩), .agg #[.int .i64 n, .slice At mt ct]] w fun e w' => ∃ (v : Value) (Q : List Int), e = .returned v ∧ w'.ownsRow w.heap.size 3 1 v Q.length (ints Q) ∧ Q.length ≤ 7 ∧ Drew B l a 20 w w' := by
  have HL := Lib.hid hl
  have HD := Lib.hid (Drew.refl hc 0)
  have hBb : B < w.heap.size := hc.lt
  obtain ⟨i0, hi, hz0, hz1, hz2⟩ := info_parts Try.infoInt
  clear hc hl
  go_enter Try.func55, Try.ntmps55
  go_upto_region 1 with fail
  generalize hW : World.alloc w _ = W0
  have t0 : W0.cell? ⟨w.heap.size, 0, none⟩ = some (.int .i64 n) := by subst hW; simp [go_sem]
  have hb0 : Below w.heap.size w W0 := by subst hW; exact bel_al (Below.refl _ _) _
  have HD := Lib.hid (HD.out.bel hb0)
  have hs0 := hb0.size
  obtain ⟨nd, hnd⟩ : ∃ z, maxI 1 (minI 14 n) = z := ⟨_, rfl⟩
  obtain ⟨hnd1, hnd2⟩ := nodes_bd n
  rw [hnd] at hnd1 hnd2
  have HND := Lib.hid hnd
  clear hW hb0 hnd
  go_wp2_with fail
  refine (l1Least_c 14 n _).mono ?_; rintro e w' ⟨rfl, rfl⟩
  go_wp2_with fail
  refine (l1Most_c 1 (minI 14 n) _).mono ?_; rintro e w' ⟨rfl, rfl⟩
  rw [HND.out]
  clear t0
  go_wp2_with fail
  refine (pick_c B l HL.out (a + 0) (by omega) 3 (by omega) _ HD.out.1).mono ?_; rintro e W1 ⟨x, rfl, hx, hd⟩
  have HD := Lib.hid (HD.out.trans hd)
  have hs1 := hd.2.size
  clear hd
  have s1 : IntKind.i64.wrap (1 + (x : Int)) = ((1 + x : Nat) : Int) := by rw [IntWalk.i64_in _ (by omega)]; omega
  obtain ⟨K, hK⟩ : ∃ K : Nat, 1 + x = K := ⟨_, rfl⟩
  have hK3 : K ≤ 3 := by omega
  rw [hK] at s1
  clear hK hx
  go_wp2_with fail
  clear s1
  go_loopw [6, 7] (fun vo vk wr => ∃ (k j : Nat) (Q : List Int) (A : Option Addr) (c : Nat), j + k = K ∧ vk = .int .i64 k ∧ vo = .slice A Q.length c ∧ Q.length ≤ j ∧ Hid (wr.ownsRow w.heap.size 3 1 (.slice A Q.length c) Q.length (ints Q)) ∧ Hid (Drew B l a (2 + 2 * j) w wr)) (fun _ vk _ => (intOf vk).toNat)
  case atStart => exact ⟨K, 0, [], none, 0, by omega, rfl, rfl, Nat.zero_le _, Lib.hid (own_nil0 _ _), HD⟩
  case round =>
    obtain ⟨k, j, Q, A, c, hjk, rfl, rfl, hQ, HOW, HDR⟩ := hrel
    obtain ⟨wA, rfl⟩ : ∃ wA : World, wA = wr := ⟨_, rfl⟩
    by_cases hlt : 0 < k
    · have hlt2 : (0 : Int) < (k : Int) := by omega
      have HD := HDR
      have hsA := HDR.out.2.size
      go_wp2_with fail
      refine (pick_c B l HL.out (a + (2 + 2 * j)) (by omega) nd (by omega) _ HD.out.1).mono ?_; rintro e W10 ⟨y, rfl, hy, hd⟩
      have HOW := Lib.hid (own_draw HOW.out hd.2 hBb)
      have HD := Lib.hid (HD.out.trans hd)
      have hs10 := hd.2.size
      clear hd
      go_wp2_with fail
      refine (l1PutO_c _ Q (y : Int) _ (rdi_own HOW.out) (by omega)).mono ?_; rintro e W11 ⟨v', rfl, ho, hb⟩
      have hl2 := putI_len Q (y : Int)
      have hoW : W11.ownsRow w.heap.size 3 1 v' (putI Q (y : Int)).length (ints (putI Q (y : Int))) := by
        rcases ho with ho | ⟨rfl, e⟩
        · exact own_base ho (by omega)
        · rw [e]; exact own_below HOW.out hb
      obtain ⟨A7, c7, rfl, _⟩ := own_rd hoW
      have HOW2 := Lib.hid hoW
      have HD2 := Lib.hid ((HD.out.bel hb).more (k' := 2 + 2 * (j + 1)) (by omega))
      clear ho hb hoW
      go_wp2
      exact ⟨⟨k - 1, j + 1, putI Q (y : Int), A7, c7, by omega, by (have e : ((k : Int) - 1) = ((k - 1 : Nat) : Int) := by omega); rw [e], rfl, by omega, HOW2, HD2⟩, by simp [intOf]; omega⟩
    · obtain rfl : k = 0 := by omega
      have HD := Lib.hid (HDR.out.more (k' := 8) (by omega))
      have hsA := HDR.out.2.size
      clear HDR hlt
      go_wp2_with fail
      refine (pick_c B l HL.out (a + 8) (by omega) 20 (by omega) _ HD.out.1).mono ?_; rintro e W10 ⟨y, rfl, hy, hd⟩
      have HOW := Lib.hid (own_draw HOW.out hd.2 hBb)
      have HD := Lib.hid (HD.out.trans hd)
      have hs10 := hd.2.size
      clear hd
      by_cases hy0 : y = 0
      · have e0 : ((y : Int) == 0) = true := by simp [hy0]
        clear hy0
        go_wp2
        go_ret
        exact ⟨_, [], rfl, own_nil0 _ _, by simp, HD.out.more (by omega)⟩
      · have e0 : ((y : Int) == 0) = false := beq_false_of_ne (by omega)
        by_cases hy1 : y = 1
        · have e1 : ((y : Int) == 1) = true := by simp [hy1]
          clear hy0 hy1
          go_wp2_with fail
          generalize hW : World.alloc W10 _ = W11
          have hq : RdI W11 (.slice (some ⟨W10.heap.size, 0, none⟩) 3 3) [0, nd, -1] := by subst hW; exact rd_new W10 rfl (Nat.le_refl _) (by rw [maxLen_eq]; omega)
          have hbl : Below W10.heap.size W10 W11 := by subst hW; exact bel_al (Below.refl _ _) _
          have hBW := HD.out.1.lt
          have HD := Lib.hid (HD.out.bel hbl)
          have HOW := Lib.hid (own_below HOW.out hbl)
          have hs11 := hbl.size
          clear hW hbl
          refine (among_c B l HL.out (a + 10) (by omega) _ [0, nd, -1] (by simp) (by simp) _ HD.out.1 hq (lit_ne hBW)).mono ?_; rintro e W12 ⟨z, rfl, _, hd⟩
          clear hq hBW
          have HOW := Lib.hid (own_draw HOW.out hd.2 hBb)
          have HD := Lib.hid (HD.out.trans hd)
          have hs12 := hd.2.size
          clear hd
          go_wp2_with (at_builtin; go_loud (refine wpList_app_rd _ rfl _ _ 27 rfl w.heap.size 3 i0 (.int .i64 0) 1 8 Try.underlying27 hi hz0 hz1 hz2 rfl (by decide) _ _ _ rfl (HOW.out.alloc _) _ 1 [.int .i64 z] rfl (rd_new _ rfl (Nat.le_refl _) (by rw [maxLen_eq]; omega)) rfl (ints_one [z]) (by rw [maxLen_eq]; omega) (by omega) (by simp; omega) ?_); intro v7 w7 hown7 hgrow7 _)
          obtain ⟨A7, c7, rfl, _⟩ := own_rd hown7
          have hlo := HOW.out.lt
          have hB7 := HD.out.app hgrow7 (fun q e => (hlo q e).1) hBb
          go_ret
          exact ⟨_, Q ++ [z], rfl, by rw [ints_append, List.length_append]; exact hown7, by simp; omega, hB7.more (by omega)⟩
        · have e1 : ((y : Int) == 1) = false := beq_false_of_ne (by omega)
          by_cases hy2 : y = 2
          · have e2 : ((y : Int) == 2) = true := by simp [hy2]
            clear hy0 hy1 hy2
            go_wp2_with fail
            refine (pick_c B l HL.out (a + 10) (by omega) 2 (by omega) _ HD.out.1).mono ?_; rintro e W13 ⟨z, rfl, hz, hd⟩
            have HD := Lib.hid (HD.out.trans hd)
            have hs13 := hd.2.size
            clear hd
            have s1 : IntKind.i64.wrap (6 + (z : Int)) = ((6 + z : Nat) : Int) := by rw [IntWalk.i64_in _ (by omega)]; omega
            obtain ⟨N, hN⟩ : ∃ N : Nat, 6 + z = N := ⟨_, rfl⟩
            have hN7 : N ≤ 7 := by omega
            rw [hN] at s1
            clear hN hz e0 e1 e2 HOW
            go_wp2_with fail
            clear s1
            go_loopw [6] (fun vo wr => ∃ (Q : List Int) (A : Option Addr) (c : Nat), vo = .slice A Q.length c ∧ Q.length ≤ N ∧ Hid (wr.ownsRow w.heap.size 3 1 (.slice A Q.length c) Q.length (ints Q)) ∧ Hid (Drew B l a 12 w wr)) (fun vo _ => N - lenOf vo)
            case atStart => exact ⟨[], none, 0, rfl, Nat.zero_le _, Lib.hid (own_nil0 _ _), HD⟩
            case round =>
              obtain ⟨Q, A, c, rfl, hQ, HOW, HD⟩ := hrel
              obtain ⟨wB, rfl⟩ : ∃ wB : World, wB = wr := ⟨_, rfl⟩
              have hsB := HD.out.2.size
              by_cases hlt : Q.length < N
              · have hlt2 : (Q.length : Int) < (N : Int) := by omega
                go_wp2_with (at_builtin; go_loud (refine wpList_app_rd _ rfl _ _ 27 rfl w.heap.size 3 i0 (.int .i64 0) 1 8 Try.underlying27 hi hz0 hz1 hz2 rfl (by decide) _ _ _ rfl (HOW.out.alloc _) _ 1 [.int .i64 (Q.length : Int)] rfl (rd_new _ rfl (Nat.le_refl _) (by rw [maxLen_eq]; omega)) rfl (ints_one [(Q.length : Int)]) (by rw [maxLen_eq]; omega) (by omega) (by simp; omega) ?_); intro v7 w7 hown7 hgrow7 _)
                obtain ⟨A7, c7, rfl, _⟩ := own_rd hown7
                have hlo := HOW.out.lt
                have hB7 := HD.out.app hgrow7 (fun q e => (hlo q e).1) hBb
                refine ⟨⟨Q ++ [(Q.length : Int)], A7, c7, by simp, by simp; omega, Lib.hid ?_, Lib.hid (hB7.more (by omega))⟩, by simp [lenOf]; omega⟩
                rw [ints_append, List.length_append]; exact hown7
              · have hge : (N : Int) ≤ (Q.length : Int) := by omega
                go_wp2
                go_ret
                exact ⟨_, Q, rfl, HOW.out, by omega, HD.out.more (by omega)⟩
          · have e2 : ((y : Int) == 2) = false := beq_false_of_ne (by omega)
            clear hy0 hy1 hy2
            go_wp2
            go_ret
            exact ⟨_, Q, rfl, HOW.out, by omega, HD.out.more (by omega)⟩
set_option maxRecDepth 100000 in
set_option maxHeartbeats 2000000 in
theorem fewStations_c (B : Nat) (l : List Int) (hl : BytesOk l) (a : Nat) (ha : a ≤ 4611686018427359000) (w : World) (hc : CurAt B l a w) (n : Int) (At : Option Addr) (mt ct : Nat) :
    Calls Try.prog 123 #[.pointer (some ⟨B, 0, none⟩), .agg #[.int .i64 n, .slice At mt ct]] w (FewPost B l a w) := by
  have HL := Lib.hid hl
  have HD := Lib.hid (Drew.refl hc 0)
  have hBb : B < w.heap.size := hc.lt
  obtain ⟨i0, hi, hz0, hz1, hz2⟩ := info_parts Try.infoInt
  clear hc hl
  clear i0 hi hz0 hz1 hz2
  go_enter Try.func123, Try.ntmps123
  go_upto_region 1 with fail
  generalize hW : World.alloc w _ = W0
  have t0 : W0.cell? ⟨w.heap.size, 0, none⟩ = some (.int .i64 n) := by subst hW; simp [go_sem]
  have t1 : W0.cell? ⟨w.heap.size, 1, none⟩ = some (.slice At mt ct) := by subst hW; simp [go_sem]
  have hb0 : Below w.heap.size w W0 := by subst hW; exact bel_al (Below.refl _ _) _
  have HD := Lib.hid (HD.out.bel hb0)
  have hs0 := hb0.size
  clear hW hb0
  go_wp2_with fail
  refine (stationsOf_c B l HL.out (a + 0) (by omega) _ HD.out.1 n At mt ct).mono ?_; rintro e W1 ⟨v1, Q, rfl, ho, hQ, hd⟩
  obtain ⟨A1, c1, rfl, hc1, -, -⟩ := own_rd ho
  have HOW := Lib.hid (own_base ho hs0)
  have HR := Lib.hid (rdi_own ho)
  have HOB := Lib.hid (rdb_ints (own_base ho hs0)).2
  have HD := Lib.hid (HD.out.trans hd)
  clear hd ho t0 t1
  by_cases h6 : 6 < Q.length
  · have h6i : (6 : Int) < (Q.length : Int) := by omega
    go_wp2_with fail
    refine (one_c B l HL.out (a + 20) (by omega) 4 (by omega) _ HD.out.1).mono ?_; rintro e W2 ⟨b, rfl, hd⟩
    have HR2 := Lib.hid (rdi_own (own_draw HOW.out hd.2 hBb))
    have HD := Lib.hid (HD.out.trans hd)
    clear hd
    cases b
    · have e1 : (6 : Int) ≤ (c1 : Int) := by omega
      go_wp2
      go_ret
      exact ⟨_, Q.take 6, rfl, ⟨rdi_cutA HR2.out (by omega), fun b off m c e => HOB.out b off _ c1 (by injection e with e _ _; rw [e])⟩, by simp; omega, HD.out⟩
    · go_wp2
      go_ret
      exact ⟨_, Q, rfl, ⟨HR2.out, HOB.out⟩, hQ, HD.out⟩
  · have h6i : (Q.length : Int) ≤ 6 := by omega
    go_wp2
    go_ret
    exact ⟨_, Q, rfl, ⟨HR.out, HOB.out⟩, hQ, HD.out.more (by omega)⟩
set_option maxRecDepth 100000 in
set_option maxHeartbeats 4000000 in
theorem moversOf_c (B : Nat) (l : List Int) (hl : BytesOk l) (a : Nat) (ha : a ≤ 4611686018427360000) (w : World) (hc : CurAt B l a w) (n : Int) (At : Option Addr) (mt ct : Nat) :
    Calls Try.prog 122 #[.pointer (some ⟨B, 0, none⟩), .agg #[.int .i64 n, .slice At mt ct]] w fun e w' => ∃ (v : Value) (Q : List Int), e = .returned v ∧ w'.ownsRow w.heap.size 3 1 v Q.length (ints Q) ∧ Q.length ≤ 8 ∧ Drew B l a 30 w w' := by
  have HL := Lib.hid hl
  have HD := Lib.hid (Drew.refl hc 0)
  have hBb : B < w.heap.size := hc.lt
  obtain ⟨i0, hi, hz0, hz1, hz2⟩ := info_parts Try.infoInt
  clear hc hl
  go_enter Try.func122, Try.ntmps122
  go_upto_region 1 with fail
  generalize hW : World.alloc w _ = W0
  have t0 : W0.cell? ⟨w.heap.size, 0, none⟩ = some (.int .i64 n) := by subst hW; simp [go_sem]
  have hb0 : Below w.heap.size w W0 := by subst hW; exact bel_al (Below.refl _ _) _
  have HD := Lib.hid (HD.out.bel hb0)
  have hs0 := hb0.size
  obtain ⟨nd, hnd⟩ : ∃ z, maxI 1 (minI 14 n) = z := ⟨_, rfl⟩
  obtain ⟨hnd1, hnd2⟩ := nodes_bd n
  rw [hnd] at hnd1 hnd2
  have HND := Lib.hid hnd
  clear hW hb0 hnd
  go_wp2_with fail
  refine (l1Least_c 14 n _).mono ?_; rintro e w' ⟨rfl, rfl⟩
  go_wp2_with fail
  refine (l1Most_c 1 (minI 14 n) _).mono ?_; rintro e w' ⟨rfl, rfl⟩
  rw [HND.out]
  clear t0
  go_wp2_with fail
  refine (pick_c B l HL.out (a + 0) (by omega) 5 (by omega) _ HD.out.1).mono ?_; rintro e W1 ⟨x, rfl, hx, hd⟩
  have HD := Lib.hid (HD.out.trans hd)
  clear hd
  go_wp2_with fail
  refine (one_c B l HL.out (a + 2) (by omega) 12 (by omega) _ HD.out.1).mono ?_; rintro e W2 ⟨b, rfl, hd⟩
  have HD := Lib.hid (HD.out.trans hd)
  clear hd
  cases b
  · obtain ⟨N, hN⟩ : ∃ N : Nat, x = N := ⟨_, rfl⟩
    have hN8 : N ≤ 8 := by omega
    rw [hN] at ⊢
    have HD6 := Lib.hid (HD.out.more (k' := 6) (by omega))
    have s1 : True := trivial
    clear hN hx
    go_wp2_with fail
    clear s1
    go_loopw [6] (fun vo wr => ∃ (Q : List Int) (A : Option Addr) (c : Nat), vo = .slice A Q.length c ∧ Q.length ≤ N ∧ Hid (wr.ownsRow w.heap.size 3 1 (.slice A Q.length c) Q.length (ints Q)) ∧ Hid (Drew B l a (6 + 2 * Q.length) w wr)) (fun vo _ => N - lenOf vo)
    case atStart => exact ⟨[], none, 0, rfl, Nat.zero_le _, Lib.hid (own_nil0 _ _), HD6⟩
    case round =>
      obtain ⟨Q, A, c, rfl, hQ, HOW, HDR⟩ := hrel
      obtain ⟨wB, rfl⟩ : ∃ wB : World, wB = wr := ⟨_, rfl⟩
      have hsB := HDR.out.2.size
      by_cases hlt : Q.length < N
      · have hlt2 : (Q.length : Int) < (N : Int) := by omega
        go_wp2_with fail
        refine (pick_c B l HL.out (a + (6 + 2 * Q.length)) (by omega) nd (by omega) _ HDR.out.1).mono ?_; rintro e W10 ⟨y, rfl, hy, hd⟩
        have HOW := Lib.hid (own_draw HOW.out hd.2 hBb)
        have HD := Lib.hid (HDR.out.trans hd)
        have hs10 := hd.2.size
        clear hd
        go_wp2_with (at_builtin; go_loud (refine wpList_app_rd _ rfl _ _ 27 rfl w.heap.size 3 i0 (.int .i64 0) 1 8 Try.underlying27 hi hz0 hz1 hz2 rfl (by decide) _ _ _ rfl (HOW.out.alloc _) _ 1 [.int .i64 (y : Int)] rfl (rd_new _ rfl (Nat.le_refl _) (by rw [maxLen_eq]; omega)) rfl (ints_one [(y : Int)]) (by rw [maxLen_eq]; omega) (by omega) (by simp; omega) ?_); intro v7 w7 hown7 hgrow7 _)
        obtain ⟨A7, c7, rfl, _⟩ := own_rd hown7
        have hlo := HOW.out.lt
        have hB7 := HD.out.app hgrow7 (fun q e => (hlo q e).1) hBb
        refine ⟨⟨Q ++ [(y : Int)], A7, c7, by simp, by simp; omega, Lib.hid ?_, Lib.hid (hB7.more (by simp; omega))⟩, by simp [lenOf]; omega⟩
        rw [ints_append, List.length_append]; exact hown7
      · have hge : (N : Int) ≤ (Q.length : Int) := by omega
        have HD := Lib.hid (HDR.out.more (k' := 22) (by omega))
        clear HDR
        by_cases hN0 : N = 0
        · have hn : (N : Int) ≤ 0 := by omega
          go_wp2
          go_ret
          exact ⟨_, Q, rfl, HOW.out, by omega, HD.out.more (by omega)⟩
        · have hn : 0 < N := by omega
          go_wp2_with fail
          refine (one_c B l HL.out (a + 22) (by omega) 20 (by omega) _ HD.out.1).mono ?_; rintro e W11 ⟨b, rfl, hd⟩
          have HOW := Lib.hid (own_draw HOW.out hd.2 hBb)
          have HD := Lib.hid (HD.out.trans hd)
          have hs11 := hd.2.size
          clear hd
          cases b
          · go_wp2
            go_ret
            exact ⟨_, Q, rfl, HOW.out, by omega, HD.out.more (by omega)⟩
          · obtain ⟨g, rfl, hg0, hg1⟩ := own_at HOW.out (by omega)
            obtain ⟨x0, Q1, hQ1⟩ : ∃ x0 Q1, Q = x0 :: Q1 := by
              cases Q with
              | nil => simp at hge; omega
              | cons x y => exact ⟨_, _, rfl⟩
            have HQC := Lib.hid hQ1
            have hlI : (0 : Int) < (Q.length : Int) := by omega
            clear hQ1
            go_wp2_with fail
            generalize hW : World.alloc W11 _ = W12
            have hq : RdI W12 (.slice (some ⟨W11.heap.size, 0, none⟩) 3 3) [-1, nd, 14] := by subst hW; exact rd_new W11 rfl (Nat.le_refl _) (by rw [maxLen_eq]; omega)
            have hbl : Below W11.heap.size W11 W12 := by subst hW; exact bel_al (Below.refl _ _) _
            have hBW := HD.out.1.lt
            have HD := Lib.hid (HD.out.bel hbl)
            have HOW := Lib.hid (own_below HOW.out hbl)
            clear hW hbl
            refine (among_c B l HL.out (a + 24) (by omega) _ [-1, nd, 14] (by simp) (by simp) _ HD.out.1 hq (lit_ne hBW)).mono ?_; rintro e W13 ⟨z, rfl, _, hd⟩
            clear hq hBW
            have HOW := Lib.hid (own_draw HOW.out hd.2 hBb)
            have HD := Lib.hid (HD.out.trans hd)
            clear hd
            have t9 := HOW.out.cellAt 0 (by omega)
            have f9 := HOW.out.frozenAt 0
            rw [HQC.out] at t9
            simp only [ints, List.map_cons, List.getElem?_cons_zero] at t9
            have HP : Hid ((W13.setCell ⟨g, 0, none⟩ (.int .i64 z)).ownsRow w.heap.size 3 1 (.slice (some ⟨g, 0, none⟩) Q.length c) Q.length (ints (z :: Q1))) := Lib.hid (by
              have h := own_put [.int .i64 z] W13 _ 0 HOW.out
              rw [HQC.out] at h ⊢
              exact h)
            have HSD := Lib.hid (HD.out.own (only_setCell (World.grownBy.refl _ (some g)) 0 (.int .i64 z)) (by omega) hBb)
            go_wp2
            go_ret
            exact ⟨_, z :: Q1, rfl, own_len HP.out, by have h := HQC.out; rw [h] at hQ; simp at hQ ⊢; omega, HSD.out.more (by omega)⟩
  · go_wp2_with fail
    refine (pick_c B l HL.out (a + 4) (by omega) 2 (by omega) _ HD.out.1).mono ?_; rintro e W3 ⟨y, rfl, hy, hd⟩
    have HD6 := Lib.hid (HD.out.trans hd)
    clear hd
    have s1 : IntKind.i64.wrap (7 + (y : Int)) = ((7 + y : Nat) : Int) := by rw [IntWalk.i64_in _ (by omega)]; omega
    obtain ⟨N, hN⟩ : ∃ N : Nat, 7 + y = N := ⟨_, rfl⟩
    have hN8 : N ≤ 8 := by omega
    rw [hN] at s1
    clear hN hy
    go_wp2_with fail
    clear s1
    go_loopw [6] (fun vo wr => ∃ (Q : List Int) (A : Option Addr) (c : Nat), vo = .slice A Q.length c ∧ Q.length ≤ N ∧ Hid (wr.ownsRow w.heap.size 3 1 (.slice A Q.length c) Q.length (ints Q)) ∧ Hid (Drew B l a (6 + 2 * Q.length) w wr)) (fun vo _ => N - lenOf vo)
    case atStart => exact ⟨[], none, 0, rfl, Nat.zero_le _, Lib.hid (own_nil0 _ _), HD6⟩
    case round =>
      obtain ⟨Q, A, c, rfl, hQ, HOW, HDR⟩ := hrel
      obtain ⟨wB, rfl⟩ : ∃ wB : World, wB = wr := ⟨_, rfl⟩
      have hsB := HDR.out.2.size
      by_cases hlt : Q.length < N
      · have hlt2 : (Q.length : Int) < (N : Int) := by omega
        go_wp2_with fail
        refine (pick_c B l HL.out (a + (6 + 2 * Q.length)) (by omega) nd (by omega) _ HDR.out.1).mono ?_; rintro e W10 ⟨y, rfl, hy, hd⟩
        have HOW := Lib.hid (own_draw HOW.out hd.2 hBb)
        have HD := Lib.hid (HDR.out.trans hd)
        have hs10 := hd.2.size
        clear hd
        go_wp2_with (at_builtin; go_loud (refine wpList_app_rd _ rfl _ _ 27 rfl w.heap.size 3 i0 (.int .i64 0) 1 8 Try.underlying27 hi hz0 hz1 hz2 rfl (by decide) _ _ _ rfl (HOW.out.alloc _) _ 1 [.int .i64 (y : Int)] rfl (rd_new _ rfl (Nat.le_refl _) (by rw [maxLen_eq]; omega)) rfl (ints_one [(y : Int)]) (by rw [maxLen_eq]; omega) (by omega) (by simp; omega) ?_); intro v7 w7 hown7 hgrow7 _)
        obtain ⟨A7, c7, rfl, _⟩ := own_rd hown7
        have hlo := HOW.out.lt
        have hB7 := HD.out.app hgrow7 (fun q e => (hlo q e).1) hBb
        refine ⟨⟨Q ++ [(y : Int)], A7, c7, by simp, by simp; omega, Lib.hid ?_, Lib.hid (hB7.more (by simp; omega))⟩, by simp [lenOf]; omega⟩
        rw [ints_append, List.length_append]; exact hown7
      · have hge : (N : Int) ≤ (Q.length : Int) := by omega
        have HD := Lib.hid (HDR.out.more (k' := 22) (by omega))
        clear HDR
        by_cases hN0 : N = 0
        · have hn : (N : Int) ≤ 0 := by omega
          go_wp2
          go_ret
          exact ⟨_, Q, rfl, HOW.out, by omega, HD.out.more (by omega)⟩
        · have hn : 0 < N := by omega
          go_wp2_with fail
          refine (one_c B l HL.out (a + 22) (by omega) 20 (by omega) _ HD.out.1).mono ?_; rintro e W11 ⟨b, rfl, hd⟩
          have HOW := Lib.hid (own_draw HOW.out hd.2 hBb)
          have HD := Lib.hid (HD.out.trans hd)
          have hs11 := hd.2.size
          clear hd
          cases b
          · go_wp2
            go_ret
            exact ⟨_, Q, rfl, HOW.out, by omega, HD.out.more (by omega)⟩
          · obtain ⟨g, rfl, hg0, hg1⟩ := own_at HOW.out (by omega)
            obtain ⟨x0, Q1, hQ1⟩ : ∃ x0 Q1, Q = x0 :: Q1 := by
              cases Q with
              | nil => simp at hge; omega
              | cons x y => exact ⟨_, _, rfl⟩
            have HQC := Lib.hid hQ1
            have hlI : (0 : Int) < (Q.length : Int) := by omega
            clear hQ1
            go_wp2_with fail
            generalize hW : World.alloc W11 _ = W12
            have hq : RdI W12 (.slice (some ⟨W11.heap.size, 0, none⟩) 3 3) [-1, nd, 14] := by subst hW; exact rd_new W11 rfl (Nat.le_refl _) (by rw [maxLen_eq]; omega)
            have hbl : Below W11.heap.size W11 W12 := by subst hW; exact bel_al (Below.refl _ _) _
            have hBW := HD.out.1.lt
            have HD := Lib.hid (HD.out.bel hbl)
            have HOW := Lib.hid (own_below HOW.out hbl)
            clear hW hbl
            refine (among_c B l HL.out (a + 24) (by omega) _ [-1, nd, 14] (by simp) (by simp) _ HD.out.1 hq (lit_ne hBW)).mono ?_; rintro e W13 ⟨z, rfl, _, hd⟩
            clear hq hBW
            have HOW := Lib.hid (own_draw HOW.out hd.2 hBb)
            have HD := Lib.hid (HD.out.trans hd)
            clear hd
            have t9 := HOW.out.cellAt 0 (by omega)
            have f9 := HOW.out.frozenAt 0
            rw [HQC.out] at t9
            simp only [ints, List.map_cons, List.getElem?_cons_zero] at t9
            have HP : Hid ((W13.setCell ⟨g, 0, none⟩ (.int .i64 z)).ownsRow w.heap.size 3 1 (.slice (some ⟨g, 0, none⟩) Q.length c) Q.length (ints (z :: Q1))) := Lib.hid (by
              have h := own_put [.int .i64 z] W13 _ 0 HOW.out
              rw [HQC.out] at h ⊢
              exact h)
            have HSD := Lib.hid (HD.out.own (only_setCell (World.grownBy.refl _ (some g)) 0 (.int .i64 z)) (by omega) hBb)
            go_wp2
            go_ret
            exact ⟨_, z :: Q1, rfl, own_len HP.out, by have h := HQC.out; rw [h] at hQ; simp at hQ ⊢; omega, HSD.out.more (by omega)⟩
end Go.Proofs.Ytahehdgkbhjpoaa
