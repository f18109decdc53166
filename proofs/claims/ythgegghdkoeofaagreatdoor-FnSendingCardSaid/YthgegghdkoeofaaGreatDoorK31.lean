/-
  spec.AddStreet: whatever the town and the street, it ends and hands back a town whose streets are its own. A drawn region of (*spec.l1Cur).town, by what holds whatever has come up (printed by gen_townr.py). (joined by pack.py: AddSt TownR8)
-/
import Derived.Test.YthgegghdkoeofaaGreatDoorK30
import Derived.Test.YthgegghdkoeofaaGreatDoorK11
import Derived.Test.YthgegghdkoeofaaGreatDoorK10
import Derived.Test.YthgegghdkoeofaaGreatDoorK26
import Derived.Test.YthgegghdkoeofaaGreatDoorK7
import Derived.Test.YthgegghdkoeofaaGreatDoorK8
import Derived.Deep.RegionHeld3
import Derived.Deep.DeepCutAuto
import Derived.Deep.CutBlock
import Derived.Deep.CutRange
import Derived.Test.YthgegghdkoeofaaGreatDoorK29
namespace Go.Proofs.YthgegghdkoeofaaGreatDoor
set_option linter.unusedVariables false
set_option linter.unusedSimpArgs false
open Go.RowKit

theorem st_take {w : World} {g n cap j : Nat} {l : List St} (h : Rd w (.slice (some ⟨g, 0, none⟩) n cap) n (l.flatMap St.cells)) (hj : j ≤ n) (hc : n ≤ cap) : Rd w (.slice (some ⟨g, 0, none⟩) j cap) j ((l.take j).flatMap St.cells) := by
  obtain ⟨A, c, hv, h1, h2, h3⟩ := h
  injection hv with hA _ hcc
  subst hA; subst hcc
  refine ⟨_, _, rfl, by omega, h2, fun hn => ?_⟩
  obtain ⟨b, off, e, hb, hcell⟩ := h3 (by omega)
  refine ⟨b, off, e, hb, fun q u hu => hcell q u ?_⟩
  rw [← List.take_append_drop j l, List.flatMap_append, List.getElem?_append_left (List.getElem?_eq_some_iff.1 hu).1]
  exact hu
theorem st_drop {w : World} {g n cap j : Nat} {l : List St} (h : Rd w (.slice (some ⟨g, 0, none⟩) n cap) n (l.flatMap St.cells)) (hj : j ≤ n) (hl : l.length = n) : Rd w (.slice (some ⟨g, j * 3, none⟩) (n - j) (cap - j)) (n - j) ((l.drop j).flatMap St.cells) := by
  obtain ⟨A, c, hv, h1, h2, h3⟩ := h
  injection hv with hA _ hcc
  subst hA; subst hcc
  refine ⟨_, _, rfl, by omega, by omega, fun hn => ?_⟩
  obtain ⟨b, off, e, hb, hcell⟩ := h3 (by omega)
  injection e with e
  injection e with e1 e2
  subst e1; subst e2
  refine ⟨g, j * 3, rfl, hb, fun q u hu => ?_⟩
  have := hcell (j * 3 + q) u (by
    conv => lhs; rw [← List.take_append_drop j l]
    rw [List.flatMap_append, List.getElem?_append_right (by rw [len_flat St.cells_len, List.length_take]; omega), len_flat St.cells_len, List.length_take, show j * 3 + q - min j l.length * 3 = q by rw [Nat.min_eq_left (by omega)]; omega]
    exact hu)
  simpa using this
set_option maxRecDepth 100000 in
set_option maxHeartbeats 1000000 in
theorem toFind_c (n : Int) (v : Value) (l : List St) (x y : Int) (w : World) (hr : Rd w v l.length (l.flatMap St.cells)) :
    Calls Tryz.prog 177 #[.agg #[.int .i64 n, v], .int .i64 x, .int .i64 y] w fun e w' => ∃ k : Int, e = .returned (.int .i64 k) ∧ Below w.heap.size w w' := by
  obtain ⟨A, c, rfl, hc, hm, hr⟩ := hr
  rw [maxLen_eq] at hm
  have HR := Lib.hid hr
  clear hr
  go_enter Tryz.func177, Tryz.ntmps177
  go_upto_region 1 with fail
  (generalize hw1 : World.alloc w _ = w1; have k0 : w1.cell? ⟨w.heap.size, 0, none⟩ = some (.int .i64 n) := (by subst hw1; simp [go_sem]); have k1 : w1.cell? ⟨w.heap.size, 1, none⟩ = some (.slice A l.length c) := (by subst hw1; simp [go_sem]); have hb0 : Below w.heap.size w w1 := (by subst hw1; exact bel_al (Below.refl _ _) _); have hsz1 : w.heap.size < w1.heap.size := (by subst hw1; simp); clear hw1)
  have HB := Lib.hid hb0
  clear hb0
  go_wp2_with fail
  go_loopw [12] (fun vi wr => ∃ k : Nat, k ≤ l.length ∧ vi = .int .i64 k ∧ Hid (Below w.heap.size w wr)) (fun vi _ => l.length - (intOf vi).toNat)
  case atStart => exact ⟨0, Nat.zero_le _, rfl, HB⟩
  case round =>
    obtain ⟨k, hk, rfl, HBL⟩ := hrel
    obtain ⟨wA, rfl⟩ : ∃ wA : World, wA = wr := ⟨_, rfl⟩
    have i0 : (0 : Int) ≤ (k : Int) := by omega
    by_cases hlt : k < l.length
    · obtain ⟨b, off, rfl, hbl, hcell⟩ := HR.out (by omega)
      obtain ⟨q, hq⟩ : ∃ q, l[k]? = some q := ⟨_, List.getElem?_eq_getElem hlt⟩
      obtain ⟨c0, c1, c2⟩ := st_at hcell HBL.out hbl hq
      have i1 : (k : Int) < (l.length : Int) := by omega
      clear hcell hq
      obtain ⟨qf, qt, qs⟩ := q
      dsimp only at c0 c1 c2
      go_upto_region 4 with fail
      generalize hW : World.alloc wA _ = wB
      have d0 : wB.cell? ⟨wA.heap.size, 0, none⟩ = some (.int .i64 qf) := by subst hW; simp [go_sem]
      have d1 : wB.cell? ⟨wA.heap.size, 1, none⟩ = some (.int .i64 qt) := by subst hW; simp [go_sem]
      have hb : Below w.heap.size w wB := by subst hW; exact bel_al HBL.out _
      have HBB := Lib.hid hb
      clear hW hb c0 c1 c2
      by_cases h1 : qf = minI x y
      · have e1 : (qf == minI x y) = true := by simp [h1]
        by_cases h2 : qt = maxI x y
        · have e2 : (qt == maxI x y) = true := by simp [h2]
          clear h1 h2
          go_wp2_with fail
          go_quiet (first | (go_at_call 130; exact Calls.quiet_of_same ((l1Least_c _ _ _).mono fun _ _ h => ⟨h.1, h.2.symm⟩)) | (go_at_call 96; exact Calls.quiet_of_same ((l1Most_c _ _ _).mono fun _ _ h => ⟨h.1, h.2.symm⟩)))
          go_wp2
          go_ret
          exact ⟨_, rfl, below_drewN HBB.out _⟩
        · have e2 : (qt == maxI x y) = false := by simp [h2]
          clear h1 h2
          go_wp2_with fail
          go_quiet (first | (go_at_call 130; exact Calls.quiet_of_same ((l1Least_c _ _ _).mono fun _ _ h => ⟨h.1, h.2.symm⟩)) | (go_at_call 96; exact Calls.quiet_of_same ((l1Most_c _ _ _).mono fun _ _ h => ⟨h.1, h.2.symm⟩)))
          go_wp2
          exact ⟨⟨k + 1, by omega, by go_num, Lib.hid (below_drewN HBB.out _)⟩, by simp [intOf]; omega⟩
      · have e1 : (qf == minI x y) = false := by simp [h1]
        clear h1
        go_wp2_with fail
        go_quiet (first | (go_at_call 130; exact Calls.quiet_of_same ((l1Least_c _ _ _).mono fun _ _ h => ⟨h.1, h.2.symm⟩)) | (go_at_call 96; exact Calls.quiet_of_same ((l1Most_c _ _ _).mono fun _ _ h => ⟨h.1, h.2.symm⟩)))
        go_wp2
        exact ⟨⟨k + 1, by omega, by go_num, Lib.hid (below_drewN HBB.out _)⟩, by simp [intOf]; omega⟩
    · obtain rfl : k = l.length := by omega
      go_wp2
      go_ret
      exact ⟨_, rfl, HBL.out⟩

set_option maxRecDepth 100000 in
theorem cut_slice {base : Nat} {wX : World} {A : Option Addr} {l : List St} {c k : Nat} (ho : wX.ownsRow base 144 3 (.slice A l.length c) l.length (l.flatMap St.cells)) (hk : k ≤ l.length) (hc : l.length ≤ c) (hm : c ≤ 9223372036854775807) :
    ∃ DA : Option Addr, (∀ w : World, (Instr.sliceAt 45 (.slice A l.length c) (some (.int .i64 (k : Int))) none none).run Tryz.prog w = .ok (.slice DA (l.length - k) (c - k)) w) ∧ Rd wX (.slice DA (l.length - k) (c - k)) (l.length - k) ((l.drop k).flatMap St.cells) ∧ Rd wX (.slice A k c) k ((l.take k).flatMap St.cells) := by
  have hR := own_rd ho
  have q0 : (0 : Int) ≤ (k : Int) := by omega
  have q1 : (k : Int) ≤ (l.length : Int) := by omega
  have q2 : (k : Int) ≤ (c : Int) := by omega
  rcases ho.2 with ⟨h, h0⟩ | ⟨g, cap, cur, hv, _⟩
  · injection h with h1 h2 h3
    subst h1
    obtain rfl : c = 0 := h3
    have hk0 : k = 0 := by omega
    subst hk0
    have hl : l = [] := List.length_eq_zero_iff.1 h2
    subst hl
    refine ⟨none, fun w => ?_, ⟨none, _, rfl, by simp, by simp, fun h => absurd h (by simp)⟩, ⟨none, _, rfl, by simp, by simp, fun h => absurd h (by simp)⟩⟩
    go_simp
  · injection hv with h1 _ h3
    subst h1
    subst h3
    have hP := st_take hR hk hc
    by_cases hck : c = k
    · refine ⟨some ⟨g, 0, none⟩, fun w => ?_, ?_, hP⟩
      · have e1 : l.length = k := by omega
        subst hck
        rw [e1]
        clear hP hR ho hc hk e1 q0 q1
        go_simp
      · obtain rfl : k = l.length := by omega
        rw [List.drop_length]
        exact ⟨_, _, by rw [Nat.sub_self], by omega, by rw [maxLen_eq]; omega, fun h => absurd h (by omega)⟩
    · refine ⟨some ⟨g, k * 3, none⟩, fun w => ?_, st_drop hR hk rfl, hP⟩
      go_simp
set_option maxRecDepth 100000 in
set_option maxHeartbeats 4000000 in
theorem addStreet_c (n : Int) (v : Value) (l : List St) (f t s : Int) (w : World) (base : Nat) (ho : w.ownsRow base 144 3 v l.length (l.flatMap St.cells)) :
    Calls Tryz.prog 154 #[.agg #[.int .i64 n, v], .agg #[.int .i64 f, .int .i64 t, .int .i64 s]] w fun e w' => ∃ (n' : Int) (v' : Value) (l' : List St) (b : Bool), e = .returned (.tuple #[.agg #[.int .i64 n', v'], .bool b]) ∧ (b = true → n' = n) ∧ w'.ownsRow w.heap.size 144 3 v' l'.length (l'.flatMap St.cells) ∧ l'.length ≤ 40 ∧ Below w.heap.size w w' := by
  have hr := own_rd ho
  have HR := Lib.hid hr
  have HOW := Lib.hid ho
  obtain ⟨A, c, rfl, hc, hm, hcell⟩ := hr
  rw [maxLen_eq] at hm
  have HCELL := Lib.hid hcell
  clear hcell ho
  go_enter Tryz.func154, Tryz.ntmps154
  go_upto_region 1 with fail
  generalize hW : World.alloc (World.alloc (World.alloc w _) _) _ = W0
  have hk : W0.ownsRow w.heap.size 47 2 (.slice (some ⟨w.heap.size, 0, none⟩) 1 1) 1 [.int .i64 n, .slice A l.length c] := by subst hW; exact ((row_new w _ _ 1 2 rfl (by omega) (by omega)).alloc _).alloc _
  have hs : W0.ownsRow w.heap.size 144 3 (.slice (some ⟨w.heap.size + 1, 0, none⟩) 1 1) 1 [.int .i64 f, .int .i64 t, .int .i64 s] := by
    subst hW
    have h := row_new (World.alloc w (.cells #[.int .i64 n, .slice A l.length c] 47)) [.int .i64 f, .int .i64 t, .int .i64 s] 144 1 3 rfl (by omega) (by omega)
    rw [World.size_alloc] at h
    exact own_base (h.alloc _) (by omega)
  have hr0 : W0.ownsRow w.heap.size 47 2 (.slice (some ⟨w.heap.size + 1 + 1, 0, none⟩) 1 1) 1 [.int .i64 0, .slice none 0 0] := by
    subst hW
    have h := row_new (World.alloc (World.alloc w (.cells #[.int .i64 n, .slice A l.length c] 47)) (.cells #[.int .i64 f, .int .i64 t, .int .i64 s] 144)) [.int .i64 0, .slice none 0 0] 47 1 2 rfl (by omega) (by omega)
    rw [World.size_alloc, World.size_alloc] at h
    exact own_base h (by omega)
  have hb0 : Below w.heap.size w W0 := by subst hW; exact bel_al (bel_al (bel_al (Below.refl _ _) _) _) _
  have hsz : w.heap.size + 1 + 1 < W0.heap.size := by subst hW; simp
  have HB := Lib.hid hb0
  have HK := Lib.hid hk
  have HS := Lib.hid hs
  have HR0 := Lib.hid hr0
  clear hW hb0 hk hs hr0
  have k0 := HK.out.cellAt 0 (by omega)
  have k1 := HK.out.cellAt 1 (by omega)
  dsimp only [List.getElem?_cons_zero, List.getElem?_cons_succ] at k0 k1
  have s0 := HS.out.cellAt 0 (by omega)
  have s1 := HS.out.cellAt 1 (by omega)
  have s2 := HS.out.cellAt 2 (by omega)
  dsimp only [List.getElem?_cons_zero, List.getElem?_cons_succ] at s0 s1 s2
  go_wp2_with fail
  refine (toGood_c n _ l _ (rd_below HR.out HB.out)).mono ?_; rintro e W1 ⟨rfl, hb⟩
  replace HB := Lib.hid (bel_then HB.out hb)
  replace HK := Lib.hid (own_below HK.out hb)
  replace HS := Lib.hid (own_below HS.out hb)
  replace HR0 := Lib.hid (own_below HR0.out hb)
  have hsz := Nat.lt_of_lt_of_le hsz hb.size
  clear hb
  clear k0 k1 s0 s1 s2
  cases hg : goodTown n l with
  | false =>
    have r0 := HR0.out.cellAt 0 (by omega)
    have r1 := HR0.out.cellAt 1 (by omega)
    have f0 := HR0.out.frozenAt 0
    have f1 := HR0.out.frozenAt 1
    dsimp only [List.getElem?_cons_zero, List.getElem?_cons_succ] at r0 r1
    go_wp2
    refine bodyPost_ret (v := .tuple #[.agg #[.int .i64 0, .slice none 0 0], .bool false]) (by simp [results, Tryz.results154, go_sem, r0, r1]) rfl ?_
    exact ⟨0, .slice none 0 0, [], false, rfl, fun h => by (cases h), World.ownsRow_nil _ _ _ _, by simp, bel_grown HB.out (only_setCell (only_setCell (World.grownBy.refl _ (some (w.heap.size + 1 + 1))) 0 _) 1 _) (fun q e => by have := Option.some.inj e; omega)⟩
  | true =>
    obtain ⟨hn1, hn2, -, -⟩ := goodTown_true hg
    have HG := Lib.hid hg
    clear hg
    have k0 := HK.out.cellAt 0 (by omega)
    have k1 := HK.out.cellAt 1 (by omega)
    dsimp only [List.getElem?_cons_zero, List.getElem?_cons_succ] at k0 k1
    have s0 := HS.out.cellAt 0 (by omega)
    have s1 := HS.out.cellAt 1 (by omega)
    have s2 := HS.out.cellAt 2 (by omega)
    dsimp only [List.getElem?_cons_zero, List.getElem?_cons_succ] at s0 s1 s2
    go_wp2_with fail
    refine (toStreetS1_c f t s n _ hn1 hn2).mono ?_; rintro e W2 ⟨rfl, hb⟩
    replace HB := Lib.hid (bel_then HB.out hb)
    replace HK := Lib.hid (own_below HK.out hb)
    replace HS := Lib.hid (own_below HS.out hb)
    replace HR0 := Lib.hid (own_below HR0.out hb)
    have hsz := Nat.lt_of_lt_of_le hsz hb.size
    clear hb
    clear k0 k1 s0 s1 s2
    cases strS n ⟨f, t, s⟩ with
    | false =>
      have r0 := HR0.out.cellAt 0 (by omega)
      have r1 := HR0.out.cellAt 1 (by omega)
      have f0 := HR0.out.frozenAt 0
      have f1 := HR0.out.frozenAt 1
      dsimp only [List.getElem?_cons_zero, List.getElem?_cons_succ] at r0 r1
      go_wp2
      refine bodyPost_ret (v := .tuple #[.agg #[.int .i64 0, .slice none 0 0], .bool false]) (by simp [results, Tryz.results154, go_sem, r0, r1]) rfl ?_
      exact ⟨0, .slice none 0 0, [], false, rfl, fun h => by (cases h), World.ownsRow_nil _ _ _ _, by simp, bel_grown HB.out (only_setCell (only_setCell (World.grownBy.refl _ (some (w.heap.size + 1 + 1))) 0 _) 1 _) (fun q e => by have := Option.some.inj e; omega)⟩
    | true =>
      have k0 := HK.out.cellAt 0 (by omega)
      have k1 := HK.out.cellAt 1 (by omega)
      dsimp only [List.getElem?_cons_zero, List.getElem?_cons_succ] at k0 k1
      have s0 := HS.out.cellAt 0 (by omega)
      have s1 := HS.out.cellAt 1 (by omega)
      have s2 := HS.out.cellAt 2 (by omega)
      dsimp only [List.getElem?_cons_zero, List.getElem?_cons_succ] at s0 s1 s2
      go_wp2_with fail
      refine (toFind_c n _ l f t _ (rd_below HR.out HB.out)).mono ?_; rintro e W3 ⟨z, rfl, hb⟩
      replace HB := Lib.hid (bel_then HB.out hb)
      replace HK := Lib.hid (own_below HK.out hb)
      replace HS := Lib.hid (own_below HS.out hb)
      replace HR0 := Lib.hid (own_below HR0.out hb)
      have hsz := Nat.lt_of_lt_of_le hsz hb.size
      clear hb
      clear k0 k1 s0 s1 s2
      by_cases hz : 0 ≤ z
      · skip
        have r0 := HR0.out.cellAt 0 (by omega)
        have r1 := HR0.out.cellAt 1 (by omega)
        have f0 := HR0.out.frozenAt 0
        have f1 := HR0.out.frozenAt 1
        dsimp only [List.getElem?_cons_zero, List.getElem?_cons_succ] at r0 r1
        go_wp2
        refine bodyPost_ret (v := .tuple #[.agg #[.int .i64 0, .slice none 0 0], .bool false]) (by simp [results, Tryz.results154, go_sem, r0, r1]) rfl ?_
        exact ⟨0, .slice none 0 0, [], false, rfl, fun h => by (cases h), World.ownsRow_nil _ _ _ _, by simp, bel_grown HB.out (only_setCell (only_setCell (World.grownBy.refl _ (some (w.heap.size + 1 + 1))) 0 _) 1 _) (fun q e => by have := Option.some.inj e; omega)⟩
      · have hz2 : z < 0 := by omega
        have s0 := HS.out.cellAt 0 (by omega)
        have s1 := HS.out.cellAt 1 (by omega)
        have s2 := HS.out.cellAt 2 (by omega)
        dsimp only [List.getElem?_cons_zero, List.getElem?_cons_succ] at s0 s1 s2
        go_upto_region 3 with fail
        go_cut [6] (fun v wx => v = .pointer (some ⟨W3.heap.size, 0, none⟩) ∧ wx = (W3.alloc (.cells #[.int .i64 (minI f t), .int .i64 (maxI f t), .int .i64 s] 144)).drew)
        case first =>
          go_region_held3 (fun W' => W'.cell? ⟨w.heap.size + 1, 0, none⟩ = some (.int .i64 f) ∧ W'.cell? ⟨w.heap.size + 1, 1, none⟩ = some (.int .i64 t) ∧ W'.cell? ⟨w.heap.size + 1, 2, none⟩ = some (.int .i64 s)) (first | (with_reducible exact ⟨s0, s1, s2⟩) | (refine ⟨?_, ?_, ?_⟩ <;> (repeat' (first | (with_reducible assumption) | (with_reducible apply cellDr) | (with_reducible apply cellAl))) <;> done) | (go_split_ands; refine ⟨?_, ?_, ?_⟩ <;> simp [go_sem, s0, s1, s2])) (first | (go_at_call 130; refine (l1Least_c _ _ _).mono ?_; rintro e w' ⟨rfl, hw⟩; subst hw) | (go_at_call 96; refine (l1Most_c _ _ _).mono ?_; rintro e w' ⟨rfl, hw⟩; subst hw))
          all_goals
            go_wp2_with fail
            go_meet
            exact ⟨rfl, rfl⟩
        case rest =>
          obtain ⟨rfl, rfl⟩ := hcut
          clear s0 s1 s2
          generalize hW : (W3.alloc (.cells #[.int .i64 (minI f t), .int .i64 (maxI f t), .int .i64 s] 144)).drew = W4
          have ht : W4.ownsRow W3.heap.size 144 3 (.slice (some ⟨W3.heap.size, 0, none⟩) 1 1) 1 [.int .i64 (minI f t), .int .i64 (maxI f t), .int .i64 s] := by subst hW; exact own_below (row_new W3 _ _ 1 3 rfl (by omega) (by omega)) (bel_dr (Below.refl _ _))
          have hb : Below W3.heap.size W3 W4 := by subst hW; exact bel_dr (bel_al (Below.refl _ _) _)
          obtain ⟨RT, hRT⟩ : ∃ R, W3.heap.size = R := ⟨_, rfl⟩
          clear hW
          replace HB := Lib.hid (bel_then HB.out hb)
          replace HK := Lib.hid (own_below HK.out hb)
          replace HR0 := Lib.hid (own_below HR0.out hb)
          have hszT : w.heap.size + 1 + 1 < RT := by omega
          have hsz4 : RT ≤ W4.heap.size := by have := hb.size; omega
          rw [hRT] at ht ⊢
          have HT := Lib.hid ht
          clear hb ht hRT HS hsz
          go_upto_block 0 with fail
          go_cut [7] from 42 to 57 (fun v wx => ∃ k : Nat, k ≤ l.length ∧ v = .int .i64 k ∧ Below W4.heap.size W4 wx)
          case first =>
            go_wp2_with fail
            go_loopw [7] (fun vi wr => ∃ k : Nat, k ≤ l.length ∧ vi = .int .i64 k ∧ Hid (Below W4.heap.size W4 wr)) (fun vi _ => l.length - (intOf vi).toNat)
            case atStart => exact ⟨0, Nat.zero_le _, rfl, Lib.hid (Below.refl _ _)⟩
            case round =>
              obtain ⟨k, hk, rfl, HBL⟩ := hrel
              obtain ⟨wA, rfl⟩ : ∃ wA : World, wA = wr := ⟨_, rfl⟩
              have hb := HBL.out
              replace HK := Lib.hid (own_below HK.out hb)
              replace HT := Lib.hid (own_below HT.out hb)
              replace HR0 := Lib.hid (own_below HR0.out hb)
              have HBA := Lib.hid (bel_then HB.out hb)
              have k0 := HK.out.cellAt 0 (by omega)
              have k1 := HK.out.cellAt 1 (by omega)
              have t0 := HT.out.cellAt 0 (by omega)
              have t1 := HT.out.cellAt 1 (by omega)
              have t2 := HT.out.cellAt 2 (by omega)
              dsimp only [List.getElem?_cons_zero, List.getElem?_cons_succ] at k0 k1 t0 t1 t2
              clear hb
              have i0 : (0 : Int) ≤ (k : Int) := by omega
              by_cases hlt : k < l.length
              · obtain ⟨b, off, rfl, hbl, hcell⟩ := HCELL.out (by omega)
                obtain ⟨q, hq⟩ : ∃ q, l[k]? = some q := ⟨_, List.getElem?_eq_getElem hlt⟩
                obtain ⟨c0, c1, c2⟩ := st_at hcell HBA.out hbl hq
                have i1 : (k : Int) < (l.length : Int) := by omega
                clear hcell hq
                obtain ⟨qf, qt, qs⟩ := q
                dsimp only at c0 c1 c2
                have hK : w.heap.size < wA.heap.size := (HK.out.lt _ rfl).2
                have hC : b < wA.heap.size := by omega
                have hT5 : RT < wA.heap.size := (HT.out.lt _ rfl).2
                go_wp2_with fail
                go_region_held3 (fun W' => W'.cell? ⟨w.heap.size, 0, none⟩ = some (.int .i64 n) ∧ W'.cell? ⟨w.heap.size, 1, none⟩ = some (.slice (some ⟨b, off, none⟩) l.length c) ∧ W'.cell? ⟨b, off + k * 3, none⟩ = some (.int .i64 qf) ∧ W'.cell? ⟨b, off + k * 3 + 1, none⟩ = some (.int .i64 qt) ∧ W'.cell? ⟨b, off + k * 3 + 2, none⟩ = some (.int .i64 qs) ∧ W'.cell? ⟨RT, 0, none⟩ = some (.int .i64 (minI f t)) ∧ W'.cell? ⟨RT, 1, none⟩ = some (.int .i64 (maxI f t)) ∧ W'.cell? ⟨RT, 2, none⟩ = some (.int .i64 s)) (first | (with_reducible exact ⟨k0, k1, c0, c1, c2, t0, t1, t2⟩) | (with_reducible exact ⟨cellDr k0, cellDr k1, cellDr c0, cellDr c1, cellDr c2, cellDr t0, cellDr t1, cellDr t2⟩) | (exact ⟨(hb5.cell hK).trans k0, (hb5.cell hK).trans k1, (hb5.cell hC).trans c0, (hb5.cell hC).trans c1, (hb5.cell hC).trans c2, (hb5.cell hT5).trans t0, (hb5.cell hT5).trans t1, (hb5.cell hT5).trans t2⟩)) (first | (go_at_call 161; refine (toBefore_c qf qt qs (minI f t) (maxI f t) s _).mono ?_; rintro e w5 ⟨rfl, hb5⟩))
                all_goals
                  cases befSt ⟨qf, qt, qs⟩ ⟨minI f t, maxI f t, s⟩ with
                  | true =>
                    go_wp2
                    exact ⟨⟨k + 1, by omega, by go_num, Lib.hid (bel_then HBL.out (bel_then (bel_dr (Below.refl _ _)) hb5))⟩, by simp [intOf]; omega⟩
                  | false =>
                    go_wp2_with fail
                    go_meet
                    exact ⟨k, hk, rfl, bel_then HBL.out (bel_then (bel_dr (Below.refl _ _)) hb5)⟩
              · obtain rfl : k = l.length := by omega
                have e1 : decide ((l.length : Int) < (l.length : Int)) = false := by simp
                go_wp2_with fail
                ((refine wp_region_held_drew (S := fun w' => w'.cell? ⟨w.heap.size, 0, none⟩ = some (.int .i64 n) ∧ w'.cell? ⟨w.heap.size, 1, none⟩ = some (.slice A l.length c)) (by kernel_rfl) (by (try dsimp only); first | go_keep | (go_split_ands; refine ⟨?_, ?_⟩ <;> assumption)) (fun hHeld => ?_)); (refine wpAnyH_take (i := 0) (v := ?_) (arr_get g_z) (by kernel_rfl) (by kernel_rfl) (by kernel_rfl) (fun _ _ _ h => h) (Or.inl ⟨by rfl, ?_⟩) hHeld ?_; rotate_left; (focus (intro w hSw; (try dsimp only at hSw); go_simp; try (first | (with_reducible rfl) | (rw [if_neg (by (try simp only [ByteArray.size_append]); omega)])))); try simp only [Act.put, List.setIfInBounds_toArray, List.set_cons_zero, List.set_cons_succ]); (refine wpAnyH_take (i := 1) (v := ?_) (arr_get (g_s g_z)) (by kernel_rfl) (by kernel_rfl) (by kernel_rfl) (fun _ _ _ h => h) (Or.inl ⟨by rfl, ?_⟩) hHeld ?_; rotate_left; (focus (intro w hSw; (try dsimp only at hSw); go_simp; try (first | (with_reducible rfl) | (rw [if_neg (by (try simp only [ByteArray.size_append]); omega)])))); try simp only [Act.put, List.setIfInBounds_toArray, List.set_cons_zero, List.set_cons_succ]); (refine wpAnyH_take (i := 2) (v := ?_) (arr_get (g_s (g_s g_z))) (by kernel_rfl) (by kernel_rfl) (by kernel_rfl) (fun _ _ _ h => h) (Or.inl ⟨by rfl, ?_⟩) hHeld ?_; rotate_left; (focus (intro w hSw; (try dsimp only at hSw); go_simp; try (first | (with_reducible rfl) | (rw [if_neg (by (try simp only [ByteArray.size_append]); omega)])))); try simp only [Act.put, List.setIfInBounds_toArray, List.set_cons_zero, List.set_cons_succ]); (refine wpAnyH_take (i := 3) (v := ?_) (arr_get (g_s (g_s (g_s g_z)))) (by kernel_rfl) (by kernel_rfl) (by kernel_rfl) (fun _ _ _ h => h) (Or.inl ⟨by rfl, ?_⟩) hHeld ?_; rotate_left; (focus (intro w hSw; (try dsimp only at hSw); go_simp; try (first | (with_reducible rfl) | (rw [if_neg (by (try simp only [ByteArray.size_append]); omega)])))); try simp only [Act.put, List.setIfInBounds_toArray, List.set_cons_zero, List.set_cons_succ]); (refine wpAnyH_take (i := 4) (v := ?_) (arr_get (g_s (g_s (g_s (g_s g_z))))) (by kernel_rfl) (by kernel_rfl) (by kernel_rfl) (fun _ _ _ h => h) (Or.inl ⟨by rfl, ?_⟩) hHeld ?_; rotate_left; (focus (intro w hSw; (try dsimp only at hSw); go_simp; try (first | (with_reducible rfl) | (rw [if_neg (by (try simp only [ByteArray.size_append]); omega)])))); try simp only [Act.put, List.setIfInBounds_toArray, List.set_cons_zero, List.set_cons_succ]); (refine wpAnyH_take (i := 5) (v := ?_) (arr_get (g_s (g_s (g_s (g_s (g_s g_z)))))) (by kernel_rfl) (by kernel_rfl) (by kernel_rfl) (fun _ _ _ h => h) (Or.inl ⟨by rfl, ?_⟩) hHeld ?_; rotate_left; (focus (intro w hSw; (try dsimp only at hSw); go_simp; try (first | (with_reducible rfl) | (rw [if_neg (by (try simp only [ByteArray.size_append]); omega)])))); try simp only [Act.put, List.setIfInBounds_toArray, List.set_cons_zero, List.set_cons_succ]); (refine wpAnyH_take (i := 6) (v := _) (arr_get (g_s (g_s (g_s (g_s (g_s (g_s g_z))))))) (by kernel_rfl) (by kernel_rfl) (by kernel_rfl) (fun _ _ _ h => h) (Or.inr ⟨by rfl, rfl⟩) hHeld ?_; try simp only [Act.put, List.setIfInBounds_toArray, List.set_cons_zero, List.set_cons_succ]); (refine wpAnyH_take (i := 7) (v := _) (arr_get (g_s (g_s (g_s (g_s (g_s (g_s (g_s g_z)))))))) (by kernel_rfl) (by kernel_rfl) (by kernel_rfl) (fun _ _ _ h => h) (Or.inr ⟨by rfl, rfl⟩) hHeld ?_; try simp only [Act.put, List.setIfInBounds_toArray, List.set_cons_zero, List.set_cons_succ]); (refine wpAnyH_take (i := 8) (v := _) (arr_get (g_s (g_s (g_s (g_s (g_s (g_s (g_s (g_s g_z))))))))) (by kernel_rfl) (by kernel_rfl) (by kernel_rfl) (fun _ _ _ h => h) (Or.inr ⟨by rfl, rfl⟩) hHeld ?_; try simp only [Act.put, List.setIfInBounds_toArray, List.set_cons_zero, List.set_cons_succ]); (refine wpAnyH_take (i := 9) (v := _) (arr_get (g_s (g_s (g_s (g_s (g_s (g_s (g_s (g_s (g_s g_z)))))))))) (by kernel_rfl) (by kernel_rfl) (by kernel_rfl) (fun _ _ _ h => h) (Or.inr ⟨by rfl, rfl⟩) hHeld ?_; try simp only [Act.put, List.setIfInBounds_toArray, List.set_cons_zero, List.set_cons_succ]); (refine wpAnyH_take (i := 10) (v := _) (arr_get (g_s (g_s (g_s (g_s (g_s (g_s (g_s (g_s (g_s (g_s g_z))))))))))) (by kernel_rfl) (by kernel_rfl) (by kernel_rfl) (fun _ _ _ h => h) (Or.inr ⟨by rfl, rfl⟩) hHeld ?_; try simp only [Act.put, List.setIfInBounds_toArray, List.set_cons_zero, List.set_cons_succ]); (refine wpAnyH_take (i := 11) (v := _) (arr_get (g_s (g_s (g_s (g_s (g_s (g_s (g_s (g_s (g_s (g_s (g_s g_z)))))))))))) (by kernel_rfl) (by kernel_rfl) (by kernel_rfl) (fun _ _ _ h => h) (Or.inr ⟨by rfl, rfl⟩) hHeld ?_; try simp only [Act.put, List.setIfInBounds_toArray, List.set_cons_zero, List.set_cons_succ]); (refine wpAnyH_take (i := 12) (v := _) (arr_get (g_s (g_s (g_s (g_s (g_s (g_s (g_s (g_s (g_s (g_s (g_s (g_s g_z))))))))))))) (by kernel_rfl) (by kernel_rfl) (by kernel_rfl) (fun _ _ _ h => h) (Or.inr ⟨by rfl, rfl⟩) hHeld ?_; try simp only [Act.put, List.setIfInBounds_toArray, List.set_cons_zero, List.set_cons_succ]); (refine wpAnyH_take (i := 13) (v := ?_) (arr_get (g_s (g_s (g_s (g_s (g_s (g_s (g_s (g_s (g_s (g_s (g_s (g_s (g_s g_z)))))))))))))) (by kernel_rfl) (by kernel_rfl) (by kernel_rfl) (fun _ _ _ h => h) (Or.inl ⟨by rfl, ?_⟩) hHeld ?_; rotate_left; (focus (intro w hSw; (try dsimp only at hSw); go_simp; try (first | (with_reducible rfl) | (rw [if_neg (by (try simp only [ByteArray.size_append]); omega)])))); try simp only [Act.put, List.setIfInBounds_toArray, List.set_cons_zero, List.set_cons_succ]); (refine wpAnyH_done (by kernel_rfl) ?_ _))
                all_goals
                  go_wp2_with fail
                  go_meet
                  exact ⟨_, Nat.le_refl _, rfl, bel_then HBL.out (bel_dr (Below.refl _ _))⟩
          case rest =>
            obtain ⟨k, hk, rfl, hb⟩ := hcut
            obtain ⟨wX, rfl⟩ : ∃ wX : World, wX = wc := ⟨_, rfl⟩
            have HBX := Lib.hid (bel_then HB.out hb)
            replace HK := Lib.hid (own_below HK.out hb)
            replace HT := Lib.hid (own_below HT.out hb)
            replace HR0 := Lib.hid (own_below HR0.out hb)
            have hszX := hb.size
            have HOX := Lib.hid (own_below HOW.out HBX.out)
            have hK : w.heap.size < wX.heap.size := (HK.out.lt _ rfl).2
            have hT5 : RT < wX.heap.size := (HT.out.lt _ rfl).2
            have k0 := HK.out.cellAt 0 (by omega)
            have k1 := HK.out.cellAt 1 (by omega)
            have t0 := HT.out.cellAt 0 (by omega)
            have t1 := HT.out.cellAt 1 (by omega)
            have t2 := HT.out.cellAt 2 (by omega)
            dsimp only [List.getElem?_cons_zero, List.getElem?_cons_succ] at k0 k1 t0 t1 t2
            obtain ⟨hn1, hn2, hl40, -⟩ := goodTown_true HG.out
            obtain ⟨i0, hi, hz0, hz1, hz2⟩ := info_parts Tryz.infoSt
            clear hb HB HOW
            go_upto_region 7 with fail
            go_cut [8] from 58 to 74 (fun v wx => ∃ (R : Nat) (vC : Value) (L : List St), v = .pointer (some ⟨R, 0, none⟩) ∧ wx.cell? ⟨R, 0, none⟩ = some (.int .i64 n) ∧ wx.cell? ⟨R, 1, none⟩ = some vC ∧ wX.heap.size ≤ R ∧ wx.ownsRow wX.heap.size 144 3 vC L.length (L.flatMap St.cells) ∧ Below wX.heap.size wX wx)
            case first =>
              have hcc : l.length ≤ c := hc
              have hK0 : w.heap.size < wX.heap.size := hK
              obtain ⟨DA, hsl, hDr, hPr⟩ : ∃ DA : Option Addr, (∀ w : World, (Instr.sliceAt 45 (.slice A l.length c) (some (.int .i64 (k : Int))) none none).run Tryz.prog w = .ok (.slice DA (l.length - k) (c - k)) w) ∧ Rd wX (.slice DA (l.length - k) (c - k)) (l.length - k) ((l.drop k).flatMap St.cells) ∧ Rd wX (.slice A k c) k ((l.take k).flatMap St.cells) := cut_slice HOX.out hk hcc hm
              have HSL := Lib.hid hsl
              have HD := Lib.hid hDr
              have HP := Lib.hid hPr
              clear hsl hDr hPr
              refine wp_region_inv2 (by kernel_rfl) (by kernel_rfl) (by kernel_rfl) (fun V w' => I7 wX w.heap.size RT n (minI f t) (maxI f t) s A DA c k l V w') (i7_start _ _ _ _ _ _ _ _ _ _ _ _) ?_ ?_
              · intro V w' hI hcl i o ho hi19 hVi hp a hin hout K hKK
                have D : D7 V := ⟨fun h => wait_some (by kernel_rfl) (hcl 7 h), fun h => ⟨wait_some (by kernel_rfl) (hcl 10 h), wait_some (by kernel_rfl) (hcl 10 h)⟩, fun h => wait_some (by kernel_rfl) (hcl 15 h), fun h => wait_some (by kernel_rfl) (hcl 16 h), fun h => ⟨wait_some (by kernel_rfl) (hcl 18 h), wait_some (by kernel_rfl) (hcl 18 h)⟩⟩
                have q7 : (V 10).isSome = true → (V 7).isSome = true := fun h => (D.d10 h).1
                have q10 : (V 15).isSome = true → (V 10).isSome = true := D.d15
                have q15 : (V 16).isSome = true → (V 15).isSome = true := D.d16
                have hi19 : i < 19 := hi19
                obtain rfl | rfl | rfl | rfl | rfl | rfl | rfl | rfl | rfl | rfl | rfl | rfl | rfl | rfl | rfl | rfl | rfl | rfl | rfl : i = 0 ∨ i = 1 ∨ i = 2 ∨ i = 3 ∨ i = 4 ∨ i = 5 ∨ i = 6 ∨ i = 7 ∨ i = 8 ∨ i = 9 ∨ i = 10 ∨ i = 11 ∨ i = 12 ∨ i = 13 ∨ i = 14 ∨ i = 15 ∨ i = 16 ∨ i = 17 ∨ i = 18 := by omega
                · obtain rfl := Option.some.inj ho
                  exact op7_0 hI D hVi ((hout 2 (by kernel_rfl)).trans rfl) hKK
                · obtain rfl := Option.some.inj ho
                  exact op7_1 hI D hVi (fun v hv => hin 0 58 v (by kernel_rfl) (by decide) (by simp) hv) (wait_some (by kernel_rfl) hp) hK0 k0 k1 hKK
                · obtain rfl := Option.some.inj ho
                  exact op7_2 hI D hVi  hKK
                · obtain rfl := Option.some.inj ho
                  exact op7_3 hI D hVi ((hout 2 (by kernel_rfl)).trans rfl) hKK
                · obtain rfl := Option.some.inj ho
                  exact op7_4 hI D hVi (fun v hv => hin 3 61 v (by kernel_rfl) (by decide) (by simp) hv) (wait_some (by kernel_rfl) hp) hK0 k0 k1 hKK
                · obtain rfl := Option.some.inj ho
                  exact op7_5 hI D hVi ((hout 7 (by kernel_rfl)).trans rfl) hKK
                · obtain rfl := Option.some.inj ho
                  exact op7_6 hI D hVi (fun v hv => hin 4 62 v (by kernel_rfl) (by decide) (by simp) hv) (fun v hv => hin 5 63 v (by kernel_rfl) (by decide) (by simp) hv) (wait_some (by kernel_rfl) hp) (wait_some (by kernel_rfl) hp) hk hcc hl40 hKK
                · obtain rfl := Option.some.inj ho
                  exact op7_7 hI D hVi (fun v hv => hin 2 60 v (by kernel_rfl) (by decide) (by simp) hv) (fun v hv => hin 6 64 v (by kernel_rfl) (by decide) (by simp) hv) (wait_some (by kernel_rfl) hp) (wait_some (by kernel_rfl) hp) HP.out hk hcc hl40 hKK
                · obtain rfl := Option.some.inj ho
                  exact op7_8 hI D hVi ((hout 6 (by kernel_rfl)).trans rfl) hT5 t0 t1 t2 hKK
                · obtain rfl := Option.some.inj ho
                  exact op7_9 hI D hVi (fun v hv => hin 8 66 v (by kernel_rfl) (by decide) (by simp) hv) (wait_some (by kernel_rfl) hp) hKK
                · obtain rfl := Option.some.inj ho
                  exact op7_10 hI D hVi (fun v hv => hin 7 65 v (by kernel_rfl) (by decide) (by simp) hv) (fun v hv => hin 9 67 v (by kernel_rfl) (by decide) (by simp) hv) (wait_some (by kernel_rfl) hp) (wait_some (by kernel_rfl) hp) hk hcc hl40 hKK
                · obtain rfl := Option.some.inj ho
                  exact op7_11 hI D hVi ((hout 2 (by kernel_rfl)).trans rfl) hKK
                · obtain rfl := Option.some.inj ho
                  exact op7_12 hI D hVi (fun v hv => hin 11 69 v (by kernel_rfl) (by decide) (by simp) hv) (wait_some (by kernel_rfl) hp) hK0 k0 k1 hKK
                · obtain rfl := Option.some.inj ho
                  exact op7_13 hI D hVi ((hout 7 (by kernel_rfl)).trans rfl) hKK
                · obtain rfl := Option.some.inj ho
                  exact op7_14 hI D hVi (fun v hv => hin 12 70 v (by kernel_rfl) (by decide) (by simp) hv) (fun v hv => hin 13 71 v (by kernel_rfl) (by decide) (by simp) hv) (wait_some (by kernel_rfl) hp) (wait_some (by kernel_rfl) hp) HSL.out hKK
                · obtain rfl := Option.some.inj ho
                  have p10 : (V 10).isSome = true := wait_some (by kernel_rfl) hp
                  exact op7_15 hI D hVi (fun v hv => hin 10 68 v (by kernel_rfl) (by decide) (by simp) hv) (fun v hv => hin 14 72 v (by kernel_rfl) (by decide) (by simp) hv) (wait_some (by kernel_rfl) hp) (wait_some (by kernel_rfl) hp) (q7 p10) HD.out hk hcc hl40 hKK
                · obtain rfl := Option.some.inj ho
                  exact op7_16 hI D hVi (fun v hv => hin 1 59 v (by kernel_rfl) (by decide) (by simp) hv) (fun v hv => hin 15 73 v (by kernel_rfl) (by decide) (by simp) hv) (wait_some (by kernel_rfl) hp) (wait_some (by kernel_rfl) hp) hKK
                · obtain rfl := Option.some.inj ho
                  exact op7_17 hI D hVi  hKK
                · obtain rfl := Option.some.inj ho
                  have p16 : (V 16).isSome = true := wait_some (by kernel_rfl) hp
                  exact op7_18 hI D hVi (fun v hv => hin 17 8 v (by kernel_rfl) (by decide) (by simp) hv) (fun v hv => hin 16 74 v (by kernel_rfl) (by decide) (by simp) hv) (wait_some (by kernel_rfl) hp) (wait_some (by kernel_rfl) hp) (q10 (q15 p16)) (q7 (q10 (q15 p16))) hKK
              · intro V w' hI hall
                obtain ⟨v0, h0⟩ := some_of (hall 0 (by decide))
                obtain ⟨v1, h1⟩ := some_of (hall 1 (by decide))
                obtain ⟨v2, h2⟩ := some_of (hall 2 (by decide))
                obtain ⟨v3, h3⟩ := some_of (hall 3 (by decide))
                obtain ⟨v4, h4⟩ := some_of (hall 4 (by decide))
                obtain ⟨v5, h5⟩ := some_of (hall 5 (by decide))
                obtain ⟨v6, h6⟩ := some_of (hall 6 (by decide))
                obtain ⟨v7, h7⟩ := some_of (hall 7 (by decide))
                obtain ⟨v8, h8⟩ := some_of (hall 8 (by decide))
                obtain ⟨v9, h9⟩ := some_of (hall 9 (by decide))
                obtain ⟨v10, h10⟩ := some_of (hall 10 (by decide))
                obtain ⟨v11, h11⟩ := some_of (hall 11 (by decide))
                obtain ⟨v12, h12⟩ := some_of (hall 12 (by decide))
                obtain ⟨v13, h13⟩ := some_of (hall 13 (by decide))
                obtain ⟨v14, h14⟩ := some_of (hall 14 (by decide))
                obtain ⟨v15, h15⟩ := some_of (hall 15 (by decide))
                obtain ⟨v16, h16⟩ := some_of (hall 16 (by decide))
                obtain ⟨v17, h17⟩ := some_of (hall 17 (by decide))
                obtain ⟨v18, h18⟩ := some_of (hall 18 (by decide))
                obtain ⟨R, e17, hR17, -⟩ := hI.r17 v17 h17
                subst e17
                obtain ⟨R', x, e1, e2, c0, c1⟩ := hI.r18 v18 h18
                rw [h17] at e1
                injection e1 with e1
                injection e1 with e1
                injection e1 with e1
                injection e1 with e1
                subst e1
                obtain ⟨A3, c3, e15, ho15⟩ := hI.r15 x e2
                have hlow := hI.low
                show Exit.then _ _ Exit.normal (putsTo _ V 19 _) _
                simp only [putsTo, h0, h1, h2, h3, h4, h5, h6, h7, h8, h9, h10, h11, h12, h13, h14, h15, h16, h17, h18, dstAt, List.getElem?_toArray, List.getElem?_cons_zero, List.getElem?_cons_succ, Option.bind_some, Act.put, List.setIfInBounds_toArray, List.set_cons_zero, List.set_cons_succ]
                clear hI hall
                go_wp2_with fail
                go_meet
                refine ⟨R, x, l.take k ++ ⟨minI f t, maxI f t, s⟩ :: l.drop k, rfl, c0, c1, hR17, ?_, hlow⟩
                have e1 : (l.take k ++ ⟨minI f t, maxI f t, s⟩ :: l.drop k).flatMap St.cells = (l.take k).flatMap St.cells ++ [.int .i64 (minI f t), .int .i64 (maxI f t), .int .i64 s] ++ (l.drop k).flatMap St.cells := by
                  rw [List.flatMap_append, List.flatMap_cons]; simp [St.cells]
                have e2 : (l.take k ++ ⟨minI f t, maxI f t, s⟩ :: l.drop k).length = k + 1 + (l.length - k) := by
                  rw [List.length_append, List.length_cons, List.length_take, List.length_drop, Nat.min_eq_left hk]; omega
                rw [e1, e2]
                exact ho15
            case rest =>
              obtain ⟨R, vC, L, rfl, c0, c1, hRw, hoC, hb⟩ := hcut
              obtain ⟨AC, cC, rfl, -⟩ := own_rd hoC
              have HOC := Lib.hid hoC
              have HBC := Lib.hid (bel_then HBX.out hb)
              have HRC := Lib.hid (own_below HR0.out hb)
              have hszC := hb.size
              clear hb hoC HBX HR0 HK HT HOX k0 k1 t0 t1 t2
              obtain ⟨wN, rfl⟩ : ∃ x : World, x = wc := ⟨_, rfl⟩
              go_wp2_with fail
              refine (toGood_c n _ L _ (own_rd HOC.out)).mono ?_; rintro e W5 ⟨rfl, hb⟩
              have hRlt : R < wN.heap.size := World.block_lt_of_cell? _ _ c0
              have d0 := (hb.cell (p := ⟨R, 0, none⟩) hRlt).trans c0
              have d1 := (hb.cell (p := ⟨R, 1, none⟩) hRlt).trans c1
              have HOC2 := Lib.hid (own_below HOC.out hb)
              have HBC2 := Lib.hid (bel_then HBC.out hb)
              have HRC2 := Lib.hid (own_below HRC.out hb)
              clear hb c0 c1 HOC HBC HRC
              have r0 := HRC2.out.cellAt 0 (by omega)
              have r1 := HRC2.out.cellAt 1 (by omega)
              have f0 := HRC2.out.frozenAt 0
              have f1 := HRC2.out.frozenAt 1
              dsimp only [List.getElem?_cons_zero, List.getElem?_cons_succ] at r0 r1
              cases hg : goodTown n L with
              | false =>
                clear hg d0 d1
                go_wp2
                refine bodyPost_ret (v := .tuple #[.agg #[.int .i64 0, .slice none 0 0], .bool false]) (by simp [results, Tryz.results154, go_sem, r0, r1]) rfl ?_
                exact ⟨0, .slice none 0 0, [], false, rfl, fun h => by (cases h), World.ownsRow_nil _ _ _ _, by simp, bel_grown HBC2.out (only_setCell (only_setCell (World.grownBy.refl _ (some (w.heap.size + 1 + 1))) 0 _) 1 _) (fun q e => by have := Option.some.inj e; omega)⟩
              | true =>
                have hL40 := (goodTown_true hg).2.2.1
                clear hg
                have hne : w.heap.size + 1 + 1 ≠ R := by omega
                have hne2 : R ≠ w.heap.size + 1 + 1 := by omega
                go_wp2
                refine bodyPost_ret (v := .tuple #[.agg #[.int .i64 n, .slice AC L.length cC], .bool true]) (by simp [results, Tryz.results154, go_sem, r0, r1, d0, d1, hne, hne2]) rfl ?_
                have hlo := HOC2.out.lt
                have hbl : ∀ q, (Value.slice AC L.length cC).ownBlock = some q → q ≠ w.heap.size + 1 + 1 := fun q e => by have := (hlo q e).1; omega
                exact ⟨n, _, L, true, rfl, fun _ => rfl, own_base (own_farR (own_farR HOC2.out hbl 0 _) hbl 1 _) (by omega), hL40, bel_grown HBC2.out (only_setCell (only_setCell (World.grownBy.refl _ (some (w.heap.size + 1 + 1))) 0 _) 1 _) (fun q e => by have := Option.some.inj e; omega)⟩
end Go.Proofs.YthgegghdkoeofaaGreatDoor

namespace Go.Proofs.YthgegghdkoeofaaGreatDoor
set_option linter.unusedVariables false
set_option linter.unusedSimpArgs false
open Go.RowKit

structure T8 (B : Nat) (l : List Int) (a0 K : Nat) (w0 wX : World) (RT : Nat) (n : Int) (Av : Option Addr) (cv : Nat) (L : List St) (kk : Nat) (V : Nat → Option Value) (w : World) : Prop where
  sz : wX.heap.size ≤ w.heap.size
  s0 : V 3 = none → TownSt B l a0 (K + 0) w0 RT n (.slice Av L.length cv) L w
  s1 : (V 3).isSome = true → V 7 = none → TownSt B l a0 (K + 2) w0 RT n (.slice Av L.length cv) L w
  s2 : (V 7).isSome = true → V 10 = none → TownSt B l a0 (K + 4) w0 RT n (.slice Av L.length cv) L w
  s3 : (V 10).isSome = true → TownSt B l a0 (K + 6) w0 RT n (.slice Av L.length cv) L w
  r0 : ∀ v, V 0 = some v → v = .agg #[.int .i64 n, .slice Av L.length cv]
  r1 : ∀ v, V 1 = some v → v = .pointer (some ⟨B, 0, none⟩)
  r2 : ∀ v, V 2 = some v → v = .int .i64 (kk : Int)
  r3 : ∀ v, V 3 = some v → ∃ x : Int, v = .int .i64 x
  r4 : ∀ v, V 4 = some v → v = .int .i64 (kk : Int)
  r5 : ∀ v, V 5 = some v → v = .pointer (some ⟨B, 0, none⟩)
  r6 : ∀ v, V 6 = some v → v = .pointer (some ⟨B, 0, none⟩)
  r7 : ∀ v, V 7 = some v → ∃ x : Int, v = .int .i64 x
  r8 : ∀ v, V 8 = some v → ∃ x : Int, v = .int .i64 x
  r9 : ∀ v, V 9 = some v → V 10 = none → ∃ y : Int, RS B w (v) [30, 60, 90, 120, y]
  r10 : ∀ v, V 10 = some v → ∃ x : Int, v = .int .i64 x
  r11 : ∀ v, V 11 = some v → ∃ f t s : Int, v = .agg #[.int .i64 f, .int .i64 t, .int .i64 s]
  r12 : ∀ v, V 12 = some v → ∃ (n' : Int) (A' : Option Addr) (c' : Nat) (L' : List St) (b : Bool), v = .tuple #[.agg #[.int .i64 n', .slice A' L'.length c'], .bool b] ∧ (b = true → n' = n) ∧ World.ownsRow w w0.heap.size 144 3 (.slice A' L'.length c') L'.length (L'.flatMap St.cells) ∧ L'.length ≤ 40
  r13 : ∀ v, V 13 = some v → V 12 = some v
  r14 : ∀ v, V 14 = some v → ∃ b : Value, V 12 = some (.tuple #[v, b])
  r15 : ∀ v, V 15 = some v → ∃ p : Value, V 12 = some (.tuple #[p, v])
  r16 : ∀ v, V 16 = some v → ∃ R, v = .pointer (some ⟨R, 0, none⟩) ∧ wX.heap.size ≤ R ∧ (V 17 = none → FreshT w R)
  r17 : ∀ v, V 17 = some v → ∃ (R : Nat) (n' : Int) (A' : Option Addr) (c' m' : Nat) (b : Value), V 16 = some (.pointer (some ⟨R, 0, none⟩)) ∧ V 12 = some (.tuple #[.agg #[.int .i64 n', .slice A' m' c'], b]) ∧ World.cell? w ⟨R, 0, none⟩ = some (.int .i64 n') ∧ World.cell? w ⟨R, 1, none⟩ = some (.slice A' m' c')
  r18 : ∀ v, V 18 = some v → V 15 = some v
structure DT8 (V : Nat → Option Value) : Prop where
  d3_1 : (V 3).isSome = true → (V 1).isSome = true
  d3_2 : (V 3).isSome = true → (V 2).isSome = true
  d7_3 : (V 7).isSome = true → (V 3).isSome = true
  d7_6 : (V 7).isSome = true → (V 6).isSome = true
  d8_7 : (V 8).isSome = true → (V 7).isSome = true
  d9_8 : (V 9).isSome = true → (V 8).isSome = true
  d10_5 : (V 10).isSome = true → (V 5).isSome = true
  d10_9 : (V 10).isSome = true → (V 9).isSome = true
  d10_7 : (V 10).isSome = true → (V 7).isSome = true
  d11_3 : (V 11).isSome = true → (V 3).isSome = true
  d11_4 : (V 11).isSome = true → (V 4).isSome = true
  d11_10 : (V 11).isSome = true → (V 10).isSome = true
  d12_0 : (V 12).isSome = true → (V 0).isSome = true
  d12_11 : (V 12).isSome = true → (V 11).isSome = true
  d12_10 : (V 12).isSome = true → (V 10).isSome = true
  d13_12 : (V 13).isSome = true → (V 12).isSome = true
  d14_13 : (V 14).isSome = true → (V 13).isSome = true
  d15_13 : (V 15).isSome = true → (V 13).isSome = true
  d17_14 : (V 17).isSome = true → (V 14).isSome = true
  d17_16 : (V 17).isSome = true → (V 16).isSome = true
  d18_15 : (V 18).isSome = true → (V 15).isSome = true
theorem T8.any {B : Nat} {l : List Int} {a0 K : Nat} {w0 wX : World} {RT : Nat} {n : Int} {Av : Option Addr} {cv : Nat} {L : List St} {kk : Nat} {V : Nat → Option Value} {w : World} (h : T8 B l a0 K w0 wX RT n Av cv L kk V w) : ∃ k, k ≤ 6 ∧ TownSt B l a0 (K + k) w0 RT n (.slice Av L.length cv) L w := by
  cases h3 : V 3 with
  | none => exact ⟨0, by omega, h.s0 h3⟩
  | some v3 =>
  cases h7 : V 7 with
  | none => exact ⟨2, by omega, h.s1 (by rw [h3]; rfl) h7⟩
  | some v7 =>
  cases h10 : V 10 with
  | none => exact ⟨4, by omega, h.s2 (by rw [h7]; rfl) h10⟩
  | some v10 =>
  exact ⟨6, by omega, h.s3 (by rw [h10]; rfl)⟩
theorem T8_0 {B : Nat} {l : List Int} {a0 K : Nat} {w0 wX : World} {RT : Nat} {n : Int} {Av : Option Addr} {cv : Nat} {L : List St} {kk : Nat} {V : Nat → Option Value} {w : World} (h : T8 B l a0 K w0 wX RT n Av cv L kk V w) (d : DT8 V) (hi : V 0 = none) (hWX : w0.heap.size ≤ wX.heap.size) (hRT : RT < wX.heap.size) (v : Value) (hv : v = .agg #[.int .i64 n, .slice Av L.length cv]) : T8 B l a0 K w0 wX RT n Av cv L kk (updV V 0 v) w := by
  have n12 : V 12 = none := none_of d.d12_0 hi
  have n13 : V 13 = none := none_of d.d13_12 n12
  have n14 : V 14 = none := none_of d.d14_13 n13
  have n15 : V 15 = none := none_of d.d15_13 n13
  have n17 : V 17 = none := none_of d.d17_14 n14
  have n18 : V 18 = none := none_of d.d18_15 n15
  exact {
    sz := (h.sz),
    s0 := (fun hn => h.s0 ((updV_ne (by decide)).symm.trans hn)),
    s1 := (fun hs hn => h.s1 (upd_some hs (by decide)) ((updV_ne (by decide)).symm.trans hn)),
    s2 := (fun hs hn => h.s2 (upd_some hs (by decide)) ((updV_ne (by decide)).symm.trans hn)),
    s3 := (fun hs => h.s3 (upd_some hs (by decide))),
    r0 := (fun u hu => by have e := Option.some.inj ((updV_same _ _ _).symm.trans hu); subst e; exact hv),
    r1 := (fun u hu => h.r1 u ((updV_ne (by decide)).symm.trans hu)),
    r2 := (fun u hu => h.r2 u ((updV_ne (by decide)).symm.trans hu)),
    r3 := (fun u hu => h.r3 u ((updV_ne (by decide)).symm.trans hu)),
    r4 := (fun u hu => h.r4 u ((updV_ne (by decide)).symm.trans hu)),
    r5 := (fun u hu => h.r5 u ((updV_ne (by decide)).symm.trans hu)),
    r6 := (fun u hu => h.r6 u ((updV_ne (by decide)).symm.trans hu)),
    r7 := (fun u hu => h.r7 u ((updV_ne (by decide)).symm.trans hu)),
    r8 := (fun u hu => h.r8 u ((updV_ne (by decide)).symm.trans hu)),
    r9 := (fun u hu hd => h.r9 u ((updV_ne (by decide)).symm.trans hu) ((updV_ne (by decide)).symm.trans hd)),
    r10 := (fun u hu => h.r10 u ((updV_ne (by decide)).symm.trans hu)),
    r11 := (fun u hu => h.r11 u ((updV_ne (by decide)).symm.trans hu)),
    r12 := (fun u hu => no ((updV_ne (by decide)).symm.trans hu) n12),
    r13 := (fun u hu => no ((updV_ne (by decide)).symm.trans hu) n13),
    r14 := (fun u hu => no ((updV_ne (by decide)).symm.trans hu) n14),
    r15 := (fun u hu => no ((updV_ne (by decide)).symm.trans hu) n15),
    r16 := (fun u hu => by obtain ⟨R, e, hR, hf⟩ := h.r16 u ((updV_ne (by decide)).symm.trans hu); exact ⟨R, e, hR, fun hz => hf ((updV_ne (by decide)).symm.trans hz)⟩),
    r17 := (fun u hu => no ((updV_ne (by decide)).symm.trans hu) n17),
    r18 := (fun u hu => no ((updV_ne (by decide)).symm.trans hu) n18) }
theorem T8_1 {B : Nat} {l : List Int} {a0 K : Nat} {w0 wX : World} {RT : Nat} {n : Int} {Av : Option Addr} {cv : Nat} {L : List St} {kk : Nat} {V : Nat → Option Value} {w : World} (h : T8 B l a0 K w0 wX RT n Av cv L kk V w) (d : DT8 V) (hi : V 1 = none) (hWX : w0.heap.size ≤ wX.heap.size) (hRT : RT < wX.heap.size) (v : Value) (hv : v = .pointer (some ⟨B, 0, none⟩)) : T8 B l a0 K w0 wX RT n Av cv L kk (updV V 1 v) w := by
  have n3 : V 3 = none := none_of d.d3_1 hi
  have n7 : V 7 = none := none_of d.d7_3 n3
  have n8 : V 8 = none := none_of d.d8_7 n7
  have n9 : V 9 = none := none_of d.d9_8 n8
  have n10 : V 10 = none := none_of d.d10_9 n9
  have n11 : V 11 = none := none_of d.d11_3 n3
  have n12 : V 12 = none := none_of d.d12_11 n11
  have n13 : V 13 = none := none_of d.d13_12 n12
  have n14 : V 14 = none := none_of d.d14_13 n13
  have n15 : V 15 = none := none_of d.d15_13 n13
  have n17 : V 17 = none := none_of d.d17_14 n14
  have n18 : V 18 = none := none_of d.d18_15 n15
  exact {
    sz := (h.sz),
    s0 := (fun hn => h.s0 ((updV_ne (by decide)).symm.trans hn)),
    s1 := (fun hs hn => h.s1 (upd_some hs (by decide)) ((updV_ne (by decide)).symm.trans hn)),
    s2 := (fun hs hn => h.s2 (upd_some hs (by decide)) ((updV_ne (by decide)).symm.trans hn)),
    s3 := (fun hs => h.s3 (upd_some hs (by decide))),
    r0 := (fun u hu => h.r0 u ((updV_ne (by decide)).symm.trans hu)),
    r1 := (fun u hu => by have e := Option.some.inj ((updV_same _ _ _).symm.trans hu); subst e; exact hv),
    r2 := (fun u hu => h.r2 u ((updV_ne (by decide)).symm.trans hu)),
    r3 := (fun u hu => no ((updV_ne (by decide)).symm.trans hu) n3),
    r4 := (fun u hu => h.r4 u ((updV_ne (by decide)).symm.trans hu)),
    r5 := (fun u hu => h.r5 u ((updV_ne (by decide)).symm.trans hu)),
    r6 := (fun u hu => h.r6 u ((updV_ne (by decide)).symm.trans hu)),
    r7 := (fun u hu => no ((updV_ne (by decide)).symm.trans hu) n7),
    r8 := (fun u hu => no ((updV_ne (by decide)).symm.trans hu) n8),
    r9 := (fun u hu hd => no ((updV_ne (by decide)).symm.trans hu) n9),
    r10 := (fun u hu => no ((updV_ne (by decide)).symm.trans hu) n10),
    r11 := (fun u hu => no ((updV_ne (by decide)).symm.trans hu) n11),
    r12 := (fun u hu => no ((updV_ne (by decide)).symm.trans hu) n12),
    r13 := (fun u hu => no ((updV_ne (by decide)).symm.trans hu) n13),
    r14 := (fun u hu => no ((updV_ne (by decide)).symm.trans hu) n14),
    r15 := (fun u hu => no ((updV_ne (by decide)).symm.trans hu) n15),
    r16 := (fun u hu => by obtain ⟨R, e, hR, hf⟩ := h.r16 u ((updV_ne (by decide)).symm.trans hu); exact ⟨R, e, hR, fun hz => hf ((updV_ne (by decide)).symm.trans hz)⟩),
    r17 := (fun u hu => no ((updV_ne (by decide)).symm.trans hu) n17),
    r18 := (fun u hu => no ((updV_ne (by decide)).symm.trans hu) n18) }
theorem T8_2 {B : Nat} {l : List Int} {a0 K : Nat} {w0 wX : World} {RT : Nat} {n : Int} {Av : Option Addr} {cv : Nat} {L : List St} {kk : Nat} {V : Nat → Option Value} {w : World} (h : T8 B l a0 K w0 wX RT n Av cv L kk V w) (d : DT8 V) (hi : V 2 = none) (hWX : w0.heap.size ≤ wX.heap.size) (hRT : RT < wX.heap.size) (v : Value) (hv : v = .int .i64 (kk : Int)) : T8 B l a0 K w0 wX RT n Av cv L kk (updV V 2 v) w := by
  have n3 : V 3 = none := none_of d.d3_2 hi
  have n7 : V 7 = none := none_of d.d7_3 n3
  have n8 : V 8 = none := none_of d.d8_7 n7
  have n9 : V 9 = none := none_of d.d9_8 n8
  have n10 : V 10 = none := none_of d.d10_9 n9
  have n11 : V 11 = none := none_of d.d11_3 n3
  have n12 : V 12 = none := none_of d.d12_11 n11
  have n13 : V 13 = none := none_of d.d13_12 n12
  have n14 : V 14 = none := none_of d.d14_13 n13
  have n15 : V 15 = none := none_of d.d15_13 n13
  have n17 : V 17 = none := none_of d.d17_14 n14
  have n18 : V 18 = none := none_of d.d18_15 n15
  exact {
    sz := (h.sz),
    s0 := (fun hn => h.s0 ((updV_ne (by decide)).symm.trans hn)),
    s1 := (fun hs hn => h.s1 (upd_some hs (by decide)) ((updV_ne (by decide)).symm.trans hn)),
    s2 := (fun hs hn => h.s2 (upd_some hs (by decide)) ((updV_ne (by decide)).symm.trans hn)),
    s3 := (fun hs => h.s3 (upd_some hs (by decide))),
    r0 := (fun u hu => h.r0 u ((updV_ne (by decide)).symm.trans hu)),
    r1 := (fun u hu => h.r1 u ((updV_ne (by decide)).symm.trans hu)),
    r2 := (fun u hu => by have e := Option.some.inj ((updV_same _ _ _).symm.trans hu); subst e; exact hv),
    r3 := (fun u hu => no ((updV_ne (by decide)).symm.trans hu) n3),
    r4 := (fun u hu => h.r4 u ((updV_ne (by decide)).symm.trans hu)),
    r5 := (fun u hu => h.r5 u ((updV_ne (by decide)).symm.trans hu)),
    r6 := (fun u hu => h.r6 u ((updV_ne (by decide)).symm.trans hu)),
    r7 := (fun u hu => no ((updV_ne (by decide)).symm.trans hu) n7),
    r8 := (fun u hu => no ((updV_ne (by decide)).symm.trans hu) n8),
    r9 := (fun u hu hd => no ((updV_ne (by decide)).symm.trans hu) n9),
    r10 := (fun u hu => no ((updV_ne (by decide)).symm.trans hu) n10),
    r11 := (fun u hu => no ((updV_ne (by decide)).symm.trans hu) n11),
    r12 := (fun u hu => no ((updV_ne (by decide)).symm.trans hu) n12),
    r13 := (fun u hu => no ((updV_ne (by decide)).symm.trans hu) n13),
    r14 := (fun u hu => no ((updV_ne (by decide)).symm.trans hu) n14),
    r15 := (fun u hu => no ((updV_ne (by decide)).symm.trans hu) n15),
    r16 := (fun u hu => by obtain ⟨R, e, hR, hf⟩ := h.r16 u ((updV_ne (by decide)).symm.trans hu); exact ⟨R, e, hR, fun hz => hf ((updV_ne (by decide)).symm.trans hz)⟩),
    r17 := (fun u hu => no ((updV_ne (by decide)).symm.trans hu) n17),
    r18 := (fun u hu => no ((updV_ne (by decide)).symm.trans hu) n18) }
theorem T8_3 {B : Nat} {l : List Int} {a0 K : Nat} {w0 wX : World} {RT : Nat} {n : Int} {Av : Option Addr} {cv : Nat} {L : List St} {kk : Nat} {V : Nat → Option Value} {w : World} (h : T8 B l a0 K w0 wX RT n Av cv L kk V w) (d : DT8 V) (hi : V 3 = none) (p1 : (V 1).isSome = true) (p2 : (V 2).isSome = true) (hWX : w0.heap.size ≤ wX.heap.size) (hRT : RT < wX.heap.size) (w2 : World) (hm : Drew B l (a0 + (K + 0)) 2 w w2) (hB : B < w0.heap.size) (v : Value) (hv : ∃ x : Int, v = .int .i64 x) : T8 B l a0 K w0 wX RT n Av cv L kk (updV V 3 v) w2 := by
  have n7 : V 7 = none := none_of d.d7_3 hi
  have n8 : V 8 = none := none_of d.d8_7 n7
  have n9 : V 9 = none := none_of d.d9_8 n8
  have n10 : V 10 = none := none_of d.d10_9 n9
  have n11 : V 11 = none := none_of d.d11_3 hi
  have n12 : V 12 = none := none_of d.d12_11 n11
  have n13 : V 13 = none := none_of d.d13_12 n12
  have n14 : V 14 = none := none_of d.d14_13 n13
  have n15 : V 15 = none := none_of d.d15_13 n13
  have n17 : V 17 = none := none_of d.d17_14 n14
  have n18 : V 18 = none := none_of d.d18_15 n15
  exact {
    sz := (Nat.le_trans h.sz hm.2.size),
    s0 := (fun hn => no (updV_same _ _ _) hn),
    s1 := (fun hs hn => town_more (town_drew (h.s0 hi) hm hB) (by omega)),
    s2 := (fun hs hn => noS (upd_some hs (by decide)) n7),
    s3 := (fun hs => noS (upd_some hs (by decide)) n10),
    r0 := (fun u hu => h.r0 u ((updV_ne (by decide)).symm.trans hu)),
    r1 := (fun u hu => h.r1 u ((updV_ne (by decide)).symm.trans hu)),
    r2 := (fun u hu => h.r2 u ((updV_ne (by decide)).symm.trans hu)),
    r3 := (fun u hu => by have e := Option.some.inj ((updV_same _ _ _).symm.trans hu); subst e; exact hv),
    r4 := (fun u hu => h.r4 u ((updV_ne (by decide)).symm.trans hu)),
    r5 := (fun u hu => h.r5 u ((updV_ne (by decide)).symm.trans hu)),
    r6 := (fun u hu => h.r6 u ((updV_ne (by decide)).symm.trans hu)),
    r7 := (fun u hu => no ((updV_ne (by decide)).symm.trans hu) n7),
    r8 := (fun u hu => no ((updV_ne (by decide)).symm.trans hu) n8),
    r9 := (fun u hu hd => no ((updV_ne (by decide)).symm.trans hu) n9),
    r10 := (fun u hu => no ((updV_ne (by decide)).symm.trans hu) n10),
    r11 := (fun u hu => no ((updV_ne (by decide)).symm.trans hu) n11),
    r12 := (fun u hu => no ((updV_ne (by decide)).symm.trans hu) n12),
    r13 := (fun u hu => no ((updV_ne (by decide)).symm.trans hu) n13),
    r14 := (fun u hu => no ((updV_ne (by decide)).symm.trans hu) n14),
    r15 := (fun u hu => no ((updV_ne (by decide)).symm.trans hu) n15),
    r16 := (fun u hu => by obtain ⟨R, e, hR, hf⟩ := h.r16 u ((updV_ne (by decide)).symm.trans hu); exact ⟨R, e, hR, fun hz => own_draw (hf ((updV_ne (by decide)).symm.trans hz)) hm.2 (by have := hB; have := hR; have := hWX; omega)⟩),
    r17 := (fun u hu => no ((updV_ne (by decide)).symm.trans hu) n17),
    r18 := (fun u hu => no ((updV_ne (by decide)).symm.trans hu) n18) }
theorem T8_4 {B : Nat} {l : List Int} {a0 K : Nat} {w0 wX : World} {RT : Nat} {n : Int} {Av : Option Addr} {cv : Nat} {L : List St} {kk : Nat} {V : Nat → Option Value} {w : World} (h : T8 B l a0 K w0 wX RT n Av cv L kk V w) (d : DT8 V) (hi : V 4 = none) (hWX : w0.heap.size ≤ wX.heap.size) (hRT : RT < wX.heap.size) (v : Value) (hv : v = .int .i64 (kk : Int)) : T8 B l a0 K w0 wX RT n Av cv L kk (updV V 4 v) w := by
  have n11 : V 11 = none := none_of d.d11_4 hi
  have n12 : V 12 = none := none_of d.d12_11 n11
  have n13 : V 13 = none := none_of d.d13_12 n12
  have n14 : V 14 = none := none_of d.d14_13 n13
  have n15 : V 15 = none := none_of d.d15_13 n13
  have n17 : V 17 = none := none_of d.d17_14 n14
  have n18 : V 18 = none := none_of d.d18_15 n15
  exact {
    sz := (h.sz),
    s0 := (fun hn => h.s0 ((updV_ne (by decide)).symm.trans hn)),
    s1 := (fun hs hn => h.s1 (upd_some hs (by decide)) ((updV_ne (by decide)).symm.trans hn)),
    s2 := (fun hs hn => h.s2 (upd_some hs (by decide)) ((updV_ne (by decide)).symm.trans hn)),
    s3 := (fun hs => h.s3 (upd_some hs (by decide))),
    r0 := (fun u hu => h.r0 u ((updV_ne (by decide)).symm.trans hu)),
    r1 := (fun u hu => h.r1 u ((updV_ne (by decide)).symm.trans hu)),
    r2 := (fun u hu => h.r2 u ((updV_ne (by decide)).symm.trans hu)),
    r3 := (fun u hu => h.r3 u ((updV_ne (by decide)).symm.trans hu)),
    r4 := (fun u hu => by have e := Option.some.inj ((updV_same _ _ _).symm.trans hu); subst e; exact hv),
    r5 := (fun u hu => h.r5 u ((updV_ne (by decide)).symm.trans hu)),
    r6 := (fun u hu => h.r6 u ((updV_ne (by decide)).symm.trans hu)),
    r7 := (fun u hu => h.r7 u ((updV_ne (by decide)).symm.trans hu)),
    r8 := (fun u hu => h.r8 u ((updV_ne (by decide)).symm.trans hu)),
    r9 := (fun u hu hd => h.r9 u ((updV_ne (by decide)).symm.trans hu) ((updV_ne (by decide)).symm.trans hd)),
    r10 := (fun u hu => h.r10 u ((updV_ne (by decide)).symm.trans hu)),
    r11 := (fun u hu => no ((updV_ne (by decide)).symm.trans hu) n11),
    r12 := (fun u hu => no ((updV_ne (by decide)).symm.trans hu) n12),
    r13 := (fun u hu => no ((updV_ne (by decide)).symm.trans hu) n13),
    r14 := (fun u hu => no ((updV_ne (by decide)).symm.trans hu) n14),
    r15 := (fun u hu => no ((updV_ne (by decide)).symm.trans hu) n15),
    r16 := (fun u hu => by obtain ⟨R, e, hR, hf⟩ := h.r16 u ((updV_ne (by decide)).symm.trans hu); exact ⟨R, e, hR, fun hz => hf ((updV_ne (by decide)).symm.trans hz)⟩),
    r17 := (fun u hu => no ((updV_ne (by decide)).symm.trans hu) n17),
    r18 := (fun u hu => no ((updV_ne (by decide)).symm.trans hu) n18) }
theorem T8_5 {B : Nat} {l : List Int} {a0 K : Nat} {w0 wX : World} {RT : Nat} {n : Int} {Av : Option Addr} {cv : Nat} {L : List St} {kk : Nat} {V : Nat → Option Value} {w : World} (h : T8 B l a0 K w0 wX RT n Av cv L kk V w) (d : DT8 V) (hi : V 5 = none) (hWX : w0.heap.size ≤ wX.heap.size) (hRT : RT < wX.heap.size) (v : Value) (hv : v = .pointer (some ⟨B, 0, none⟩)) : T8 B l a0 K w0 wX RT n Av cv L kk (updV V 5 v) w := by
  have n10 : V 10 = none := none_of d.d10_5 hi
  have n11 : V 11 = none := none_of d.d11_10 n10
  have n12 : V 12 = none := none_of d.d12_11 n11
  have n13 : V 13 = none := none_of d.d13_12 n12
  have n14 : V 14 = none := none_of d.d14_13 n13
  have n15 : V 15 = none := none_of d.d15_13 n13
  have n17 : V 17 = none := none_of d.d17_14 n14
  have n18 : V 18 = none := none_of d.d18_15 n15
  exact {
    sz := (h.sz),
    s0 := (fun hn => h.s0 ((updV_ne (by decide)).symm.trans hn)),
    s1 := (fun hs hn => h.s1 (upd_some hs (by decide)) ((updV_ne (by decide)).symm.trans hn)),
    s2 := (fun hs hn => h.s2 (upd_some hs (by decide)) ((updV_ne (by decide)).symm.trans hn)),
    s3 := (fun hs => h.s3 (upd_some hs (by decide))),
    r0 := (fun u hu => h.r0 u ((updV_ne (by decide)).symm.trans hu)),
    r1 := (fun u hu => h.r1 u ((updV_ne (by decide)).symm.trans hu)),
    r2 := (fun u hu => h.r2 u ((updV_ne (by decide)).symm.trans hu)),
    r3 := (fun u hu => h.r3 u ((updV_ne (by decide)).symm.trans hu)),
    r4 := (fun u hu => h.r4 u ((updV_ne (by decide)).symm.trans hu)),
    r5 := (fun u hu => by have e := Option.some.inj ((updV_same _ _ _).symm.trans hu); subst e; exact hv),
    r6 := (fun u hu => h.r6 u ((updV_ne (by decide)).symm.trans hu)),
    r7 := (fun u hu => h.r7 u ((updV_ne (by decide)).symm.trans hu)),
    r8 := (fun u hu => h.r8 u ((updV_ne (by decide)).symm.trans hu)),
    r9 := (fun u hu hd => h.r9 u ((updV_ne (by decide)).symm.trans hu) ((updV_ne (by decide)).symm.trans hd)),
    r10 := (fun u hu => no ((updV_ne (by decide)).symm.trans hu) n10),
    r11 := (fun u hu => no ((updV_ne (by decide)).symm.trans hu) n11),
    r12 := (fun u hu => no ((updV_ne (by decide)).symm.trans hu) n12),
    r13 := (fun u hu => no ((updV_ne (by decide)).symm.trans hu) n13),
    r14 := (fun u hu => no ((updV_ne (by decide)).symm.trans hu) n14),
    r15 := (fun u hu => no ((updV_ne (by decide)).symm.trans hu) n15),
    r16 := (fun u hu => by obtain ⟨R, e, hR, hf⟩ := h.r16 u ((updV_ne (by decide)).symm.trans hu); exact ⟨R, e, hR, fun hz => hf ((updV_ne (by decide)).symm.trans hz)⟩),
    r17 := (fun u hu => no ((updV_ne (by decide)).symm.trans hu) n17),
    r18 := (fun u hu => no ((updV_ne (by decide)).symm.trans hu) n18) }
theorem T8_6 {B : Nat} {l : List Int} {a0 K : Nat} {w0 wX : World} {RT : Nat} {n : Int} {Av : Option Addr} {cv : Nat} {L : List St} {kk : Nat} {V : Nat → Option Value} {w : World} (h : T8 B l a0 K w0 wX RT n Av cv L kk V w) (d : DT8 V) (hi : V 6 = none) (hWX : w0.heap.size ≤ wX.heap.size) (hRT : RT < wX.heap.size) (v : Value) (hv : v = .pointer (some ⟨B, 0, none⟩)) : T8 B l a0 K w0 wX RT n Av cv L kk (updV V 6 v) w := by
  have n7 : V 7 = none := none_of d.d7_6 hi
  have n8 : V 8 = none := none_of d.d8_7 n7
  have n9 : V 9 = none := none_of d.d9_8 n8
  have n10 : V 10 = none := none_of d.d10_9 n9
  have n11 : V 11 = none := none_of d.d11_10 n10
  have n12 : V 12 = none := none_of d.d12_11 n11
  have n13 : V 13 = none := none_of d.d13_12 n12
  have n14 : V 14 = none := none_of d.d14_13 n13
  have n15 : V 15 = none := none_of d.d15_13 n13
  have n17 : V 17 = none := none_of d.d17_14 n14
  have n18 : V 18 = none := none_of d.d18_15 n15
  exact {
    sz := (h.sz),
    s0 := (fun hn => h.s0 ((updV_ne (by decide)).symm.trans hn)),
    s1 := (fun hs hn => h.s1 (upd_some hs (by decide)) ((updV_ne (by decide)).symm.trans hn)),
    s2 := (fun hs hn => h.s2 (upd_some hs (by decide)) ((updV_ne (by decide)).symm.trans hn)),
    s3 := (fun hs => h.s3 (upd_some hs (by decide))),
    r0 := (fun u hu => h.r0 u ((updV_ne (by decide)).symm.trans hu)),
    r1 := (fun u hu => h.r1 u ((updV_ne (by decide)).symm.trans hu)),
    r2 := (fun u hu => h.r2 u ((updV_ne (by decide)).symm.trans hu)),
    r3 := (fun u hu => h.r3 u ((updV_ne (by decide)).symm.trans hu)),
    r4 := (fun u hu => h.r4 u ((updV_ne (by decide)).symm.trans hu)),
    r5 := (fun u hu => h.r5 u ((updV_ne (by decide)).symm.trans hu)),
    r6 := (fun u hu => by have e := Option.some.inj ((updV_same _ _ _).symm.trans hu); subst e; exact hv),
    r7 := (fun u hu => no ((updV_ne (by decide)).symm.trans hu) n7),
    r8 := (fun u hu => no ((updV_ne (by decide)).symm.trans hu) n8),
    r9 := (fun u hu hd => no ((updV_ne (by decide)).symm.trans hu) n9),
    r10 := (fun u hu => no ((updV_ne (by decide)).symm.trans hu) n10),
    r11 := (fun u hu => no ((updV_ne (by decide)).symm.trans hu) n11),
    r12 := (fun u hu => no ((updV_ne (by decide)).symm.trans hu) n12),
    r13 := (fun u hu => no ((updV_ne (by decide)).symm.trans hu) n13),
    r14 := (fun u hu => no ((updV_ne (by decide)).symm.trans hu) n14),
    r15 := (fun u hu => no ((updV_ne (by decide)).symm.trans hu) n15),
    r16 := (fun u hu => by obtain ⟨R, e, hR, hf⟩ := h.r16 u ((updV_ne (by decide)).symm.trans hu); exact ⟨R, e, hR, fun hz => hf ((updV_ne (by decide)).symm.trans hz)⟩),
    r17 := (fun u hu => no ((updV_ne (by decide)).symm.trans hu) n17),
    r18 := (fun u hu => no ((updV_ne (by decide)).symm.trans hu) n18) }
theorem T8_7 {B : Nat} {l : List Int} {a0 K : Nat} {w0 wX : World} {RT : Nat} {n : Int} {Av : Option Addr} {cv : Nat} {L : List St} {kk : Nat} {V : Nat → Option Value} {w : World} (h : T8 B l a0 K w0 wX RT n Av cv L kk V w) (d : DT8 V) (hi : V 7 = none) (p3 : (V 3).isSome = true) (p6 : (V 6).isSome = true) (hWX : w0.heap.size ≤ wX.heap.size) (hRT : RT < wX.heap.size) (w2 : World) (hm : Drew B l (a0 + (K + 2)) 2 w w2) (hB : B < w0.heap.size) (v : Value) (hv : ∃ x : Int, v = .int .i64 x) : T8 B l a0 K w0 wX RT n Av cv L kk (updV V 7 v) w2 := by
  have n8 : V 8 = none := none_of d.d8_7 hi
  have n9 : V 9 = none := none_of d.d9_8 n8
  have n10 : V 10 = none := none_of d.d10_9 n9
  have n11 : V 11 = none := none_of d.d11_10 n10
  have n12 : V 12 = none := none_of d.d12_11 n11
  have n13 : V 13 = none := none_of d.d13_12 n12
  have n14 : V 14 = none := none_of d.d14_13 n13
  have n15 : V 15 = none := none_of d.d15_13 n13
  have n17 : V 17 = none := none_of d.d17_14 n14
  have n18 : V 18 = none := none_of d.d18_15 n15
  have p2 := d.d3_2 p3
  have p1 := d.d3_1 p3
  exact {
    sz := (Nat.le_trans h.sz hm.2.size),
    s0 := (fun hn => noS p3 ((updV_ne (by decide)).symm.trans hn)),
    s1 := (fun hs hn => no (updV_same _ _ _) hn),
    s2 := (fun hs hn => town_more (town_drew (h.s1 p3 hi) hm hB) (by omega)),
    s3 := (fun hs => noS (upd_some hs (by decide)) n10),
    r0 := (fun u hu => h.r0 u ((updV_ne (by decide)).symm.trans hu)),
    r1 := (fun u hu => h.r1 u ((updV_ne (by decide)).symm.trans hu)),
    r2 := (fun u hu => h.r2 u ((updV_ne (by decide)).symm.trans hu)),
    r3 := (fun u hu => h.r3 u ((updV_ne (by decide)).symm.trans hu)),
    r4 := (fun u hu => h.r4 u ((updV_ne (by decide)).symm.trans hu)),
    r5 := (fun u hu => h.r5 u ((updV_ne (by decide)).symm.trans hu)),
    r6 := (fun u hu => h.r6 u ((updV_ne (by decide)).symm.trans hu)),
    r7 := (fun u hu => by have e := Option.some.inj ((updV_same _ _ _).symm.trans hu); subst e; exact hv),
    r8 := (fun u hu => no ((updV_ne (by decide)).symm.trans hu) n8),
    r9 := (fun u hu hd => no ((updV_ne (by decide)).symm.trans hu) n9),
    r10 := (fun u hu => no ((updV_ne (by decide)).symm.trans hu) n10),
    r11 := (fun u hu => no ((updV_ne (by decide)).symm.trans hu) n11),
    r12 := (fun u hu => no ((updV_ne (by decide)).symm.trans hu) n12),
    r13 := (fun u hu => no ((updV_ne (by decide)).symm.trans hu) n13),
    r14 := (fun u hu => no ((updV_ne (by decide)).symm.trans hu) n14),
    r15 := (fun u hu => no ((updV_ne (by decide)).symm.trans hu) n15),
    r16 := (fun u hu => by obtain ⟨R, e, hR, hf⟩ := h.r16 u ((updV_ne (by decide)).symm.trans hu); exact ⟨R, e, hR, fun hz => own_draw (hf ((updV_ne (by decide)).symm.trans hz)) hm.2 (by have := hB; have := hR; have := hWX; omega)⟩),
    r17 := (fun u hu => no ((updV_ne (by decide)).symm.trans hu) n17),
    r18 := (fun u hu => no ((updV_ne (by decide)).symm.trans hu) n18) }
theorem T8_8 {B : Nat} {l : List Int} {a0 K : Nat} {w0 wX : World} {RT : Nat} {n : Int} {Av : Option Addr} {cv : Nat} {L : List St} {kk : Nat} {V : Nat → Option Value} {w : World} (h : T8 B l a0 K w0 wX RT n Av cv L kk V w) (d : DT8 V) (hi : V 8 = none) (p7 : (V 7).isSome = true) (hWX : w0.heap.size ≤ wX.heap.size) (hRT : RT < wX.heap.size) (v : Value) (hv : ∃ x : Int, v = .int .i64 x) : T8 B l a0 K w0 wX RT n Av cv L kk (updV V 8 v) w := by
  have n9 : V 9 = none := none_of d.d9_8 hi
  have n10 : V 10 = none := none_of d.d10_9 n9
  have n11 : V 11 = none := none_of d.d11_10 n10
  have n12 : V 12 = none := none_of d.d12_11 n11
  have n13 : V 13 = none := none_of d.d13_12 n12
  have n14 : V 14 = none := none_of d.d14_13 n13
  have n15 : V 15 = none := none_of d.d15_13 n13
  have n17 : V 17 = none := none_of d.d17_14 n14
  have n18 : V 18 = none := none_of d.d18_15 n15
  have p6 := d.d7_6 p7
  have p3 := d.d7_3 p7
  have p2 := d.d3_2 p3
  have p1 := d.d3_1 p3
  exact {
    sz := (h.sz),
    s0 := (fun hn => h.s0 ((updV_ne (by decide)).symm.trans hn)),
    s1 := (fun hs hn => h.s1 (upd_some hs (by decide)) ((updV_ne (by decide)).symm.trans hn)),
    s2 := (fun hs hn => h.s2 (upd_some hs (by decide)) ((updV_ne (by decide)).symm.trans hn)),
    s3 := (fun hs => h.s3 (upd_some hs (by decide))),
    r0 := (fun u hu => h.r0 u ((updV_ne (by decide)).symm.trans hu)),
    r1 := (fun u hu => h.r1 u ((updV_ne (by decide)).symm.trans hu)),
    r2 := (fun u hu => h.r2 u ((updV_ne (by decide)).symm.trans hu)),
    r3 := (fun u hu => h.r3 u ((updV_ne (by decide)).symm.trans hu)),
    r4 := (fun u hu => h.r4 u ((updV_ne (by decide)).symm.trans hu)),
    r5 := (fun u hu => h.r5 u ((updV_ne (by decide)).symm.trans hu)),
    r6 := (fun u hu => h.r6 u ((updV_ne (by decide)).symm.trans hu)),
    r7 := (fun u hu => h.r7 u ((updV_ne (by decide)).symm.trans hu)),
    r8 := (fun u hu => by have e := Option.some.inj ((updV_same _ _ _).symm.trans hu); subst e; exact hv),
    r9 := (fun u hu hd => no ((updV_ne (by decide)).symm.trans hu) n9),
    r10 := (fun u hu => no ((updV_ne (by decide)).symm.trans hu) n10),
    r11 := (fun u hu => no ((updV_ne (by decide)).symm.trans hu) n11),
    r12 := (fun u hu => no ((updV_ne (by decide)).symm.trans hu) n12),
    r13 := (fun u hu => no ((updV_ne (by decide)).symm.trans hu) n13),
    r14 := (fun u hu => no ((updV_ne (by decide)).symm.trans hu) n14),
    r15 := (fun u hu => no ((updV_ne (by decide)).symm.trans hu) n15),
    r16 := (fun u hu => by obtain ⟨R, e, hR, hf⟩ := h.r16 u ((updV_ne (by decide)).symm.trans hu); exact ⟨R, e, hR, fun hz => hf ((updV_ne (by decide)).symm.trans hz)⟩),
    r17 := (fun u hu => no ((updV_ne (by decide)).symm.trans hu) n17),
    r18 := (fun u hu => no ((updV_ne (by decide)).symm.trans hu) n18) }
theorem T8_9 {B : Nat} {l : List Int} {a0 K : Nat} {w0 wX : World} {RT : Nat} {n : Int} {Av : Option Addr} {cv : Nat} {L : List St} {kk : Nat} {V : Nat → Option Value} {w : World} (h : T8 B l a0 K w0 wX RT n Av cv L kk V w) (d : DT8 V) (hi : V 9 = none) (p8 : (V 8).isSome = true) (hWX : w0.heap.size ≤ wX.heap.size) (hRT : RT < wX.heap.size) (ob : Obj) (v : Value) (hv : ∃ y : Int, RS B (w.alloc ob) (v) [30, 60, 90, 120, y]) : T8 B l a0 K w0 wX RT n Av cv L kk (updV V 9 v) (w.alloc ob) := by
  have n10 : V 10 = none := none_of d.d10_9 hi
  have n11 : V 11 = none := none_of d.d11_10 n10
  have n12 : V 12 = none := none_of d.d12_11 n11
  have n13 : V 13 = none := none_of d.d13_12 n12
  have n14 : V 14 = none := none_of d.d14_13 n13
  have n15 : V 15 = none := none_of d.d15_13 n13
  have n17 : V 17 = none := none_of d.d17_14 n14
  have n18 : V 18 = none := none_of d.d18_15 n15
  have p7 := d.d8_7 p8
  have p6 := d.d7_6 p7
  have p3 := d.d7_3 p7
  have p2 := d.d3_2 p3
  have p1 := d.d3_1 p3
  exact {
    sz := (Nat.le_trans h.sz (by simp)),
    s0 := (fun hn => town_bel (h.s0 ((updV_ne (by decide)).symm.trans hn)) (bel_al (Below.refl _ _) _)),
    s1 := (fun hs hn => town_bel (h.s1 (upd_some hs (by decide)) ((updV_ne (by decide)).symm.trans hn)) (bel_al (Below.refl _ _) _)),
    s2 := (fun hs hn => town_bel (h.s2 (upd_some hs (by decide)) ((updV_ne (by decide)).symm.trans hn)) (bel_al (Below.refl _ _) _)),
    s3 := (fun hs => town_bel (h.s3 (upd_some hs (by decide))) (bel_al (Below.refl _ _) _)),
    r0 := (fun u hu => h.r0 u ((updV_ne (by decide)).symm.trans hu)),
    r1 := (fun u hu => h.r1 u ((updV_ne (by decide)).symm.trans hu)),
    r2 := (fun u hu => h.r2 u ((updV_ne (by decide)).symm.trans hu)),
    r3 := (fun u hu => h.r3 u ((updV_ne (by decide)).symm.trans hu)),
    r4 := (fun u hu => h.r4 u ((updV_ne (by decide)).symm.trans hu)),
    r5 := (fun u hu => h.r5 u ((updV_ne (by decide)).symm.trans hu)),
    r6 := (fun u hu => h.r6 u ((updV_ne (by decide)).symm.trans hu)),
    r7 := (fun u hu => h.r7 u ((updV_ne (by decide)).symm.trans hu)),
    r8 := (fun u hu => h.r8 u ((updV_ne (by decide)).symm.trans hu)),
    r9 := (fun u hu hd => by have e := Option.some.inj ((updV_same _ _ _).symm.trans hu); subst e; exact hv),
    r10 := (fun u hu => no ((updV_ne (by decide)).symm.trans hu) n10),
    r11 := (fun u hu => no ((updV_ne (by decide)).symm.trans hu) n11),
    r12 := (fun u hu => no ((updV_ne (by decide)).symm.trans hu) n12),
    r13 := (fun u hu => no ((updV_ne (by decide)).symm.trans hu) n13),
    r14 := (fun u hu => no ((updV_ne (by decide)).symm.trans hu) n14),
    r15 := (fun u hu => no ((updV_ne (by decide)).symm.trans hu) n15),
    r16 := (fun u hu => by obtain ⟨R, e, hR, hf⟩ := h.r16 u ((updV_ne (by decide)).symm.trans hu); exact ⟨R, e, hR, fun hz => fresh_al (hf ((updV_ne (by decide)).symm.trans hz))⟩),
    r17 := (fun u hu => no ((updV_ne (by decide)).symm.trans hu) n17),
    r18 := (fun u hu => no ((updV_ne (by decide)).symm.trans hu) n18) }
theorem T8_10 {B : Nat} {l : List Int} {a0 K : Nat} {w0 wX : World} {RT : Nat} {n : Int} {Av : Option Addr} {cv : Nat} {L : List St} {kk : Nat} {V : Nat → Option Value} {w : World} (h : T8 B l a0 K w0 wX RT n Av cv L kk V w) (d : DT8 V) (hi : V 10 = none) (p5 : (V 5).isSome = true) (p9 : (V 9).isSome = true) (p7 : (V 7).isSome = true) (hWX : w0.heap.size ≤ wX.heap.size) (hRT : RT < wX.heap.size) (w2 : World) (hm : Drew B l (a0 + (K + 4)) 2 w w2) (hB : B < w0.heap.size) (v : Value) (hv : ∃ x : Int, v = .int .i64 x) : T8 B l a0 K w0 wX RT n Av cv L kk (updV V 10 v) w2 := by
  have n11 : V 11 = none := none_of d.d11_10 hi
  have n12 : V 12 = none := none_of d.d12_11 n11
  have n13 : V 13 = none := none_of d.d13_12 n12
  have n14 : V 14 = none := none_of d.d14_13 n13
  have n15 : V 15 = none := none_of d.d15_13 n13
  have n17 : V 17 = none := none_of d.d17_14 n14
  have n18 : V 18 = none := none_of d.d18_15 n15
  have p8 := d.d9_8 p9
  have p6 := d.d7_6 p7
  have p3 := d.d7_3 p7
  have p2 := d.d3_2 p3
  have p1 := d.d3_1 p3
  exact {
    sz := (Nat.le_trans h.sz hm.2.size),
    s0 := (fun hn => noS p3 ((updV_ne (by decide)).symm.trans hn)),
    s1 := (fun hs hn => noS p7 ((updV_ne (by decide)).symm.trans hn)),
    s2 := (fun hs hn => no (updV_same _ _ _) hn),
    s3 := (fun hs => town_more (town_drew (h.s2 p7 hi) hm hB) (by omega)),
    r0 := (fun u hu => h.r0 u ((updV_ne (by decide)).symm.trans hu)),
    r1 := (fun u hu => h.r1 u ((updV_ne (by decide)).symm.trans hu)),
    r2 := (fun u hu => h.r2 u ((updV_ne (by decide)).symm.trans hu)),
    r3 := (fun u hu => h.r3 u ((updV_ne (by decide)).symm.trans hu)),
    r4 := (fun u hu => h.r4 u ((updV_ne (by decide)).symm.trans hu)),
    r5 := (fun u hu => h.r5 u ((updV_ne (by decide)).symm.trans hu)),
    r6 := (fun u hu => h.r6 u ((updV_ne (by decide)).symm.trans hu)),
    r7 := (fun u hu => h.r7 u ((updV_ne (by decide)).symm.trans hu)),
    r8 := (fun u hu => h.r8 u ((updV_ne (by decide)).symm.trans hu)),
    r9 := (fun u hu hd => no (updV_same _ _ _) hd),
    r10 := (fun u hu => by have e := Option.some.inj ((updV_same _ _ _).symm.trans hu); subst e; exact hv),
    r11 := (fun u hu => no ((updV_ne (by decide)).symm.trans hu) n11),
    r12 := (fun u hu => no ((updV_ne (by decide)).symm.trans hu) n12),
    r13 := (fun u hu => no ((updV_ne (by decide)).symm.trans hu) n13),
    r14 := (fun u hu => no ((updV_ne (by decide)).symm.trans hu) n14),
    r15 := (fun u hu => no ((updV_ne (by decide)).symm.trans hu) n15),
    r16 := (fun u hu => by obtain ⟨R, e, hR, hf⟩ := h.r16 u ((updV_ne (by decide)).symm.trans hu); exact ⟨R, e, hR, fun hz => own_draw (hf ((updV_ne (by decide)).symm.trans hz)) hm.2 (by have := hB; have := hR; have := hWX; omega)⟩),
    r17 := (fun u hu => no ((updV_ne (by decide)).symm.trans hu) n17),
    r18 := (fun u hu => no ((updV_ne (by decide)).symm.trans hu) n18) }
theorem T8_11 {B : Nat} {l : List Int} {a0 K : Nat} {w0 wX : World} {RT : Nat} {n : Int} {Av : Option Addr} {cv : Nat} {L : List St} {kk : Nat} {V : Nat → Option Value} {w : World} (h : T8 B l a0 K w0 wX RT n Av cv L kk V w) (d : DT8 V) (hi : V 11 = none) (p3 : (V 3).isSome = true) (p4 : (V 4).isSome = true) (p10 : (V 10).isSome = true) (hWX : w0.heap.size ≤ wX.heap.size) (hRT : RT < wX.heap.size) (v : Value) (hv : ∃ f t s : Int, v = .agg #[.int .i64 f, .int .i64 t, .int .i64 s]) : T8 B l a0 K w0 wX RT n Av cv L kk (updV V 11 v) w := by
  have n12 : V 12 = none := none_of d.d12_11 hi
  have n13 : V 13 = none := none_of d.d13_12 n12
  have n14 : V 14 = none := none_of d.d14_13 n13
  have n15 : V 15 = none := none_of d.d15_13 n13
  have n17 : V 17 = none := none_of d.d17_14 n14
  have n18 : V 18 = none := none_of d.d18_15 n15
  have p9 := d.d10_9 p10
  have p8 := d.d9_8 p9
  have p7 := d.d10_7 p10
  have p6 := d.d7_6 p7
  have p5 := d.d10_5 p10
  have p2 := d.d3_2 p3
  have p1 := d.d3_1 p3
  exact {
    sz := (h.sz),
    s0 := (fun hn => h.s0 ((updV_ne (by decide)).symm.trans hn)),
    s1 := (fun hs hn => h.s1 (upd_some hs (by decide)) ((updV_ne (by decide)).symm.trans hn)),
    s2 := (fun hs hn => h.s2 (upd_some hs (by decide)) ((updV_ne (by decide)).symm.trans hn)),
    s3 := (fun hs => h.s3 (upd_some hs (by decide))),
    r0 := (fun u hu => h.r0 u ((updV_ne (by decide)).symm.trans hu)),
    r1 := (fun u hu => h.r1 u ((updV_ne (by decide)).symm.trans hu)),
    r2 := (fun u hu => h.r2 u ((updV_ne (by decide)).symm.trans hu)),
    r3 := (fun u hu => h.r3 u ((updV_ne (by decide)).symm.trans hu)),
    r4 := (fun u hu => h.r4 u ((updV_ne (by decide)).symm.trans hu)),
    r5 := (fun u hu => h.r5 u ((updV_ne (by decide)).symm.trans hu)),
    r6 := (fun u hu => h.r6 u ((updV_ne (by decide)).symm.trans hu)),
    r7 := (fun u hu => h.r7 u ((updV_ne (by decide)).symm.trans hu)),
    r8 := (fun u hu => h.r8 u ((updV_ne (by decide)).symm.trans hu)),
    r9 := (fun u hu hd => noS p10 ((updV_ne (by decide)).symm.trans hd)),
    r10 := (fun u hu => h.r10 u ((updV_ne (by decide)).symm.trans hu)),
    r11 := (fun u hu => by have e := Option.some.inj ((updV_same _ _ _).symm.trans hu); subst e; exact hv),
    r12 := (fun u hu => no ((updV_ne (by decide)).symm.trans hu) n12),
    r13 := (fun u hu => no ((updV_ne (by decide)).symm.trans hu) n13),
    r14 := (fun u hu => no ((updV_ne (by decide)).symm.trans hu) n14),
    r15 := (fun u hu => no ((updV_ne (by decide)).symm.trans hu) n15),
    r16 := (fun u hu => by obtain ⟨R, e, hR, hf⟩ := h.r16 u ((updV_ne (by decide)).symm.trans hu); exact ⟨R, e, hR, fun hz => hf ((updV_ne (by decide)).symm.trans hz)⟩),
    r17 := (fun u hu => no ((updV_ne (by decide)).symm.trans hu) n17),
    r18 := (fun u hu => no ((updV_ne (by decide)).symm.trans hu) n18) }
theorem T8_12 {B : Nat} {l : List Int} {a0 K : Nat} {w0 wX : World} {RT : Nat} {n : Int} {Av : Option Addr} {cv : Nat} {L : List St} {kk : Nat} {V : Nat → Option Value} {w : World} (h : T8 B l a0 K w0 wX RT n Av cv L kk V w) (d : DT8 V) (hi : V 12 = none) (p0 : (V 0).isSome = true) (p11 : (V 11).isSome = true) (p10 : (V 10).isSome = true) (hWX : w0.heap.size ≤ wX.heap.size) (hRT : RT < wX.heap.size) (w2 : World) (hm : Below w.heap.size w w2) (v : Value) (hv : ∃ (n' : Int) (A' : Option Addr) (c' : Nat) (L' : List St) (b : Bool), v = .tuple #[.agg #[.int .i64 n', .slice A' L'.length c'], .bool b] ∧ (b = true → n' = n) ∧ World.ownsRow w2 w0.heap.size 144 3 (.slice A' L'.length c') L'.length (L'.flatMap St.cells) ∧ L'.length ≤ 40) : T8 B l a0 K w0 wX RT n Av cv L kk (updV V 12 v) w2 := by
  have n13 : V 13 = none := none_of d.d13_12 hi
  have n14 : V 14 = none := none_of d.d14_13 n13
  have n15 : V 15 = none := none_of d.d15_13 n13
  have n17 : V 17 = none := none_of d.d17_14 n14
  have n18 : V 18 = none := none_of d.d18_15 n15
  have p9 := d.d10_9 p10
  have p8 := d.d9_8 p9
  have p7 := d.d10_7 p10
  have p6 := d.d7_6 p7
  have p5 := d.d10_5 p10
  have p4 := d.d11_4 p11
  have p3 := d.d11_3 p11
  have p2 := d.d3_2 p3
  have p1 := d.d3_1 p3
  exact {
    sz := (Nat.le_trans h.sz hm.size),
    s0 := (fun hn => town_bel (h.s0 ((updV_ne (by decide)).symm.trans hn)) hm),
    s1 := (fun hs hn => town_bel (h.s1 (upd_some hs (by decide)) ((updV_ne (by decide)).symm.trans hn)) hm),
    s2 := (fun hs hn => town_bel (h.s2 (upd_some hs (by decide)) ((updV_ne (by decide)).symm.trans hn)) hm),
    s3 := (fun hs => town_bel (h.s3 (upd_some hs (by decide))) hm),
    r0 := (fun u hu => h.r0 u ((updV_ne (by decide)).symm.trans hu)),
    r1 := (fun u hu => h.r1 u ((updV_ne (by decide)).symm.trans hu)),
    r2 := (fun u hu => h.r2 u ((updV_ne (by decide)).symm.trans hu)),
    r3 := (fun u hu => h.r3 u ((updV_ne (by decide)).symm.trans hu)),
    r4 := (fun u hu => h.r4 u ((updV_ne (by decide)).symm.trans hu)),
    r5 := (fun u hu => h.r5 u ((updV_ne (by decide)).symm.trans hu)),
    r6 := (fun u hu => h.r6 u ((updV_ne (by decide)).symm.trans hu)),
    r7 := (fun u hu => h.r7 u ((updV_ne (by decide)).symm.trans hu)),
    r8 := (fun u hu => h.r8 u ((updV_ne (by decide)).symm.trans hu)),
    r9 := (fun u hu hd => noS p10 ((updV_ne (by decide)).symm.trans hd)),
    r10 := (fun u hu => h.r10 u ((updV_ne (by decide)).symm.trans hu)),
    r11 := (fun u hu => h.r11 u ((updV_ne (by decide)).symm.trans hu)),
    r12 := (fun u hu => by have e := Option.some.inj ((updV_same _ _ _).symm.trans hu); subst e; exact hv),
    r13 := (fun u hu => no ((updV_ne (by decide)).symm.trans hu) n13),
    r14 := (fun u hu => no ((updV_ne (by decide)).symm.trans hu) n14),
    r15 := (fun u hu => no ((updV_ne (by decide)).symm.trans hu) n15),
    r16 := (fun u hu => by obtain ⟨R, e, hR, hf⟩ := h.r16 u ((updV_ne (by decide)).symm.trans hu); exact ⟨R, e, hR, fun hz => own_below (hf ((updV_ne (by decide)).symm.trans hz)) hm⟩),
    r17 := (fun u hu => no ((updV_ne (by decide)).symm.trans hu) n17),
    r18 := (fun u hu => no ((updV_ne (by decide)).symm.trans hu) n18) }
theorem T8_13 {B : Nat} {l : List Int} {a0 K : Nat} {w0 wX : World} {RT : Nat} {n : Int} {Av : Option Addr} {cv : Nat} {L : List St} {kk : Nat} {V : Nat → Option Value} {w : World} (h : T8 B l a0 K w0 wX RT n Av cv L kk V w) (d : DT8 V) (hi : V 13 = none) (p12 : (V 12).isSome = true) (hWX : w0.heap.size ≤ wX.heap.size) (hRT : RT < wX.heap.size) (v : Value) (hv : updV V 13 v 12 = some v) : T8 B l a0 K w0 wX RT n Av cv L kk (updV V 13 v) w := by
  have n14 : V 14 = none := none_of d.d14_13 hi
  have n15 : V 15 = none := none_of d.d15_13 hi
  have n17 : V 17 = none := none_of d.d17_14 n14
  have n18 : V 18 = none := none_of d.d18_15 n15
  have p11 := d.d12_11 p12
  have p10 := d.d12_10 p12
  have p9 := d.d10_9 p10
  have p8 := d.d9_8 p9
  have p7 := d.d10_7 p10
  have p6 := d.d7_6 p7
  have p5 := d.d10_5 p10
  have p4 := d.d11_4 p11
  have p3 := d.d11_3 p11
  have p2 := d.d3_2 p3
  have p1 := d.d3_1 p3
  have p0 := d.d12_0 p12
  exact {
    sz := (h.sz),
    s0 := (fun hn => h.s0 ((updV_ne (by decide)).symm.trans hn)),
    s1 := (fun hs hn => h.s1 (upd_some hs (by decide)) ((updV_ne (by decide)).symm.trans hn)),
    s2 := (fun hs hn => h.s2 (upd_some hs (by decide)) ((updV_ne (by decide)).symm.trans hn)),
    s3 := (fun hs => h.s3 (upd_some hs (by decide))),
    r0 := (fun u hu => h.r0 u ((updV_ne (by decide)).symm.trans hu)),
    r1 := (fun u hu => h.r1 u ((updV_ne (by decide)).symm.trans hu)),
    r2 := (fun u hu => h.r2 u ((updV_ne (by decide)).symm.trans hu)),
    r3 := (fun u hu => h.r3 u ((updV_ne (by decide)).symm.trans hu)),
    r4 := (fun u hu => h.r4 u ((updV_ne (by decide)).symm.trans hu)),
    r5 := (fun u hu => h.r5 u ((updV_ne (by decide)).symm.trans hu)),
    r6 := (fun u hu => h.r6 u ((updV_ne (by decide)).symm.trans hu)),
    r7 := (fun u hu => h.r7 u ((updV_ne (by decide)).symm.trans hu)),
    r8 := (fun u hu => h.r8 u ((updV_ne (by decide)).symm.trans hu)),
    r9 := (fun u hu hd => noS p10 ((updV_ne (by decide)).symm.trans hd)),
    r10 := (fun u hu => h.r10 u ((updV_ne (by decide)).symm.trans hu)),
    r11 := (fun u hu => h.r11 u ((updV_ne (by decide)).symm.trans hu)),
    r12 := (fun u hu => h.r12 u ((updV_ne (by decide)).symm.trans hu)),
    r13 := (fun u hu => by have e := Option.some.inj ((updV_same _ _ _).symm.trans hu); subst e; exact hv),
    r14 := (fun u hu => no ((updV_ne (by decide)).symm.trans hu) n14),
    r15 := (fun u hu => no ((updV_ne (by decide)).symm.trans hu) n15),
    r16 := (fun u hu => by obtain ⟨R, e, hR, hf⟩ := h.r16 u ((updV_ne (by decide)).symm.trans hu); exact ⟨R, e, hR, fun hz => hf ((updV_ne (by decide)).symm.trans hz)⟩),
    r17 := (fun u hu => no ((updV_ne (by decide)).symm.trans hu) n17),
    r18 := (fun u hu => no ((updV_ne (by decide)).symm.trans hu) n18) }
theorem T8_14 {B : Nat} {l : List Int} {a0 K : Nat} {w0 wX : World} {RT : Nat} {n : Int} {Av : Option Addr} {cv : Nat} {L : List St} {kk : Nat} {V : Nat → Option Value} {w : World} (h : T8 B l a0 K w0 wX RT n Av cv L kk V w) (d : DT8 V) (hi : V 14 = none) (p13 : (V 13).isSome = true) (hWX : w0.heap.size ≤ wX.heap.size) (hRT : RT < wX.heap.size) (v : Value) (hv : ∃ b : Value, updV V 14 v 12 = some (.tuple #[v, b])) : T8 B l a0 K w0 wX RT n Av cv L kk (updV V 14 v) w := by
  have n17 : V 17 = none := none_of d.d17_14 hi
  have p12 := d.d13_12 p13
  have p11 := d.d12_11 p12
  have p10 := d.d12_10 p12
  have p9 := d.d10_9 p10
  have p8 := d.d9_8 p9
  have p7 := d.d10_7 p10
  have p6 := d.d7_6 p7
  have p5 := d.d10_5 p10
  have p4 := d.d11_4 p11
  have p3 := d.d11_3 p11
  have p2 := d.d3_2 p3
  have p1 := d.d3_1 p3
  have p0 := d.d12_0 p12
  exact {
    sz := (h.sz),
    s0 := (fun hn => h.s0 ((updV_ne (by decide)).symm.trans hn)),
    s1 := (fun hs hn => h.s1 (upd_some hs (by decide)) ((updV_ne (by decide)).symm.trans hn)),
    s2 := (fun hs hn => h.s2 (upd_some hs (by decide)) ((updV_ne (by decide)).symm.trans hn)),
    s3 := (fun hs => h.s3 (upd_some hs (by decide))),
    r0 := (fun u hu => h.r0 u ((updV_ne (by decide)).symm.trans hu)),
    r1 := (fun u hu => h.r1 u ((updV_ne (by decide)).symm.trans hu)),
    r2 := (fun u hu => h.r2 u ((updV_ne (by decide)).symm.trans hu)),
    r3 := (fun u hu => h.r3 u ((updV_ne (by decide)).symm.trans hu)),
    r4 := (fun u hu => h.r4 u ((updV_ne (by decide)).symm.trans hu)),
    r5 := (fun u hu => h.r5 u ((updV_ne (by decide)).symm.trans hu)),
    r6 := (fun u hu => h.r6 u ((updV_ne (by decide)).symm.trans hu)),
    r7 := (fun u hu => h.r7 u ((updV_ne (by decide)).symm.trans hu)),
    r8 := (fun u hu => h.r8 u ((updV_ne (by decide)).symm.trans hu)),
    r9 := (fun u hu hd => noS p10 ((updV_ne (by decide)).symm.trans hd)),
    r10 := (fun u hu => h.r10 u ((updV_ne (by decide)).symm.trans hu)),
    r11 := (fun u hu => h.r11 u ((updV_ne (by decide)).symm.trans hu)),
    r12 := (fun u hu => h.r12 u ((updV_ne (by decide)).symm.trans hu)),
    r13 := (fun u hu => (updV_ne (by decide)).trans (h.r13 u ((updV_ne (by decide)).symm.trans hu))),
    r14 := (fun u hu => by have e := Option.some.inj ((updV_same _ _ _).symm.trans hu); subst e; exact hv),
    r15 := (fun u hu => by obtain ⟨b, hb⟩ := h.r15 u ((updV_ne (by decide)).symm.trans hu); exact ⟨b, (updV_ne (by decide)).trans hb⟩),
    r16 := (fun u hu => by obtain ⟨R, e, hR, hf⟩ := h.r16 u ((updV_ne (by decide)).symm.trans hu); exact ⟨R, e, hR, fun hz => hf ((updV_ne (by decide)).symm.trans hz)⟩),
    r17 := (fun u hu => no ((updV_ne (by decide)).symm.trans hu) n17),
    r18 := (fun u hu => (updV_ne (by decide)).trans (h.r18 u ((updV_ne (by decide)).symm.trans hu))) }
theorem T8_15 {B : Nat} {l : List Int} {a0 K : Nat} {w0 wX : World} {RT : Nat} {n : Int} {Av : Option Addr} {cv : Nat} {L : List St} {kk : Nat} {V : Nat → Option Value} {w : World} (h : T8 B l a0 K w0 wX RT n Av cv L kk V w) (d : DT8 V) (hi : V 15 = none) (p13 : (V 13).isSome = true) (hWX : w0.heap.size ≤ wX.heap.size) (hRT : RT < wX.heap.size) (v : Value) (hv : ∃ p : Value, updV V 15 v 12 = some (.tuple #[p, v])) : T8 B l a0 K w0 wX RT n Av cv L kk (updV V 15 v) w := by
  have n18 : V 18 = none := none_of d.d18_15 hi
  have p12 := d.d13_12 p13
  have p11 := d.d12_11 p12
  have p10 := d.d12_10 p12
  have p9 := d.d10_9 p10
  have p8 := d.d9_8 p9
  have p7 := d.d10_7 p10
  have p6 := d.d7_6 p7
  have p5 := d.d10_5 p10
  have p4 := d.d11_4 p11
  have p3 := d.d11_3 p11
  have p2 := d.d3_2 p3
  have p1 := d.d3_1 p3
  have p0 := d.d12_0 p12
  exact {
    sz := (h.sz),
    s0 := (fun hn => h.s0 ((updV_ne (by decide)).symm.trans hn)),
    s1 := (fun hs hn => h.s1 (upd_some hs (by decide)) ((updV_ne (by decide)).symm.trans hn)),
    s2 := (fun hs hn => h.s2 (upd_some hs (by decide)) ((updV_ne (by decide)).symm.trans hn)),
    s3 := (fun hs => h.s3 (upd_some hs (by decide))),
    r0 := (fun u hu => h.r0 u ((updV_ne (by decide)).symm.trans hu)),
    r1 := (fun u hu => h.r1 u ((updV_ne (by decide)).symm.trans hu)),
    r2 := (fun u hu => h.r2 u ((updV_ne (by decide)).symm.trans hu)),
    r3 := (fun u hu => h.r3 u ((updV_ne (by decide)).symm.trans hu)),
    r4 := (fun u hu => h.r4 u ((updV_ne (by decide)).symm.trans hu)),
    r5 := (fun u hu => h.r5 u ((updV_ne (by decide)).symm.trans hu)),
    r6 := (fun u hu => h.r6 u ((updV_ne (by decide)).symm.trans hu)),
    r7 := (fun u hu => h.r7 u ((updV_ne (by decide)).symm.trans hu)),
    r8 := (fun u hu => h.r8 u ((updV_ne (by decide)).symm.trans hu)),
    r9 := (fun u hu hd => noS p10 ((updV_ne (by decide)).symm.trans hd)),
    r10 := (fun u hu => h.r10 u ((updV_ne (by decide)).symm.trans hu)),
    r11 := (fun u hu => h.r11 u ((updV_ne (by decide)).symm.trans hu)),
    r12 := (fun u hu => h.r12 u ((updV_ne (by decide)).symm.trans hu)),
    r13 := (fun u hu => (updV_ne (by decide)).trans (h.r13 u ((updV_ne (by decide)).symm.trans hu))),
    r14 := (fun u hu => by obtain ⟨b, hb⟩ := h.r14 u ((updV_ne (by decide)).symm.trans hu); exact ⟨b, (updV_ne (by decide)).trans hb⟩),
    r15 := (fun u hu => by have e := Option.some.inj ((updV_same _ _ _).symm.trans hu); subst e; exact hv),
    r16 := (fun u hu => by obtain ⟨R, e, hR, hf⟩ := h.r16 u ((updV_ne (by decide)).symm.trans hu); exact ⟨R, e, hR, fun hz => hf ((updV_ne (by decide)).symm.trans hz)⟩),
    r17 := (fun u hu => by obtain ⟨R, n', A', c', m', b, e1, e2, e3, e4⟩ := h.r17 u ((updV_ne (by decide)).symm.trans hu); exact ⟨R, n', A', c', m', b, (updV_ne (by decide)).trans e1, (updV_ne (by decide)).trans e2, e3, e4⟩),
    r18 := (fun u hu => no ((updV_ne (by decide)).symm.trans hu) n18) }
theorem T8_16 {B : Nat} {l : List Int} {a0 K : Nat} {w0 wX : World} {RT : Nat} {n : Int} {Av : Option Addr} {cv : Nat} {L : List St} {kk : Nat} {V : Nat → Option Value} {w : World} (h : T8 B l a0 K w0 wX RT n Av cv L kk V w) (d : DT8 V) (hi : V 16 = none) (hWX : w0.heap.size ≤ wX.heap.size) (hRT : RT < wX.heap.size) (ob : Obj) (v : Value) (hv : ∃ R, v = .pointer (some ⟨R, 0, none⟩) ∧ wX.heap.size ≤ R ∧ (updV V 16 v 17 = none → FreshT (w.alloc ob) R)) : T8 B l a0 K w0 wX RT n Av cv L kk (updV V 16 v) (w.alloc ob) := by
  have n17 : V 17 = none := none_of d.d17_16 hi
  exact {
    sz := (Nat.le_trans h.sz (by simp)),
    s0 := (fun hn => town_bel (h.s0 ((updV_ne (by decide)).symm.trans hn)) (bel_al (Below.refl _ _) _)),
    s1 := (fun hs hn => town_bel (h.s1 (upd_some hs (by decide)) ((updV_ne (by decide)).symm.trans hn)) (bel_al (Below.refl _ _) _)),
    s2 := (fun hs hn => town_bel (h.s2 (upd_some hs (by decide)) ((updV_ne (by decide)).symm.trans hn)) (bel_al (Below.refl _ _) _)),
    s3 := (fun hs => town_bel (h.s3 (upd_some hs (by decide))) (bel_al (Below.refl _ _) _)),
    r0 := (fun u hu => h.r0 u ((updV_ne (by decide)).symm.trans hu)),
    r1 := (fun u hu => h.r1 u ((updV_ne (by decide)).symm.trans hu)),
    r2 := (fun u hu => h.r2 u ((updV_ne (by decide)).symm.trans hu)),
    r3 := (fun u hu => h.r3 u ((updV_ne (by decide)).symm.trans hu)),
    r4 := (fun u hu => h.r4 u ((updV_ne (by decide)).symm.trans hu)),
    r5 := (fun u hu => h.r5 u ((updV_ne (by decide)).symm.trans hu)),
    r6 := (fun u hu => h.r6 u ((updV_ne (by decide)).symm.trans hu)),
    r7 := (fun u hu => h.r7 u ((updV_ne (by decide)).symm.trans hu)),
    r8 := (fun u hu => h.r8 u ((updV_ne (by decide)).symm.trans hu)),
    r9 := (fun u hu hd => by obtain ⟨y, hy⟩ := h.r9 u ((updV_ne (by decide)).symm.trans hu) ((updV_ne (by decide)).symm.trans hd); exact ⟨y, rs_al hy⟩),
    r10 := (fun u hu => h.r10 u ((updV_ne (by decide)).symm.trans hu)),
    r11 := (fun u hu => h.r11 u ((updV_ne (by decide)).symm.trans hu)),
    r12 := (fun u hu => by
      obtain ⟨n', A', c', L', b, e, h1, ho, h2⟩ := h.r12 u ((updV_ne (by decide)).symm.trans hu)
      exact ⟨n', A', c', L', b, e, h1, ho.alloc _, h2⟩),
    r13 := (fun u hu => (updV_ne (by decide)).trans (h.r13 u ((updV_ne (by decide)).symm.trans hu))),
    r14 := (fun u hu => by obtain ⟨b, hb⟩ := h.r14 u ((updV_ne (by decide)).symm.trans hu); exact ⟨b, (updV_ne (by decide)).trans hb⟩),
    r15 := (fun u hu => by obtain ⟨b, hb⟩ := h.r15 u ((updV_ne (by decide)).symm.trans hu); exact ⟨b, (updV_ne (by decide)).trans hb⟩),
    r16 := (fun u hu => by have e := Option.some.inj ((updV_same _ _ _).symm.trans hu); subst e; exact hv),
    r17 := (fun u hu => no ((updV_ne (by decide)).symm.trans hu) n17),
    r18 := (fun u hu => (updV_ne (by decide)).trans (h.r18 u ((updV_ne (by decide)).symm.trans hu))) }
theorem T8_17 {B : Nat} {l : List Int} {a0 K : Nat} {w0 wX : World} {RT : Nat} {n : Int} {Av : Option Addr} {cv : Nat} {L : List St} {kk : Nat} {V : Nat → Option Value} {w : World} (h : T8 B l a0 K w0 wX RT n Av cv L kk V w) (d : DT8 V) (hi : V 17 = none) (p14 : (V 14).isSome = true) (p16 : (V 16).isSome = true) (hWX : w0.heap.size ≤ wX.heap.size) (hRT : RT < wX.heap.size) (w2 : World) (hg : ∀ R, V 16 = some (.pointer (some ⟨R, 0, none⟩)) → w.grownBy w2 (some R)) (hB : B < w0.heap.size) (v : Value) (hv : ∃ (R : Nat) (n' : Int) (A' : Option Addr) (c' m' : Nat) (b : Value), updV V 17 v 16 = some (.pointer (some ⟨R, 0, none⟩)) ∧ updV V 17 v 12 = some (.tuple #[.agg #[.int .i64 n', .slice A' m' c'], b]) ∧ World.cell? w2 ⟨R, 0, none⟩ = some (.int .i64 n') ∧ World.cell? w2 ⟨R, 1, none⟩ = some (.slice A' m' c')) : T8 B l a0 K w0 wX RT n Av cv L kk (updV V 17 v) w2 := by
  have p13 := d.d14_13 p14
  have p12 := d.d13_12 p13
  have p11 := d.d12_11 p12
  have p10 := d.d12_10 p12
  have p9 := d.d10_9 p10
  have p8 := d.d9_8 p9
  have p7 := d.d10_7 p10
  have p6 := d.d7_6 p7
  have p5 := d.d10_5 p10
  have p4 := d.d11_4 p11
  have p3 := d.d11_3 p11
  have p2 := d.d3_2 p3
  have p1 := d.d3_1 p3
  have p0 := d.d12_0 p12
  have hSZ : RT < wX.heap.size := hRT
  exact {
    sz := (by obtain ⟨v, hv⟩ := some_of p16; obtain ⟨R, e, _, _⟩ := h.r16 v hv; rw [e] at hv; exact Nat.le_trans h.sz (hg R hv).size),
    s0 := (fun hn => by
      have hst := h.s0 ((updV_ne (by decide)).symm.trans hn)
      obtain ⟨v, hv⟩ := some_of p16
      obtain ⟨R, e, hR, hf⟩ := h.r16 v hv
      rw [e] at hv
      have hf := hf hi
      exact town_gro hst (hg R hv) (by have := hst.2.2.2.2.2.2; have := hSZ; omega) (fresh_ne hf hst.2.1) (by have := hst.2.2.2.2.2.1; have := hst.2.2.2.2.2.2; have := hSZ; omega) hB),
    s1 := (fun hs hn => by
      have hst := h.s1 (upd_some hs (by decide)) ((updV_ne (by decide)).symm.trans hn)
      obtain ⟨v, hv⟩ := some_of p16
      obtain ⟨R, e, hR, hf⟩ := h.r16 v hv
      rw [e] at hv
      have hf := hf hi
      exact town_gro hst (hg R hv) (by have := hst.2.2.2.2.2.2; have := hSZ; omega) (fresh_ne hf hst.2.1) (by have := hst.2.2.2.2.2.1; have := hst.2.2.2.2.2.2; have := hSZ; omega) hB),
    s2 := (fun hs hn => by
      have hst := h.s2 (upd_some hs (by decide)) ((updV_ne (by decide)).symm.trans hn)
      obtain ⟨v, hv⟩ := some_of p16
      obtain ⟨R, e, hR, hf⟩ := h.r16 v hv
      rw [e] at hv
      have hf := hf hi
      exact town_gro hst (hg R hv) (by have := hst.2.2.2.2.2.2; have := hSZ; omega) (fresh_ne hf hst.2.1) (by have := hst.2.2.2.2.2.1; have := hst.2.2.2.2.2.2; have := hSZ; omega) hB),
    s3 := (fun hs => by
      have hst := h.s3 (upd_some hs (by decide))
      obtain ⟨v, hv⟩ := some_of p16
      obtain ⟨R, e, hR, hf⟩ := h.r16 v hv
      rw [e] at hv
      have hf := hf hi
      exact town_gro hst (hg R hv) (by have := hst.2.2.2.2.2.2; have := hSZ; omega) (fresh_ne hf hst.2.1) (by have := hst.2.2.2.2.2.1; have := hst.2.2.2.2.2.2; have := hSZ; omega) hB),
    r0 := (fun u hu => h.r0 u ((updV_ne (by decide)).symm.trans hu)),
    r1 := (fun u hu => h.r1 u ((updV_ne (by decide)).symm.trans hu)),
    r2 := (fun u hu => h.r2 u ((updV_ne (by decide)).symm.trans hu)),
    r3 := (fun u hu => h.r3 u ((updV_ne (by decide)).symm.trans hu)),
    r4 := (fun u hu => h.r4 u ((updV_ne (by decide)).symm.trans hu)),
    r5 := (fun u hu => h.r5 u ((updV_ne (by decide)).symm.trans hu)),
    r6 := (fun u hu => h.r6 u ((updV_ne (by decide)).symm.trans hu)),
    r7 := (fun u hu => h.r7 u ((updV_ne (by decide)).symm.trans hu)),
    r8 := (fun u hu => h.r8 u ((updV_ne (by decide)).symm.trans hu)),
    r9 := (fun u hu hd => noS p10 ((updV_ne (by decide)).symm.trans hd)),
    r10 := (fun u hu => h.r10 u ((updV_ne (by decide)).symm.trans hu)),
    r11 := (fun u hu => h.r11 u ((updV_ne (by decide)).symm.trans hu)),
    r12 := (fun u hu => by
      obtain ⟨n', A', c', L', b, e, h1, ho, h2⟩ := h.r12 u ((updV_ne (by decide)).symm.trans hu)
      obtain ⟨vv, hvv⟩ := some_of p16
      obtain ⟨R, e2, hR, hf⟩ := h.r16 vv hvv
      rw [e2] at hvv
      exact ⟨n', A', c', L', b, e, h1, ho.kept (hg R hvv) (by
        cases hq : (Value.slice A' L'.length c').ownBlock with
        | none => exact .inl rfl
        | some q => exact .inr (fun e => fresh_ne (hf hi) ho q hq (Option.some.inj e))), h2⟩),
    r13 := (fun u hu => (updV_ne (by decide)).trans (h.r13 u ((updV_ne (by decide)).symm.trans hu))),
    r14 := (fun u hu => by obtain ⟨b, hb⟩ := h.r14 u ((updV_ne (by decide)).symm.trans hu); exact ⟨b, (updV_ne (by decide)).trans hb⟩),
    r15 := (fun u hu => by obtain ⟨b, hb⟩ := h.r15 u ((updV_ne (by decide)).symm.trans hu); exact ⟨b, (updV_ne (by decide)).trans hb⟩),
    r16 := (fun u hu => by obtain ⟨R, e, hR, _⟩ := h.r16 u ((updV_ne (by decide)).symm.trans hu); exact ⟨R, e, hR, fun hz => no (updV_same _ _ _) hz⟩),
    r17 := (fun u hu => by have e := Option.some.inj ((updV_same _ _ _).symm.trans hu); subst e; exact hv),
    r18 := (fun u hu => (updV_ne (by decide)).trans (h.r18 u ((updV_ne (by decide)).symm.trans hu))) }
theorem T8_18 {B : Nat} {l : List Int} {a0 K : Nat} {w0 wX : World} {RT : Nat} {n : Int} {Av : Option Addr} {cv : Nat} {L : List St} {kk : Nat} {V : Nat → Option Value} {w : World} (h : T8 B l a0 K w0 wX RT n Av cv L kk V w) (d : DT8 V) (hi : V 18 = none) (p15 : (V 15).isSome = true) (hWX : w0.heap.size ≤ wX.heap.size) (hRT : RT < wX.heap.size) (v : Value) (hv : updV V 18 v 15 = some v) : T8 B l a0 K w0 wX RT n Av cv L kk (updV V 18 v) w := by
  have p13 := d.d15_13 p15
  have p12 := d.d13_12 p13
  have p11 := d.d12_11 p12
  have p10 := d.d12_10 p12
  have p9 := d.d10_9 p10
  have p8 := d.d9_8 p9
  have p7 := d.d10_7 p10
  have p6 := d.d7_6 p7
  have p5 := d.d10_5 p10
  have p4 := d.d11_4 p11
  have p3 := d.d11_3 p11
  have p2 := d.d3_2 p3
  have p1 := d.d3_1 p3
  have p0 := d.d12_0 p12
  exact {
    sz := (h.sz),
    s0 := (fun hn => h.s0 ((updV_ne (by decide)).symm.trans hn)),
    s1 := (fun hs hn => h.s1 (upd_some hs (by decide)) ((updV_ne (by decide)).symm.trans hn)),
    s2 := (fun hs hn => h.s2 (upd_some hs (by decide)) ((updV_ne (by decide)).symm.trans hn)),
    s3 := (fun hs => h.s3 (upd_some hs (by decide))),
    r0 := (fun u hu => h.r0 u ((updV_ne (by decide)).symm.trans hu)),
    r1 := (fun u hu => h.r1 u ((updV_ne (by decide)).symm.trans hu)),
    r2 := (fun u hu => h.r2 u ((updV_ne (by decide)).symm.trans hu)),
    r3 := (fun u hu => h.r3 u ((updV_ne (by decide)).symm.trans hu)),
    r4 := (fun u hu => h.r4 u ((updV_ne (by decide)).symm.trans hu)),
    r5 := (fun u hu => h.r5 u ((updV_ne (by decide)).symm.trans hu)),
    r6 := (fun u hu => h.r6 u ((updV_ne (by decide)).symm.trans hu)),
    r7 := (fun u hu => h.r7 u ((updV_ne (by decide)).symm.trans hu)),
    r8 := (fun u hu => h.r8 u ((updV_ne (by decide)).symm.trans hu)),
    r9 := (fun u hu hd => noS p10 ((updV_ne (by decide)).symm.trans hd)),
    r10 := (fun u hu => h.r10 u ((updV_ne (by decide)).symm.trans hu)),
    r11 := (fun u hu => h.r11 u ((updV_ne (by decide)).symm.trans hu)),
    r12 := (fun u hu => h.r12 u ((updV_ne (by decide)).symm.trans hu)),
    r13 := (fun u hu => (updV_ne (by decide)).trans (h.r13 u ((updV_ne (by decide)).symm.trans hu))),
    r14 := (fun u hu => by obtain ⟨b, hb⟩ := h.r14 u ((updV_ne (by decide)).symm.trans hu); exact ⟨b, (updV_ne (by decide)).trans hb⟩),
    r15 := (fun u hu => by obtain ⟨b, hb⟩ := h.r15 u ((updV_ne (by decide)).symm.trans hu); exact ⟨b, (updV_ne (by decide)).trans hb⟩),
    r16 := (fun u hu => by obtain ⟨R, e, hR, hf⟩ := h.r16 u ((updV_ne (by decide)).symm.trans hu); exact ⟨R, e, hR, fun hz => hf ((updV_ne (by decide)).symm.trans hz)⟩),
    r17 := (fun u hu => by obtain ⟨R, n', A', c', m', b, e1, e2, e3, e4⟩ := h.r17 u ((updV_ne (by decide)).symm.trans hu); exact ⟨R, n', A', c', m', b, (updV_ne (by decide)).trans e1, (updV_ne (by decide)).trans e2, e3, e4⟩),
    r18 := (fun u hu => by have e := Option.some.inj ((updV_same _ _ _).symm.trans hu); subst e; exact hv) }
theorem T8_start {B : Nat} {l : List Int} {a0 K : Nat} {w0 wX : World} {RT : Nat} {n : Int} {Av : Option Addr} {cv : Nat} {L : List St} {kk : Nat} (h : TownSt B l a0 (K + 0) w0 RT n (.slice Av L.length cv) L wX) : T8 B l a0 K w0 wX RT n Av cv L kk (fun _ => none) wX.drew := {
    sz := (Nat.le_refl _),
    s0 := (fun _ => town_bel h (bel_dr (Below.refl _ _))),
    s1 := (fun hs => by cases hs),
    s2 := (fun hs => by cases hs),
    s3 := (fun hs => by cases hs),
    r0 := (fun v hv => by cases hv),
    r1 := (fun v hv => by cases hv),
    r2 := (fun v hv => by cases hv),
    r3 := (fun v hv => by cases hv),
    r4 := (fun v hv => by cases hv),
    r5 := (fun v hv => by cases hv),
    r6 := (fun v hv => by cases hv),
    r7 := (fun v hv => by cases hv),
    r8 := (fun v hv => by cases hv),
    r9 := (fun v hv => by cases hv),
    r10 := (fun v hv => by cases hv),
    r11 := (fun v hv => by cases hv),
    r12 := (fun v hv => by cases hv),
    r13 := (fun v hv => by cases hv),
    r14 := (fun v hv => by cases hv),
    r15 := (fun v hv => by cases hv),
    r16 := (fun v hv => by cases hv),
    r17 := (fun v hv => by cases hv),
    r18 := (fun v hv => by cases hv) }
set_option maxRecDepth 100000 in
theorem T8_op0 {B : Nat} {l : List Int} {a0 K : Nat} {w0 wX : World} {RT : Nat} {n : Int} {Av : Option Addr} {cv : Nat} {L : List St} {kk : Nat} {V : Nat → Option Value} {w : World} {a : Act} {KK : Act → World → Prop} {Q : Exit → Act → World → Prop} {ty : TypeId} {pp : String} {af : Array Edge} {gg : Option (Nat × Bool)} (HL : BytesOk l) (ha : a0 + K ≤ 4611686018427380000) (hB : B < w0.heap.size) (hWX : w0.heap.size ≤ wX.heap.size) (hRT : RT < wX.heap.size) (hkk : kk ≤ 100) (h : T8 B l a0 K w0 wX RT n Av cv L kk V w) (d : DT8 V) (hi : V 0 = none) (o3 : a.eval (.tmp 3) = .pointer (some ⟨RT, 0, none⟩)) (hK : ∀ v w', T8 B l a0 K w0 wX RT n Av cv L kk (updV V 0 v) w' → KK (a.put (some 26) v) w') : Oper.wp Tryz.prog { dst := some 26, op := .load 47 (.tmp 3), type := ty, pos := pp, after := af, guard := gg } a w KK Q := by
  obtain ⟨k9, hk9, hst⟩ := h.any
  have t0 := hst.1.cellAt 0 (by omega)
  have t1 := hst.1.cellAt 1 (by omega)
  dsimp only [List.getElem?_cons_zero, List.getElem?_cons_succ] at t0 t1
  clear hst
  unfold Oper.wp execOp
  simp only [List.map_toArray, List.map_cons, List.map_nil, List.size_toArray, o3]
  go_simp
  exact hK _ _ (T8_0 h d hi hWX hRT _ rfl)
set_option maxRecDepth 100000 in
theorem T8_op1 {B : Nat} {l : List Int} {a0 K : Nat} {w0 wX : World} {RT : Nat} {n : Int} {Av : Option Addr} {cv : Nat} {L : List St} {kk : Nat} {V : Nat → Option Value} {w : World} {a : Act} {KK : Act → World → Prop} {Q : Exit → Act → World → Prop} {ty : TypeId} {pp : String} {af : Array Edge} {gg : Option (Nat × Bool)} (HL : BytesOk l) (ha : a0 + K ≤ 4611686018427380000) (hB : B < w0.heap.size) (hWX : w0.heap.size ≤ wX.heap.size) (hRT : RT < wX.heap.size) (hkk : kk ≤ 100) (h : T8 B l a0 K w0 wX RT n Av cv L kk V w) (d : DT8 V) (hi : V 1 = none) (o0 : a.eval (.tmp 0) = .pointer (some ⟨B, 0, none⟩)) (hK : ∀ v w', T8 B l a0 K w0 wX RT n Av cv L kk (updV V 1 v) w' → KK (a.put (some 27) v) w') : Oper.wp Tryz.prog { dst := some 27, op := .move (.tmp 0), type := ty, pos := pp, after := af, guard := gg } a w KK Q := by
  unfold Oper.wp execOp
  simp only [List.map_toArray, List.map_cons, List.map_nil, List.size_toArray, o0]
  go_simp
  exact hK _ _ (T8_1 h d hi hWX hRT _ rfl)
set_option maxRecDepth 100000 in
theorem T8_op2 {B : Nat} {l : List Int} {a0 K : Nat} {w0 wX : World} {RT : Nat} {n : Int} {Av : Option Addr} {cv : Nat} {L : List St} {kk : Nat} {V : Nat → Option Value} {w : World} {a : Act} {KK : Act → World → Prop} {Q : Exit → Act → World → Prop} {ty : TypeId} {pp : String} {af : Array Edge} {gg : Option (Nat × Bool)} (HL : BytesOk l) (ha : a0 + K ≤ 4611686018427380000) (hB : B < w0.heap.size) (hWX : w0.heap.size ≤ wX.heap.size) (hRT : RT < wX.heap.size) (hkk : kk ≤ 100) (h : T8 B l a0 K w0 wX RT n Av cv L kk V w) (d : DT8 V) (hi : V 2 = none) (o4 : a.eval (.tmp 4) = .int .i64 (kk : Int)) (hK : ∀ v w', T8 B l a0 K w0 wX RT n Av cv L kk (updV V 2 v) w' → KK (a.put (some 28) v) w') : Oper.wp Tryz.prog { dst := some 28, op := .move (.tmp 4), type := ty, pos := pp, after := af, guard := gg } a w KK Q := by
  unfold Oper.wp execOp
  simp only [List.map_toArray, List.map_cons, List.map_nil, List.size_toArray, o4]
  go_simp
  exact hK _ _ (T8_2 h d hi hWX hRT _ rfl)
set_option maxRecDepth 100000 in
theorem T8_op3 {B : Nat} {l : List Int} {a0 K : Nat} {w0 wX : World} {RT : Nat} {n : Int} {Av : Option Addr} {cv : Nat} {L : List St} {kk : Nat} {V : Nat → Option Value} {w : World} {a : Act} {KK : Act → World → Prop} {Q : Exit → Act → World → Prop} {ty : TypeId} {pp : String} {af : Array Edge} {gg : Option (Nat × Bool)} (HL : BytesOk l) (ha : a0 + K ≤ 4611686018427380000) (hB : B < w0.heap.size) (hWX : w0.heap.size ≤ wX.heap.size) (hRT : RT < wX.heap.size) (hkk : kk ≤ 100) (h : T8 B l a0 K w0 wX RT n Av cv L kk V w) (d : DT8 V) (hi : V 3 = none) (E27 : ∀ v, V 1 = some v → a.eval (.tmp 27) = v) (E28 : ∀ v, V 2 = some v → a.eval (.tmp 28) = v) (p1 : (V 1).isSome = true) (p2 : (V 2).isSome = true) (hK : ∀ v w', T8 B l a0 K w0 wX RT n Av cv L kk (updV V 3 v) w' → KK (a.put (some 29) v) w') : Oper.wp Tryz.prog { dst := some 29, op := .call { callee := .value (.func 71), args := #[.tmp 27, .tmp 28], argTypes := #[78, 3] }, type := ty, pos := pp, after := af, guard := gg } a w KK Q := by
  obtain ⟨v1, hv1⟩ := some_of p1
  have e27 := E27 v1 hv1
  rw [h.r1 v1 hv1] at e27
  obtain ⟨v2, hv2⟩ := some_of p2
  have e28 := E28 v2 hv2
  rw [h.r2 v2 hv2] at e28
  have hst := h.s0 hi
  have hc := hst.2.2.2.2.1.1
  clear hst
  unfold Oper.wp execOp
  go_simp
  rw [ev_get e27, ev_get e28]
  refine (pick_c B l HL (a0 + (K + 0)) (by omega) (kk : Int) (by omega) w hc).mono ?_
  rintro e w2 ⟨x, rfl, hx, hd⟩
  exact hK _ _ (T8_3 h d hi p1 p2 hWX hRT w2 hd hB _ ⟨_, rfl⟩)
set_option maxRecDepth 100000 in
theorem T8_op4 {B : Nat} {l : List Int} {a0 K : Nat} {w0 wX : World} {RT : Nat} {n : Int} {Av : Option Addr} {cv : Nat} {L : List St} {kk : Nat} {V : Nat → Option Value} {w : World} {a : Act} {KK : Act → World → Prop} {Q : Exit → Act → World → Prop} {ty : TypeId} {pp : String} {af : Array Edge} {gg : Option (Nat × Bool)} (HL : BytesOk l) (ha : a0 + K ≤ 4611686018427380000) (hB : B < w0.heap.size) (hWX : w0.heap.size ≤ wX.heap.size) (hRT : RT < wX.heap.size) (hkk : kk ≤ 100) (h : T8 B l a0 K w0 wX RT n Av cv L kk V w) (d : DT8 V) (hi : V 4 = none) (o4 : a.eval (.tmp 4) = .int .i64 (kk : Int)) (hK : ∀ v w', T8 B l a0 K w0 wX RT n Av cv L kk (updV V 4 v) w' → KK (a.put (some 30) v) w') : Oper.wp Tryz.prog { dst := some 30, op := .move (.tmp 4), type := ty, pos := pp, after := af, guard := gg } a w KK Q := by
  unfold Oper.wp execOp
  simp only [List.map_toArray, List.map_cons, List.map_nil, List.size_toArray, o4]
  go_simp
  exact hK _ _ (T8_4 h d hi hWX hRT _ rfl)
set_option maxRecDepth 100000 in
theorem T8_op5 {B : Nat} {l : List Int} {a0 K : Nat} {w0 wX : World} {RT : Nat} {n : Int} {Av : Option Addr} {cv : Nat} {L : List St} {kk : Nat} {V : Nat → Option Value} {w : World} {a : Act} {KK : Act → World → Prop} {Q : Exit → Act → World → Prop} {ty : TypeId} {pp : String} {af : Array Edge} {gg : Option (Nat × Bool)} (HL : BytesOk l) (ha : a0 + K ≤ 4611686018427380000) (hB : B < w0.heap.size) (hWX : w0.heap.size ≤ wX.heap.size) (hRT : RT < wX.heap.size) (hkk : kk ≤ 100) (h : T8 B l a0 K w0 wX RT n Av cv L kk V w) (d : DT8 V) (hi : V 5 = none) (o0 : a.eval (.tmp 0) = .pointer (some ⟨B, 0, none⟩)) (hK : ∀ v w', T8 B l a0 K w0 wX RT n Av cv L kk (updV V 5 v) w' → KK (a.put (some 31) v) w') : Oper.wp Tryz.prog { dst := some 31, op := .move (.tmp 0), type := ty, pos := pp, after := af, guard := gg } a w KK Q := by
  unfold Oper.wp execOp
  simp only [List.map_toArray, List.map_cons, List.map_nil, List.size_toArray, o0]
  go_simp
  exact hK _ _ (T8_5 h d hi hWX hRT _ rfl)
set_option maxRecDepth 100000 in
theorem T8_op6 {B : Nat} {l : List Int} {a0 K : Nat} {w0 wX : World} {RT : Nat} {n : Int} {Av : Option Addr} {cv : Nat} {L : List St} {kk : Nat} {V : Nat → Option Value} {w : World} {a : Act} {KK : Act → World → Prop} {Q : Exit → Act → World → Prop} {ty : TypeId} {pp : String} {af : Array Edge} {gg : Option (Nat × Bool)} (HL : BytesOk l) (ha : a0 + K ≤ 4611686018427380000) (hB : B < w0.heap.size) (hWX : w0.heap.size ≤ wX.heap.size) (hRT : RT < wX.heap.size) (hkk : kk ≤ 100) (h : T8 B l a0 K w0 wX RT n Av cv L kk V w) (d : DT8 V) (hi : V 6 = none) (o0 : a.eval (.tmp 0) = .pointer (some ⟨B, 0, none⟩)) (hK : ∀ v w', T8 B l a0 K w0 wX RT n Av cv L kk (updV V 6 v) w' → KK (a.put (some 32) v) w') : Oper.wp Tryz.prog { dst := some 32, op := .move (.tmp 0), type := ty, pos := pp, after := af, guard := gg } a w KK Q := by
  unfold Oper.wp execOp
  simp only [List.map_toArray, List.map_cons, List.map_nil, List.size_toArray, o0]
  go_simp
  exact hK _ _ (T8_6 h d hi hWX hRT _ rfl)
set_option maxRecDepth 100000 in
theorem T8_op7 {B : Nat} {l : List Int} {a0 K : Nat} {w0 wX : World} {RT : Nat} {n : Int} {Av : Option Addr} {cv : Nat} {L : List St} {kk : Nat} {V : Nat → Option Value} {w : World} {a : Act} {KK : Act → World → Prop} {Q : Exit → Act → World → Prop} {ty : TypeId} {pp : String} {af : Array Edge} {gg : Option (Nat × Bool)} (HL : BytesOk l) (ha : a0 + K ≤ 4611686018427380000) (hB : B < w0.heap.size) (hWX : w0.heap.size ≤ wX.heap.size) (hRT : RT < wX.heap.size) (hkk : kk ≤ 100) (h : T8 B l a0 K w0 wX RT n Av cv L kk V w) (d : DT8 V) (hi : V 7 = none) (E32 : ∀ v, V 6 = some v → a.eval (.tmp 32) = v) (p3 : (V 3).isSome = true) (p6 : (V 6).isSome = true) (hK : ∀ v w', T8 B l a0 K w0 wX RT n Av cv L kk (updV V 7 v) w' → KK (a.put (some 33) v) w') : Oper.wp Tryz.prog { dst := some 33, op := .call { callee := .value (.func 71), args := #[.tmp 32, .const (.int .i64 200)], argTypes := #[78, 3] }, type := ty, pos := pp, after := af, guard := gg } a w KK Q := by
  obtain ⟨v6, hv6⟩ := some_of p6
  have e32 := E32 v6 hv6
  rw [h.r6 v6 hv6] at e32
  have hst := h.s1 p3 hi
  have hc := hst.2.2.2.2.1.1
  clear hst
  unfold Oper.wp execOp
  go_simp
  rw [ev_get e32]
  refine (pick_c B l HL (a0 + (K + 2)) (by omega) 200 (by omega) w hc).mono ?_
  rintro e w2 ⟨x, rfl, hx, hd⟩
  exact hK _ _ (T8_7 h d hi p3 p6 hWX hRT w2 hd hB _ ⟨_, rfl⟩)
set_option maxRecDepth 100000 in
theorem T8_op8 {B : Nat} {l : List Int} {a0 K : Nat} {w0 wX : World} {RT : Nat} {n : Int} {Av : Option Addr} {cv : Nat} {L : List St} {kk : Nat} {V : Nat → Option Value} {w : World} {a : Act} {KK : Act → World → Prop} {Q : Exit → Act → World → Prop} {ty : TypeId} {pp : String} {af : Array Edge} {gg : Option (Nat × Bool)} (HL : BytesOk l) (ha : a0 + K ≤ 4611686018427380000) (hB : B < w0.heap.size) (hWX : w0.heap.size ≤ wX.heap.size) (hRT : RT < wX.heap.size) (hkk : kk ≤ 100) (h : T8 B l a0 K w0 wX RT n Av cv L kk V w) (d : DT8 V) (hi : V 8 = none) (E33 : ∀ v, V 7 = some v → a.eval (.tmp 33) = v) (p7 : (V 7).isSome = true) (hK : ∀ v w', T8 B l a0 K w0 wX RT n Av cv L kk (updV V 8 v) w' → KK (a.put (some 34) v) w') : Oper.wp Tryz.prog { dst := some 34, op := .binOp .add 3 (.const (.int .i64 1)) (.tmp 33) 3, type := ty, pos := pp, after := af, guard := gg } a w KK Q := by
  obtain ⟨v7, hv7⟩ := some_of p7
  have e33 := E33 v7 hv7
  obtain ⟨x7, q7⟩ := h.r7 v7 hv7
  rw [q7] at e33
  unfold Oper.wp execOp
  simp only [List.map_toArray, List.map_cons, List.map_nil, List.size_toArray, e33]
  go_simp
  exact hK _ _ (T8_8 h d hi p7 hWX hRT _ ⟨_, rfl⟩)
set_option maxRecDepth 100000 in
theorem T8_op9 {B : Nat} {l : List Int} {a0 K : Nat} {w0 wX : World} {RT : Nat} {n : Int} {Av : Option Addr} {cv : Nat} {L : List St} {kk : Nat} {V : Nat → Option Value} {w : World} {a : Act} {KK : Act → World → Prop} {Q : Exit → Act → World → Prop} {ty : TypeId} {pp : String} {af : Array Edge} {gg : Option (Nat × Bool)} (HL : BytesOk l) (ha : a0 + K ≤ 4611686018427380000) (hB : B < w0.heap.size) (hWX : w0.heap.size ≤ wX.heap.size) (hRT : RT < wX.heap.size) (hkk : kk ≤ 100) (h : T8 B l a0 K w0 wX RT n Av cv L kk V w) (d : DT8 V) (hi : V 9 = none) (E34 : ∀ v, V 8 = some v → a.eval (.tmp 34) = v) (p8 : (V 8).isSome = true) (hK : ∀ v w', T8 B l a0 K w0 wX RT n Av cv L kk (updV V 9 v) w' → KK (a.put (some 35) v) w') : Oper.wp Tryz.prog { dst := some 35, op := .buildSlice 48 5 #[(0, .const (.int .i64 30)), (1, .const (.int .i64 60)), (2, .const (.int .i64 90)), (3, .const (.int .i64 120)), (4, .tmp 34)], type := ty, pos := pp, after := af, guard := gg } a w KK Q := by
  obtain ⟨v8, hv8⟩ := some_of p8
  have e34 := E34 v8 hv8
  obtain ⟨x8, q8⟩ := h.r8 v8 hv8
  rw [q8] at e34
  obtain ⟨k9, hk9, hst⟩ := h.any
  have hc := hst.2.2.2.2.1.1
  clear hst
  unfold Oper.wp execOp
  simp only [List.map_toArray, List.map_cons, List.map_nil, List.size_toArray, e34]
  go_simp
  exact hK _ _ (T8_9 h d hi p8 hWX hRT _ _ ⟨x8, rs_new (q := [30, 60, 90, 120, x8]) hc (Below.refl _ _) (by simp) rfl⟩)
set_option maxRecDepth 100000 in
theorem T8_op10 {B : Nat} {l : List Int} {a0 K : Nat} {w0 wX : World} {RT : Nat} {n : Int} {Av : Option Addr} {cv : Nat} {L : List St} {kk : Nat} {V : Nat → Option Value} {w : World} {a : Act} {KK : Act → World → Prop} {Q : Exit → Act → World → Prop} {ty : TypeId} {pp : String} {af : Array Edge} {gg : Option (Nat × Bool)} (HL : BytesOk l) (ha : a0 + K ≤ 4611686018427380000) (hB : B < w0.heap.size) (hWX : w0.heap.size ≤ wX.heap.size) (hRT : RT < wX.heap.size) (hkk : kk ≤ 100) (h : T8 B l a0 K w0 wX RT n Av cv L kk V w) (d : DT8 V) (hi : V 10 = none) (E31 : ∀ v, V 5 = some v → a.eval (.tmp 31) = v) (E35 : ∀ v, V 9 = some v → a.eval (.tmp 35) = v) (p5 : (V 5).isSome = true) (p9 : (V 9).isSome = true) (p7 : (V 7).isSome = true) (hK : ∀ v w', T8 B l a0 K w0 wX RT n Av cv L kk (updV V 10 v) w' → KK (a.put (some 36) v) w') : Oper.wp Tryz.prog { dst := some 36, op := .call { callee := .value (.func 63), args := #[.tmp 31, .tmp 35], argTypes := #[78, 48] }, type := ty, pos := pp, after := af, guard := gg } a w KK Q := by
  obtain ⟨v5, hv5⟩ := some_of p5
  have e31 := E31 v5 hv5
  rw [h.r5 v5 hv5] at e31
  obtain ⟨v9, hv9⟩ := some_of p9
  have e35 := E35 v9 hv9
  obtain ⟨y9, hrs9⟩ := h.r9 v9 hv9 hi
  have hst := h.s2 p7 hi
  have hc := hst.2.2.2.2.1.1
  clear hst
  unfold Oper.wp execOp
  go_simp
  rw [ev_get e31, ev_get e35]
  refine (among_c B l HL (a0 + (K + 4)) (by omega) v9 [30, 60, 90, 120, y9] (by simp) (by simp) w hc hrs9.1 hrs9.2).mono ?_
  rintro e w2 ⟨x, rfl, _, hd⟩
  exact hK _ _ (T8_10 h d hi p5 p9 p7 hWX hRT w2 hd hB _ ⟨_, rfl⟩)
set_option maxRecDepth 100000 in
theorem T8_op11 {B : Nat} {l : List Int} {a0 K : Nat} {w0 wX : World} {RT : Nat} {n : Int} {Av : Option Addr} {cv : Nat} {L : List St} {kk : Nat} {V : Nat → Option Value} {w : World} {a : Act} {KK : Act → World → Prop} {Q : Exit → Act → World → Prop} {ty : TypeId} {pp : String} {af : Array Edge} {gg : Option (Nat × Bool)} (HL : BytesOk l) (ha : a0 + K ≤ 4611686018427380000) (hB : B < w0.heap.size) (hWX : w0.heap.size ≤ wX.heap.size) (hRT : RT < wX.heap.size) (hkk : kk ≤ 100) (h : T8 B l a0 K w0 wX RT n Av cv L kk V w) (d : DT8 V) (hi : V 11 = none) (E29 : ∀ v, V 3 = some v → a.eval (.tmp 29) = v) (E30 : ∀ v, V 4 = some v → a.eval (.tmp 30) = v) (E36 : ∀ v, V 10 = some v → a.eval (.tmp 36) = v) (p3 : (V 3).isSome = true) (p4 : (V 4).isSome = true) (p10 : (V 10).isSome = true) (hK : ∀ v w', T8 B l a0 K w0 wX RT n Av cv L kk (updV V 11 v) w' → KK (a.put (some 37) v) w') : Oper.wp Tryz.prog { dst := some 37, op := .build 144 #[(0, .tmp 29), (1, .tmp 30), (2, .tmp 36)], type := ty, pos := pp, after := af, guard := gg } a w KK Q := by
  obtain ⟨v3, hv3⟩ := some_of p3
  have e29 := E29 v3 hv3
  obtain ⟨x3, q3⟩ := h.r3 v3 hv3
  rw [q3] at e29
  obtain ⟨v4, hv4⟩ := some_of p4
  have e30 := E30 v4 hv4
  rw [h.r4 v4 hv4] at e30
  obtain ⟨v10, hv10⟩ := some_of p10
  have e36 := E36 v10 hv10
  obtain ⟨x10, q10⟩ := h.r10 v10 hv10
  rw [q10] at e36
  unfold Oper.wp execOp
  simp only [List.map_toArray, List.map_cons, List.map_nil, List.size_toArray, e29, e30, e36]
  go_simp
  exact hK _ _ (T8_11 h d hi p3 p4 p10 hWX hRT _ ⟨_, _, _, rfl⟩)
set_option maxRecDepth 100000 in
theorem T8_op12 {B : Nat} {l : List Int} {a0 K : Nat} {w0 wX : World} {RT : Nat} {n : Int} {Av : Option Addr} {cv : Nat} {L : List St} {kk : Nat} {V : Nat → Option Value} {w : World} {a : Act} {KK : Act → World → Prop} {Q : Exit → Act → World → Prop} {ty : TypeId} {pp : String} {af : Array Edge} {gg : Option (Nat × Bool)} (HL : BytesOk l) (ha : a0 + K ≤ 4611686018427380000) (hB : B < w0.heap.size) (hWX : w0.heap.size ≤ wX.heap.size) (hRT : RT < wX.heap.size) (hkk : kk ≤ 100) (h : T8 B l a0 K w0 wX RT n Av cv L kk V w) (d : DT8 V) (hi : V 12 = none) (E26 : ∀ v, V 0 = some v → a.eval (.tmp 26) = v) (E37 : ∀ v, V 11 = some v → a.eval (.tmp 37) = v) (p0 : (V 0).isSome = true) (p11 : (V 11).isSome = true) (p10 : (V 10).isSome = true) (hK : ∀ v w', T8 B l a0 K w0 wX RT n Av cv L kk (updV V 12 v) w' → KK (a.put (some 38) v) w') : Oper.wp Tryz.prog { dst := some 38, op := .call { callee := .value (.func 154), args := #[.tmp 26, .tmp 37], argTypes := #[47, 144] }, type := ty, pos := pp, after := af, guard := gg } a w KK Q := by
  obtain ⟨v0, hv0⟩ := some_of p0
  have e26 := E26 v0 hv0
  rw [h.r0 v0 hv0] at e26
  obtain ⟨v11, hv11⟩ := some_of p11
  have e37 := E37 v11 hv11
  obtain ⟨f11, t11, s11, q11⟩ := h.r11 v11 hv11
  rw [q11] at e37
  obtain ⟨k9, hk9, hst⟩ := h.any
  have hown := hst.2.1
  clear hst
  unfold Oper.wp execOp
  go_simp
  rw [ev_get e26, ev_get e37]
  refine (addStreet_c n _ L f11 t11 s11 w w0.heap.size hown).mono ?_
  rintro e w2 ⟨n', v', L', b', rfl, hn', ho', hl', hb⟩
  obtain ⟨A', c', rfl, -⟩ := own_rd ho'
  exact hK _ _ (T8_12 h d hi p0 p11 p10 hWX hRT w2 hb _ ⟨n', A', c', L', b', rfl, hn', own_base ho' (Nat.le_trans hWX h.sz), hl'⟩)
set_option maxRecDepth 100000 in
theorem T8_op13 {B : Nat} {l : List Int} {a0 K : Nat} {w0 wX : World} {RT : Nat} {n : Int} {Av : Option Addr} {cv : Nat} {L : List St} {kk : Nat} {V : Nat → Option Value} {w : World} {a : Act} {KK : Act → World → Prop} {Q : Exit → Act → World → Prop} {ty : TypeId} {pp : String} {af : Array Edge} {gg : Option (Nat × Bool)} (HL : BytesOk l) (ha : a0 + K ≤ 4611686018427380000) (hB : B < w0.heap.size) (hWX : w0.heap.size ≤ wX.heap.size) (hRT : RT < wX.heap.size) (hkk : kk ≤ 100) (h : T8 B l a0 K w0 wX RT n Av cv L kk V w) (d : DT8 V) (hi : V 13 = none) (E38 : ∀ v, V 12 = some v → a.eval (.tmp 38) = v) (p12 : (V 12).isSome = true) (hK : ∀ v w', T8 B l a0 K w0 wX RT n Av cv L kk (updV V 13 v) w' → KK (a.put (some 25) v) w') : Oper.wp Tryz.prog { dst := some 25, op := .move (.tmp 38), type := ty, pos := pp, after := af, guard := gg } a w KK Q := by
  obtain ⟨v12, hv12⟩ := some_of p12
  have e38 := E38 v12 hv12
  unfold Oper.wp execOp
  simp only [List.map_toArray, List.map_cons, List.map_nil, List.size_toArray, e38]
  go_simp
  exact hK _ _ (T8_13 h d hi p12 hWX hRT _ ((updV_ne (by decide)).trans hv12))
set_option maxRecDepth 100000 in
theorem T8_op14 {B : Nat} {l : List Int} {a0 K : Nat} {w0 wX : World} {RT : Nat} {n : Int} {Av : Option Addr} {cv : Nat} {L : List St} {kk : Nat} {V : Nat → Option Value} {w : World} {a : Act} {KK : Act → World → Prop} {Q : Exit → Act → World → Prop} {ty : TypeId} {pp : String} {af : Array Edge} {gg : Option (Nat × Bool)} (HL : BytesOk l) (ha : a0 + K ≤ 4611686018427380000) (hB : B < w0.heap.size) (hWX : w0.heap.size ≤ wX.heap.size) (hRT : RT < wX.heap.size) (hkk : kk ≤ 100) (h : T8 B l a0 K w0 wX RT n Av cv L kk V w) (d : DT8 V) (hi : V 14 = none) (E25 : ∀ v, V 13 = some v → a.eval (.tmp 25) = v) (p13 : (V 13).isSome = true) (hK : ∀ v w', T8 B l a0 K w0 wX RT n Av cv L kk (updV V 14 v) w' → KK (a.put (some 39) v) w') : Oper.wp Tryz.prog { dst := some 39, op := .extract (.tmp 25) 0, type := ty, pos := pp, after := af, guard := gg } a w KK Q := by
  obtain ⟨v13, hv13⟩ := some_of p13
  have e25 := E25 v13 hv13
  have hv12 := h.r13 v13 hv13
  obtain ⟨n', A', c', L', b', q, -⟩ := h.r12 v13 hv12
  rw [q] at e25 hv12
  unfold Oper.wp execOp
  simp only [List.map_toArray, List.map_cons, List.map_nil, List.size_toArray, e25]
  go_simp
  exact hK _ _ (T8_14 h d hi p13 hWX hRT _ ⟨_, (updV_ne (by decide)).trans hv12⟩)
set_option maxRecDepth 100000 in
theorem T8_op15 {B : Nat} {l : List Int} {a0 K : Nat} {w0 wX : World} {RT : Nat} {n : Int} {Av : Option Addr} {cv : Nat} {L : List St} {kk : Nat} {V : Nat → Option Value} {w : World} {a : Act} {KK : Act → World → Prop} {Q : Exit → Act → World → Prop} {ty : TypeId} {pp : String} {af : Array Edge} {gg : Option (Nat × Bool)} (HL : BytesOk l) (ha : a0 + K ≤ 4611686018427380000) (hB : B < w0.heap.size) (hWX : w0.heap.size ≤ wX.heap.size) (hRT : RT < wX.heap.size) (hkk : kk ≤ 100) (h : T8 B l a0 K w0 wX RT n Av cv L kk V w) (d : DT8 V) (hi : V 15 = none) (E25 : ∀ v, V 13 = some v → a.eval (.tmp 25) = v) (p13 : (V 13).isSome = true) (hK : ∀ v w', T8 B l a0 K w0 wX RT n Av cv L kk (updV V 15 v) w' → KK (a.put (some 40) v) w') : Oper.wp Tryz.prog { dst := some 40, op := .extract (.tmp 25) 1, type := ty, pos := pp, after := af, guard := gg } a w KK Q := by
  obtain ⟨v13, hv13⟩ := some_of p13
  have e25 := E25 v13 hv13
  have hv12 := h.r13 v13 hv13
  obtain ⟨n', A', c', L', b', q, -⟩ := h.r12 v13 hv12
  rw [q] at e25 hv12
  unfold Oper.wp execOp
  simp only [List.map_toArray, List.map_cons, List.map_nil, List.size_toArray, e25]
  go_simp
  exact hK _ _ (T8_15 h d hi p13 hWX hRT _ ⟨_, (updV_ne (by decide)).trans hv12⟩)
set_option maxRecDepth 100000 in
theorem T8_op16 {B : Nat} {l : List Int} {a0 K : Nat} {w0 wX : World} {RT : Nat} {n : Int} {Av : Option Addr} {cv : Nat} {L : List St} {kk : Nat} {V : Nat → Option Value} {w : World} {a : Act} {KK : Act → World → Prop} {Q : Exit → Act → World → Prop} {ty : TypeId} {pp : String} {af : Array Edge} {gg : Option (Nat × Bool)} (HL : BytesOk l) (ha : a0 + K ≤ 4611686018427380000) (hB : B < w0.heap.size) (hWX : w0.heap.size ≤ wX.heap.size) (hRT : RT < wX.heap.size) (hkk : kk ≤ 100) (h : T8 B l a0 K w0 wX RT n Av cv L kk V w) (d : DT8 V) (hi : V 16 = none)  (hK : ∀ v w', T8 B l a0 K w0 wX RT n Av cv L kk (updV V 16 v) w' → KK (a.put (some 5) v) w') : Oper.wp Tryz.prog { dst := some 5, op := .alloc 47, type := ty, pos := pp, after := af, guard := gg } a w KK Q := by
  unfold Oper.wp execOp
  go_simp
  exact hK _ _ (T8_16 h d hi hWX hRT _ _ ⟨_, rfl, h.sz, fun _ => fresh_new w _ rfl⟩)
set_option maxRecDepth 100000 in
theorem T8_op17 {B : Nat} {l : List Int} {a0 K : Nat} {w0 wX : World} {RT : Nat} {n : Int} {Av : Option Addr} {cv : Nat} {L : List St} {kk : Nat} {V : Nat → Option Value} {w : World} {a : Act} {KK : Act → World → Prop} {Q : Exit → Act → World → Prop} {ty : TypeId} {pp : String} {af : Array Edge} {gg : Option (Nat × Bool)} (HL : BytesOk l) (ha : a0 + K ≤ 4611686018427380000) (hB : B < w0.heap.size) (hWX : w0.heap.size ≤ wX.heap.size) (hRT : RT < wX.heap.size) (hkk : kk ≤ 100) (h : T8 B l a0 K w0 wX RT n Av cv L kk V w) (d : DT8 V) (hi : V 17 = none) (E5 : ∀ v, V 16 = some v → a.eval (.tmp 5) = v) (E39 : ∀ v, V 14 = some v → a.eval (.tmp 39) = v) (p14 : (V 14).isSome = true) (p16 : (V 16).isSome = true) (hK : ∀ v w', T8 B l a0 K w0 wX RT n Av cv L kk (updV V 17 v) w' → KK (a.put (none) v) w') : Oper.wp Tryz.prog { dst := none, op := .store 47 (.tmp 5) (.tmp 39), type := ty, pos := pp, after := af, guard := gg } a w KK Q := by
  obtain ⟨v16, hv16⟩ := some_of p16
  have e5 := E5 v16 hv16
  obtain ⟨v14, hv14⟩ := some_of p14
  have e39 := E39 v14 hv14
  obtain ⟨R, q16, hR, hf⟩ := h.r16 v16 hv16
  obtain ⟨bb, hv12⟩ := h.r14 v14 hv14
  obtain ⟨n', A', c', L', b', q, -⟩ := h.r12 _ hv12
  injection q with q
  have q2 : #[v14, bb].toList = [.agg #[.int .i64 n', .slice A' L'.length c'], .bool b'] := by rw [q]
  simp only [List.cons.injEq, and_true] at q2
  obtain ⟨q3, q4⟩ := q2
  rw [q3] at hv12 e39
  rw [q16] at e5 hv16
  have hf := hf hi
  have z0 := fresh_c0 hf
  have z1 := fresh_c1 hf
  have f0 := fresh_f hf 0
  have f1 := fresh_f hf 1
  unfold Oper.wp execOp
  simp only [List.map_toArray, List.map_cons, List.map_nil, List.size_toArray, e5, e39]
  go_simp
  refine hK undef _ (T8_17 h d hi p14 p16 hWX hRT _ (fun R2 hR2 => ?_) hB _ ?_)
  · rw [hv16] at hR2
    injection hR2 with e
    injection e with e
    injection e with e
    injection e with e
    subst e
    exact only_setCell (only_setCell (World.grownBy.refl _ _) 0 _) 1 _
  · exact ⟨R, n', A', c', L'.length, bb, (updV_ne (by decide)).trans hv16, (updV_ne (by decide)).trans hv12, by simp [go_sem, z0], by simp [go_sem, z1]⟩
set_option maxRecDepth 100000 in
theorem T8_op18 {B : Nat} {l : List Int} {a0 K : Nat} {w0 wX : World} {RT : Nat} {n : Int} {Av : Option Addr} {cv : Nat} {L : List St} {kk : Nat} {V : Nat → Option Value} {w : World} {a : Act} {KK : Act → World → Prop} {Q : Exit → Act → World → Prop} {ty : TypeId} {pp : String} {af : Array Edge} {gg : Option (Nat × Bool)} (HL : BytesOk l) (ha : a0 + K ≤ 4611686018427380000) (hB : B < w0.heap.size) (hWX : w0.heap.size ≤ wX.heap.size) (hRT : RT < wX.heap.size) (hkk : kk ≤ 100) (h : T8 B l a0 K w0 wX RT n Av cv L kk V w) (d : DT8 V) (hi : V 18 = none) (E40 : ∀ v, V 15 = some v → a.eval (.tmp 40) = v) (p15 : (V 15).isSome = true) (hK : ∀ v w', T8 B l a0 K w0 wX RT n Av cv L kk (updV V 18 v) w' → KK (a.put (some 6) v) w') : Oper.wp Tryz.prog { dst := some 6, op := .assign (.tmp 40), type := ty, pos := pp, after := af, guard := gg } a w KK Q := by
  obtain ⟨v15, hv15⟩ := some_of p15
  have e40 := E40 v15 hv15
  unfold Oper.wp execOp
  simp only [List.map_toArray, List.map_cons, List.map_nil, List.size_toArray, e40]
  go_simp
  exact hK _ _ (T8_18 h d hi p15 hWX hRT _ ((updV_ne (by decide)).trans hv15))
theorem T8_end {B : Nat} {l : List Int} {a0 K : Nat} {w0 wX : World} {RT : Nat} {n : Int} {Av : Option Addr} {cv : Nat} {L : List St} {kk : Nat} {V : Nat → Option Value} {w : World} (h : T8 B l a0 K w0 wX RT n Av cv L kk V w) (hall : ∀ i, i < 19 → (V i).isSome = true) :
    ∃ (R : Nat) (b : Bool), V 16 = some (.pointer (some ⟨R, 0, none⟩)) ∧ V 18 = some (.bool b) ∧ NextSt B l a0 (K + 6) w0 RT n (.slice Av L.length cv) L (.pointer (some ⟨R, 0, none⟩)) (.bool b) w := by
  obtain ⟨v1, h1⟩ := some_of (hall 17 (by decide))
  obtain ⟨v2, h2⟩ := some_of (hall 12 (by decide))
  obtain ⟨v3, h3⟩ := some_of (hall 15 (by decide))
  obtain ⟨v4, h4⟩ := some_of (hall 18 (by decide))
  obtain ⟨R, n1, A1, c1, m1, bb, e16, e12, z0, z1⟩ := h.r17 v1 h1
  obtain ⟨n', A', c', L', b', q12, hnn, ho', hl'⟩ := h.r12 v2 h2
  obtain ⟨pp, e3⟩ := h.r15 v3 h3
  have e4 := h.r18 v4 h4
  rw [h3] at e4
  rw [h2] at e12 e3
  have e12 := Option.some.inj e12
  have e3 := Option.some.inj e3
  have e4 := Option.some.inj e4
  rw [q12] at e12 e3
  injection e12 with e12
  injection e3 with e3
  have q1 := congrArg Array.toList e12
  have q2 := congrArg Array.toList e3
  simp only [List.cons.injEq, Value.agg.injEq, Array.mk.injEq, and_true] at q1 q2
  simp only [Value.int.injEq, Value.slice.injEq, true_and] at q1
  obtain ⟨⟨qa, qb, qc, qd⟩, -⟩ := q1
  subst qa; subst qb; subst qc; subst qd
  have hst := h.s3 (hall 10 (by decide))
  exact ⟨R, b', e16, by rw [h4, ← e4, ← q2.2], R, n', _, L', b', rfl, rfl, hnn, z0, z1, ho', hl', hst⟩
end Go.Proofs.YthgegghdkoeofaaGreatDoor
