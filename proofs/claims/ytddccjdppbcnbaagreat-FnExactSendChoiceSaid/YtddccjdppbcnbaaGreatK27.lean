/-
  Marks on a list of Appliance of the call's own, and the look at the marks. (joined by pack.py: MarkAp)
-/
import Derived.Test.YtddccjdppbcnbaaGreatK6
import Derived.Test.YtddccjdppbcnbaaGreatK26
import Derived.Test.YtddccjdppbcnbaaGreatK3
namespace Go.Proofs.YtddccjdppbcnbaaGreat
set_option linter.unusedVariables false
set_option linter.unusedSimpArgs false
open Go.RowKit

def Ap.mk1 (q : Int) (i : Nat) : Ap := ⟨mt (q + 5 * i), q + 5 * i + 1, q + 5 * i + 2, q + 5 * i + 3, q + 5 * i + 4⟩
def Ap.marks (q : Int) (n : Nat) : List Ap := (List.range n).map (Ap.mk1 q)
theorem Ap.marks_len (q : Int) (n : Nat) : (Ap.marks q n).length = n := by simp [Ap.marks]
theorem Ap.marks_get {q : Int} {n i : Nat} (h : i < n) : (Ap.marks q n)[i]? = some (Ap.mk1 q i) := by simp [Ap.marks, h]
theorem Ap.marks_succ (q : Int) (n : Nat) : Ap.marks q (n + 1) = Ap.marks q n ++ [Ap.mk1 q n] := by simp [Ap.marks, List.range_succ]

theorem Ap.own_conv {w : World} {base : Nat} {e : TypeId} {sz : Nat} {v : Value} {n : Nat} {xs ys : List Value} (h : w.ownsRow base e sz v n xs) (he : xs = ys) : w.ownsRow base e sz v n ys := he ▸ h
set_option maxRecDepth 100000 in
set_option maxHeartbeats 2000000 in
theorem markApplianceS_c (v : Value) (l : List Ap) (q : Int) (base : Nat) (w : World) (ho : w.ownsRow base 60 5 v l.length (l.flatMap Ap.cells)) (h0 : 1 ≤ q) (h1 : q ≤ 2305843009213693952) (hn : l.length ≤ 1048576) :
    Calls Tryz.prog 16 #[v, .int .i64 q] w fun en w' => en = .returned (.int .i64 (q + 5 * l.length)) ∧ w'.ownsRow base 60 5 v l.length ((Ap.marks q l.length).flatMap Ap.cells) ∧ w.grownBy w' v.ownBlock := by
  rcases ho.2 with ⟨rfl, hl0⟩ | ⟨g, cap, cur, rfl, hbg, hgh, hnc, hcm, hcs, htk⟩
  · obtain rfl : l = [] := List.eq_nil_of_length_eq_zero (by omega)
    go_enter Tryz.func16, Tryz.ntmps16
    go_wp2
    go_loopw [1, 5] (fun a i wr => a = .int .i64 q ∧ i = .int .i64 0 ∧ wr = w) (fun _ _ _ => 0)
    case atStart => exact ⟨rfl, rfl, rfl⟩
    case round =>
      obtain ⟨rfl, rfl, rfl⟩ := hrel
      go_wp2
      go_ret
      exact ⟨ret_int1 (by simp), World.ownsRow_nil _ _ _ _, World.grownBy.refl _ _⟩
  · rw [maxLen_eq] at hcm
    have HO := Lib.hid ho
    clear htk hgh ho
    go_enter Tryz.func16, Tryz.ntmps16
    go_wp2_with fail
    go_loopw [1, 5] (fun a i wr => ∃ k : Nat, k ≤ l.length ∧ i = .int .i64 k ∧ a = .int .i64 (q + 5 * k) ∧ Hid (wr.ownsRow base 60 5 (.slice (some ⟨g, 0, none⟩) l.length cap) l.length ((Ap.marks q k ++ l.drop k).flatMap Ap.cells)) ∧ Hid (w.grownBy wr (some g))) (fun _ i _ => l.length - (intOf i).toNat)
    case atStart => exact ⟨0, Nat.zero_le _, rfl, by simp, Lib.hid (by simpa [Ap.marks] using HO.out), Lib.hid (World.grownBy.refl _ _)⟩
    case round =>
      obtain ⟨k, hk, rfl, rfl, HW, HG⟩ := hrel
      obtain ⟨wA, rfl⟩ : ∃ wA : World, wA = wr := ⟨_, rfl⟩
      by_cases hlt : k < l.length
      · have hml : (Ap.marks q k ++ l.drop k).length = l.length := by rw [List.length_append, Ap.marks_len, List.length_drop]; omega
        obtain ⟨x, hx⟩ : ∃ x, l[k]? = some x := ⟨_, List.getElem?_eq_getElem hlt⟩
        have hmx : (Ap.marks q k ++ l.drop k)[k]? = some x := by rw [List.getElem?_append_right (by rw [Ap.marks_len]; omega), Ap.marks_len, Nat.sub_self, List.getElem?_drop, Nat.add_zero, hx]
        have hfl := flat_get Ap.cells_len _ k x hmx
        have HFL := Lib.hid hfl
        have HX := Lib.hid hx
        have q0 : 1 ≤ q + 5 * (k : Int) := by omega
        have q1 : q + 5 * (k : Int) ≤ 4611686018427387904 := by omega
        clear hfl hmx hx hml
        go_wp2_with fail
        refine (markText_c (q + 5 * (k : Int)) _ q0 q1).mono ?_; rintro e w2 ⟨rfl, hb2⟩
        have HO2 := Lib.hid (own_below HW.out hb2)
        have HG2 := Lib.hid (gro_bel HG.out hb2)
        have c0 := (HO2.out.cellAt (k * 5) (by omega)).trans (HFL.out 0 (by omega))
        have f0 := HO2.out.frozenAt (k * 5)
        have c1 := (HO2.out.cellAt (k * 5 + 1) (by omega)).trans (HFL.out 1 (by omega))
        have f1 := HO2.out.frozenAt (k * 5 + 1)
        have c2 := (HO2.out.cellAt (k * 5 + 2) (by omega)).trans (HFL.out 2 (by omega))
        have f2 := HO2.out.frozenAt (k * 5 + 2)
        have c3 := (HO2.out.cellAt (k * 5 + 3) (by omega)).trans (HFL.out 3 (by omega))
        have f3 := HO2.out.frozenAt (k * 5 + 3)
        have c4 := (HO2.out.cellAt (k * 5 + 4) (by omega)).trans (HFL.out 4 (by omega))
        have f4 := HO2.out.frozenAt (k * 5 + 4)
        clear hb2
        go_wp2
        refine ⟨⟨k + 1, by omega, by go_num, ?_, Lib.hid (Ap.own_conv (own_put [_, _, _, _, _] w2 _ (k * 5) HO2.out) ?_), Lib.hid (only_put [_, _, _, _, _] w2 (k * 5) HG2.out)⟩, by simp [intOf]; omega⟩
        · exact congrArg (Value.int .i64) (by omega)
        · have hlk : (Ap.marks q k).length = k := Ap.marks_len q k
          have e : ∀ vs, vs = Ap.cells (Ap.mk1 q k) → putAt ((Ap.marks q k ++ l.drop k).flatMap Ap.cells) (k * 5) vs = (Ap.marks q (k + 1) ++ l.drop (k + 1)).flatMap Ap.cells := fun vs hvs => by
            subst hvs
            have hd : l.drop k = l[k] :: l.drop (k + 1) := List.drop_eq_getElem_cons hlt
            rw [hd, List.flatMap_append, List.flatMap_cons, putAt_block _ _ _ _ (by rw [Ap.cells_len, Ap.cells_len]) _ (by rw [len_flat Ap.cells_len, hlk]), Ap.marks_succ, List.flatMap_append, List.flatMap_append, List.flatMap_singleton, List.append_assoc]
          refine e _ ?_
          simp only [Ap.cells, Ap.mk1]
          (repeat' (first | rfl | (refine List.cons_eq_cons.2 ⟨?_, ?_⟩) | (refine congrArg (Value.int .i64) ?_; omega)))
      · obtain rfl : k = l.length := by omega
        go_wp2
        go_ret
        refine ⟨rfl, ?_, HG.out⟩
        have h := HW.out
        rw [List.drop_length, List.append_nil] at h
        exact h

set_option maxRecDepth 100000 in
set_option maxHeartbeats 2000000 in
theorem heldApplianceS_c (v : Value) (q : Int) (n : Nat) (w : World) (hr : Rd w v n ((Ap.marks q n).flatMap Ap.cells)) (h0 : 1 ≤ q) (h1 : q ≤ 2305843009213693952) (hn : n ≤ 1048576) :
    Calls Tryz.prog 19 #[v, .int .i64 q] w fun en w' => en = .returned (.int .i64 (q + 5 * n)) ∧ Below w.heap.size w w' := by
  obtain ⟨A, c, rfl, hc, hm, hr⟩ := hr
  rw [maxLen_eq] at hm
  have HR := Lib.hid hr
  clear hr
  go_enter Tryz.func19, Tryz.ntmps19
  go_wp2_with fail
  go_loopw [1, 5] (fun a i wr => ∃ k : Nat, k ≤ n ∧ i = .int .i64 k ∧ a = .int .i64 (q + 5 * k) ∧ Hid (Below w.heap.size w wr)) (fun _ i _ => n - (intOf i).toNat)
  case atStart => exact ⟨0, Nat.zero_le _, rfl, by simp, Lib.hid (Below.refl _ _)⟩
  case round =>
    obtain ⟨k, hk, rfl, rfl, HB⟩ := hrel
    obtain ⟨wA, rfl⟩ : ∃ wA : World, wA = wr := ⟨_, rfl⟩
    by_cases hlt : k < n
    · obtain ⟨b, off, rfl, hbl, hcell⟩ := HR.out (by omega)
      obtain ⟨c0, c1, c2, c3, c4⟩ := ap_at hcell HB.out hbl (Ap.marks_get (q := q) hlt)
      simp only [Ap.mk1] at c0 c1 c2 c3 c4
      have q0 : 1 ≤ q + 5 * (k : Int) := by omega
      have q1 : q + 5 * (k : Int) ≤ 4611686018427387904 := by omega
      obtain ⟨M, hM⟩ : ∃ M, mt (q + 5 * (k : Int)) = M := ⟨_, rfl⟩
      have hmt := markText_c (q + 5 * (k : Int)) wA.drew q0 q1
      rw [hM] at c0 hmt
      have HMT := Lib.hid hmt
      have hsA := HB.out.size
      have hne1 : ((q + 5 * (k : Int) + 1 : Int) != (q + 5 * (k : Int) + 1 : Int)) = false := by simp
      have hne2 : ((q + 5 * (k : Int) + 2 : Int) != (q + 5 * (k : Int) + 2 : Int)) = false := by simp
      have hne3 : ((q + 5 * (k : Int) + 3 : Int) != (q + 5 * (k : Int) + 3 : Int)) = false := by simp
      have hne4 : ((q + 5 * (k : Int) + 4 : Int) != (q + 5 * (k : Int) + 4 : Int)) = false := by simp
      clear hcell hM hmt
      go_wp2_with fail
      go_region_held3 (fun w' => w'.cell? ⟨b, off + k * 5, none⟩ = some (.string M)) (first | go_keep | (rw [hb1.cell (by simp; omega)]; assumption)) (first | (go_at_call 37; refine HMT.out.mono ?_; rintro e w' ⟨rfl, hb1⟩))
      have e1 := (hb1.cell (p := ⟨b, off + k * 5 + 1, none⟩) (by show b < wA.heap.size; omega)).trans c1
      have e2 := (hb1.cell (p := ⟨b, off + k * 5 + 2, none⟩) (by show b < wA.heap.size; omega)).trans c2
      have e3 := (hb1.cell (p := ⟨b, off + k * 5 + 3, none⟩) (by show b < wA.heap.size; omega)).trans c3
      have e4 := (hb1.cell (p := ⟨b, off + k * 5 + 4, none⟩) (by show b < wA.heap.size; omega)).trans c4
      have HB2 := Lib.hid (bel_then (bel_dr HB.out) hb1)
      clear hb1 c0 c1 c2 c3 c4
      go_wp2
      refine ⟨⟨k + 1, by omega, by go_num, ?_, HB2⟩, by simp [intOf]; omega⟩
      exact congrArg (Value.int .i64) (by omega)
    · obtain rfl : k = n := by omega
      go_wp2
      go_ret
      exact ⟨rfl, HB.out⟩
end Go.Proofs.YtddccjdppbcnbaaGreat
