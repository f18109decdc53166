/-
  Marks on a list of Choice of the call's own, and the look at the marks.
-/
import Derived.Test.YtcpchdbhpcebeaaChS
import Derived.Test.YtcpchdbhpcebeaaTxt
import Derived.Test.YtcpchdbhpcebeaaGro
namespace Go.Proofs.Ytcpchdbhpcebeaa
open Go.RowKit

def Ch.mk1 (q : Int) (i : Nat) : Ch := ⟨mt (q + 2 * i), q + 2 * i + 1⟩
def Ch.marks (q : Int) (n : Nat) : List Ch := (List.range n).map (Ch.mk1 q)
theorem Ch.marks_len (q : Int) (n : Nat) : (Ch.marks q n).length = n := by simp [Ch.marks]
theorem Ch.marks_get {q : Int} {n i : Nat} (h : i < n) : (Ch.marks q n)[i]? = some (Ch.mk1 q i) := by simp [Ch.marks, h]
theorem Ch.marks_succ (q : Int) (n : Nat) : Ch.marks q (n + 1) = Ch.marks q n ++ [Ch.mk1 q n] := by simp [Ch.marks, List.range_succ]

theorem Ch.own_conv {w : World} {base : Nat} {e : TypeId} {sz : Nat} {v : Value} {n : Nat} {xs ys : List Value} (h : w.ownsRow base e sz v n xs) (he : xs = ys) : w.ownsRow base e sz v n ys := he ▸ h
set_option maxRecDepth 100000 in
set_option maxHeartbeats 2000000 in
theorem markChoiceS_c (v : Value) (l : List Ch) (q : Int) (base : Nat) (w : World) (ho : w.ownsRow base 96 2 v l.length (l.flatMap Ch.cells)) (h0 : 1 ≤ q) (h1 : q ≤ 2305843009213693952) (hn : l.length ≤ 1048576) :
    Calls Try.prog 33 #[v, .int .i64 q] w fun en w' => en = .returned (.int .i64 (q + 2 * l.length)) ∧ w'.ownsRow base 96 2 v l.length ((Ch.marks q l.length).flatMap Ch.cells) ∧ w.grownBy w' v.ownBlock := by
  rcases ho.2 with ⟨rfl, hl0⟩ | ⟨g, cap, cur, rfl, hbg, hgh, hnc, hcm, hcs, htk⟩
  · obtain rfl : l = [] := List.eq_nil_of_length_eq_zero (by omega)
    go_enter Try.func33, Try.ntmps33
    go_wp2
    go_loopw [1, 5] (fun a i wr => a = .int .i64 q ∧ i = .int .i64 0 ∧ wr = w) (fun _ _ _ => 0)
    case atStart => exact ⟨rfl, rfl, rfl⟩
    case round =>
      obtain ⟨rfl, rfl, rfl⟩ := hrel
      go_wp2
      go_ret
      exact ⟨ret_int1 (by simp), World.ownsRow_nil _ _ _ _, World.grownBy.refl _ _⟩
  · rw [maxLen_eq] at hcm
    have HO := Lib.hid ho
    clear htk hgh ho
    go_enter Try.func33, Try.ntmps33
    go_wp2_with fail
    go_loopw [1, 5] (fun a i wr => ∃ k : Nat, k ≤ l.length ∧ i = .int .i64 k ∧ a = .int .i64 (q + 2 * k) ∧ Hid (wr.ownsRow base 96 2 (.slice (some ⟨g, 0, none⟩) l.length cap) l.length ((Ch.marks q k ++ l.drop k).flatMap Ch.cells)) ∧ Hid (w.grownBy wr (some g))) (fun _ i _ => l.length - (intOf i).toNat)
    case atStart => exact ⟨0, Nat.zero_le _, rfl, by simp, Lib.hid (by simpa [Ch.marks] using HO.out), Lib.hid (World.grownBy.refl _ _)⟩
    case round =>
      obtain ⟨k, hk, rfl, rfl, HW, HG⟩ := hrel
      obtain ⟨wA, rfl⟩ : ∃ wA : World, wA = wr := ⟨_, rfl⟩
      by_cases hlt : k < l.length
      · have hml : (Ch.marks q k ++ l.drop k).length = l.length := by rw [List.length_append, Ch.marks_len, List.length_drop]; omega
        obtain ⟨x, hx⟩ : ∃ x, l[k]? = some x := ⟨_, List.getElem?_eq_getElem hlt⟩
        have hmx : (Ch.marks q k ++ l.drop k)[k]? = some x := by rw [List.getElem?_append_right (by rw [Ch.marks_len]; omega), Ch.marks_len, Nat.sub_self, List.getElem?_drop, Nat.add_zero, hx]
        have hfl := flat_get Ch.cells_len _ k x hmx
        have HFL := Lib.hid hfl
        have HX := Lib.hid hx
        have q0 : 1 ≤ q + 2 * (k : Int) := by omega
        have q1 : q + 2 * (k : Int) ≤ 4611686018427387904 := by omega
        clear hfl hmx hx hml
        go_wp2_with fail
        refine (markText_c (q + 2 * (k : Int)) _ q0 q1).mono ?_; rintro e w2 ⟨rfl, hb2⟩
        have HO2 := Lib.hid (own_below HW.out hb2)
        have HG2 := Lib.hid (gro_bel HG.out hb2)
        have c0 := (HO2.out.cellAt (k * 2) (by omega)).trans (HFL.out 0 (by omega))
        have f0 := HO2.out.frozenAt (k * 2)
        have c1 := (HO2.out.cellAt (k * 2 + 1) (by omega)).trans (HFL.out 1 (by omega))
        have f1 := HO2.out.frozenAt (k * 2 + 1)
        clear hb2
        go_wp2
        refine ⟨⟨k + 1, by omega, by go_num, ?_, Lib.hid (Ch.own_conv (own_put [_, _] w2 _ (k * 2) HO2.out) ?_), Lib.hid (only_put [_, _] w2 (k * 2) HG2.out)⟩, by simp [intOf]; omega⟩
        · exact congrArg (Value.int .i64) (by omega)
        · have hlk : (Ch.marks q k).length = k := Ch.marks_len q k
          have e : ∀ vs, vs = Ch.cells (Ch.mk1 q k) → putAt ((Ch.marks q k ++ l.drop k).flatMap Ch.cells) (k * 2) vs = (Ch.marks q (k + 1) ++ l.drop (k + 1)).flatMap Ch.cells := fun vs hvs => by
            subst hvs
            have hd : l.drop k = l[k] :: l.drop (k + 1) := List.drop_eq_getElem_cons hlt
            rw [hd, List.flatMap_append, List.flatMap_cons, putAt_block _ _ _ _ (by rw [Ch.cells_len, Ch.cells_len]) _ (by rw [len_flat Ch.cells_len, hlk]), Ch.marks_succ, List.flatMap_append, List.flatMap_append, List.flatMap_singleton, List.append_assoc]
          refine e _ ?_
          simp only [Ch.cells, Ch.mk1]
          (repeat' (first | rfl | (refine List.cons_eq_cons.2 ⟨?_, ?_⟩) | (refine congrArg (Value.int .i64) ?_; omega)))
      · obtain rfl : k = l.length := by omega
        go_wp2
        go_ret
        refine ⟨rfl, ?_, HG.out⟩
        have h := HW.out
        rw [List.drop_length, List.append_nil] at h
        exact h

set_option maxRecDepth 100000 in
set_option maxHeartbeats 2000000 in
theorem heldChoiceS_c (v : Value) (q : Int) (n : Nat) (w : World) (hr : Rd w v n ((Ch.marks q n).flatMap Ch.cells)) (h0 : 1 ≤ q) (h1 : q ≤ 2305843009213693952) (hn : n ≤ 1048576) :
    Calls Try.prog 34 #[v, .int .i64 q] w fun en w' => en = .returned (.int .i64 (q + 2 * n)) ∧ Below w.heap.size w w' := by
  obtain ⟨A, c, rfl, hc, hm, hr⟩ := hr
  rw [maxLen_eq] at hm
  have HR := Lib.hid hr
  clear hr
  go_enter Try.func34, Try.ntmps34
  go_wp2_with fail
  go_loopw [1, 5] (fun a i wr => ∃ k : Nat, k ≤ n ∧ i = .int .i64 k ∧ a = .int .i64 (q + 2 * k) ∧ Hid (Below w.heap.size w wr)) (fun _ i _ => n - (intOf i).toNat)
  case atStart => exact ⟨0, Nat.zero_le _, rfl, by simp, Lib.hid (Below.refl _ _)⟩
  case round =>
    obtain ⟨k, hk, rfl, rfl, HB⟩ := hrel
    obtain ⟨wA, rfl⟩ : ∃ wA : World, wA = wr := ⟨_, rfl⟩
    by_cases hlt : k < n
    · obtain ⟨b, off, rfl, hbl, hcell⟩ := HR.out (by omega)
      obtain ⟨c0, c1⟩ := ch_at hcell HB.out hbl (Ch.marks_get (q := q) hlt)
      simp only [Ch.mk1] at c0 c1
      have q0 : 1 ≤ q + 2 * (k : Int) := by omega
      have q1 : q + 2 * (k : Int) ≤ 4611686018427387904 := by omega
      obtain ⟨M, hM⟩ : ∃ M, mt (q + 2 * (k : Int)) = M := ⟨_, rfl⟩
      have hmt := markText_c (q + 2 * (k : Int)) wA.drew q0 q1
      rw [hM] at c0 hmt
      have HMT := Lib.hid hmt
      have hsA := HB.out.size
      have hne1 : ((q + 2 * (k : Int) + 1 : Int) != (q + 2 * (k : Int) + 1 : Int)) = false := by simp
      clear hcell hM hmt
      go_wp2_with fail
      go_region_held3 (fun w' => w'.cell? ⟨b, off + k * 2, none⟩ = some (.string M)) (first | go_keep | (rw [hb1.cell (by simp; omega)]; assumption)) (first | (go_at_call 67; refine HMT.out.mono ?_; rintro e w' ⟨rfl, hb1⟩))
      have e1 := (hb1.cell (p := ⟨b, off + k * 2 + 1, none⟩) (by show b < wA.heap.size; omega)).trans c1
      have HB2 := Lib.hid (bel_then (bel_dr HB.out) hb1)
      clear hb1 c0 c1
      go_wp2
      refine ⟨⟨k + 1, by omega, by go_num, ?_, HB2⟩, by simp [intOf]; omega⟩
      exact congrArg (Value.int .i64) (by omega)
    · obtain rfl : k = n := by omega
      go_wp2
      go_ret
      exact ⟨rfl, HB.out⟩
end Go.Proofs.Ytcpchdbhpcebeaa
