/-
  Marks on a list of strings of the call's own, and the look at the marks. (joined by pack.py: MarkStr)
-/
import Derived.Test.YtddccjdppbcnbaaGreatK9
import Derived.Test.YtddccjdppbcnbaaGreatK26
import Derived.Test.YtddccjdppbcnbaaGreatK3
namespace Go.Proofs.YtddccjdppbcnbaaGreat
set_option linter.unusedVariables false
set_option linter.unusedSimpArgs false
open Go.RowKit

def smarks (q : Int) (n : Nat) : List ByteArray := (List.range n).map fun (i : Nat) => mt (q + (i : Int))
theorem smarks_len (q : Int) (n : Nat) : (smarks q n).length = n := by simp [smarks]
theorem smarks_get {q : Int} {n i : Nat} (h : i < n) : (smarks q n)[i]? = some (mt (q + (i : Int))) := by simp [smarks, h]
theorem smarks_succ (q : Int) (n : Nat) : smarks q (n + 1) = smarks q n ++ [mt (q + (n : Int))] := by simp [smarks, List.range_succ]

set_option maxRecDepth 100000 in
set_option maxHeartbeats 2000000 in
theorem markStringS_c (v : Value) (l : List ByteArray) (q : Int) (base : Nat) (w : World) (ho : w.ownsRow base 9 1 v l.length (strs l)) (h0 : 1 ≤ q) (h1 : q ≤ 2305843009213693952) (hn : l.length ≤ 1048576) :
    Calls Tryz.prog 18 #[v, .int .i64 q] w fun en w' => en = .returned (.int .i64 (q + l.length)) ∧ w'.ownsRow base 9 1 v l.length (strs (smarks q l.length)) ∧ w.grownBy w' v.ownBlock := by
  rcases ho.2 with ⟨rfl, hl0⟩ | ⟨g, cap, cur, rfl, hbg, hgh, hnc, hcm, hcs, htk⟩
  · obtain rfl : l = [] := List.eq_nil_of_length_eq_zero (by omega)
    go_enter Tryz.func18, Tryz.ntmps18
    go_wp2
    go_loopw [1, 5] (fun a i wr => a = .int .i64 q ∧ i = .int .i64 0 ∧ wr = w) (fun _ _ _ => 0)
    case atStart => exact ⟨rfl, rfl, rfl⟩
    case round =>
      obtain ⟨rfl, rfl, rfl⟩ := hrel
      go_wp2
      go_ret
      exact ⟨ret_int1 (by simp), World.ownsRow_nil _ _ _ _, World.grownBy.refl _ _⟩
  · rw [maxLen_eq] at hcm
    have HO := Lib.hid ho
    clear htk hgh ho
    go_enter Tryz.func18, Tryz.ntmps18
    go_wp2_with fail
    go_loopw [1, 5] (fun a i wr => ∃ k : Nat, k ≤ l.length ∧ i = .int .i64 k ∧ a = .int .i64 (q + k) ∧ Hid (wr.ownsRow base 9 1 (.slice (some ⟨g, 0, none⟩) l.length cap) l.length (strs (smarks q k ++ l.drop k))) ∧ Hid (w.grownBy wr (some g))) (fun _ i _ => l.length - (intOf i).toNat)
    case atStart => exact ⟨0, Nat.zero_le _, rfl, by simp, Lib.hid (by simpa [smarks] using HO.out), Lib.hid (World.grownBy.refl _ _)⟩
    case round =>
      obtain ⟨k, hk, rfl, rfl, HW, HG⟩ := hrel
      obtain ⟨wA, rfl⟩ : ∃ wA : World, wA = wr := ⟨_, rfl⟩
      by_cases hlt : k < l.length
      · obtain ⟨x, hx⟩ : ∃ x, l[k]? = some x := ⟨_, List.getElem?_eq_getElem hlt⟩
        have hmx : (smarks q k ++ l.drop k)[k]? = some x := by rw [List.getElem?_append_right (by rw [smarks_len]; omega), smarks_len, Nat.sub_self, List.getElem?_drop, Nat.add_zero, hx]
        have HFL := Lib.hid (strs_get hmx)
        have q0 : 1 ≤ q + (k : Int) := by omega
        have q1 : q + (k : Int) ≤ 4611686018427387904 := by omega
        clear hmx hx
        go_wp2_with fail
        refine (markText_c (q + (k : Int)) _ q0 q1).mono ?_; rintro e w2 ⟨rfl, hb2⟩
        have HO2 := Lib.hid (own_below HW.out hb2)
        have HG2 := Lib.hid (gro_bel HG.out hb2)
        have c0 := (HO2.out.cellAt k (by omega)).trans HFL.out
        have f0 := HO2.out.frozenAt k
        clear hb2
        go_wp2
        have hp := own_put [.string (mt (q + (k : Int)))] w2 _ k HO2.out
        refine ⟨⟨k + 1, by omega, by go_num, ?_, Lib.hid ?_, Lib.hid (only_put [_] w2 k HG2.out)⟩, by simp [intOf]; omega⟩
        · exact congrArg (Value.int .i64) (by omega)
        · have hlk : (smarks q k).length = k := smarks_len q k
          have e : putAt (strs (smarks q k ++ l.drop k)) k [.string (mt (q + (k : Int)))] = strs (smarks q (k + 1) ++ l.drop (k + 1)) := by
            have hd : l.drop k = l[k] :: l.drop (k + 1) := List.drop_eq_getElem_cons hlt
            have ha : strs (smarks q k ++ l.drop k) = strs (smarks q k) ++ ([.string l[k]] ++ strs (l.drop (k + 1))) := by rw [hd]; unfold strs; rw [List.map_append]; rfl
            rw [ha, putAt_block [.string (mt (q + (k : Int)))] [.string l[k]] (strs (smarks q k)) (strs (l.drop (k + 1))) rfl k (by rw [strs_len, hlk]), smarks_succ]
            unfold strs
            simp only [List.map_append, List.map_cons, List.map_nil, List.append_assoc, List.cons_append, List.nil_append]
          rw [e] at hp
          exact hp
      · obtain rfl : k = l.length := by omega
        go_wp2
        go_ret
        refine ⟨rfl, ?_, HG.out⟩
        have h := HW.out
        rw [List.drop_length, List.append_nil] at h
        exact h

set_option maxRecDepth 100000 in
set_option maxHeartbeats 2000000 in
theorem heldStringS_c (v : Value) (q : Int) (n : Nat) (w : World) (hr : Rd w v n (strs (smarks q n))) (h0 : 1 ≤ q) (h1 : q ≤ 2305843009213693952) (hn : n ≤ 1048576) :
    Calls Tryz.prog 20 #[v, .int .i64 q] w fun en w' => en = .returned (.int .i64 (q + n)) ∧ Below w.heap.size w w' := by
  obtain ⟨A, c, rfl, hc, hm, hr⟩ := hr
  rw [maxLen_eq] at hm
  have HR := Lib.hid hr
  clear hr
  go_enter Tryz.func20, Tryz.ntmps20
  go_wp2_with fail
  go_loopw [1, 5] (fun a i wr => ∃ k : Nat, k ≤ n ∧ i = .int .i64 k ∧ a = .int .i64 (q + k) ∧ Hid (Below w.heap.size w wr)) (fun _ i _ => n - (intOf i).toNat)
  case atStart => exact ⟨0, Nat.zero_le _, rfl, by simp, Lib.hid (Below.refl _ _)⟩
  case round =>
    obtain ⟨k, hk, rfl, rfl, HB⟩ := hrel
    obtain ⟨wA, rfl⟩ : ∃ wA : World, wA = wr := ⟨_, rfl⟩
    by_cases hlt : k < n
    · obtain ⟨b, off, rfl, hbl, hcell⟩ := HR.out (by omega)
      have c0 := cell_at hcell HB.out hbl (strs_get (smarks_get (q := q) hlt))
      have q0 : 1 ≤ q + (k : Int) := by omega
      have q1 : q + (k : Int) ≤ 4611686018427387904 := by omega
      obtain ⟨M, hM⟩ : ∃ M, mt (q + (k : Int)) = M := ⟨_, rfl⟩
      have hmt := markText_c (q + (k : Int)) wA.drew q0 q1
      rw [hM] at c0 hmt
      have HMT := Lib.hid hmt
      have hsA := HB.out.size
      clear hcell hM hmt
      go_wp2_with fail
      go_region_held3 (fun w' => w'.cell? ⟨b, off + k, none⟩ = some (.string M)) (first | go_keep | (rw [hb1.cell (by simp; omega)]; assumption)) (first | (go_at_call 37; refine HMT.out.mono ?_; rintro e w' ⟨rfl, hb1⟩))
      have HB2 := Lib.hid (bel_then (bel_dr HB.out) hb1)
      clear hb1 c0
      go_wp2
      refine ⟨⟨k + 1, by omega, by go_num, ?_, HB2⟩, by simp [intOf]; omega⟩
      exact congrArg (Value.int .i64) (by omega)
    · obtain rfl : k = n := by omega
      go_wp2
      go_ret
      exact ⟨rfl, HB.out⟩
end Go.Proofs.YtddccjdppbcnbaaGreat
