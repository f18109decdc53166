/-
  Texts of fleets: impl.joinNumbers, impl.fleetText (printed by gen_apt.py). Texts of fleets: impl.fleetText; FleetText on both sides (printed by gen_apt.py). (joined by pack.py: ApT2 ApT3)
-/
import Derived.Test.YtgcdgcidjjdhmaaGreatDoorK35
import Derived.Test.YtgcdgcidjjdhmaaGreatDoorK36
import Derived.Test.YtgcdgcidjjdhmaaGreatDoorK7
import Derived.Test.YtgcdgcidjjdhmaaGreatDoorK25
import Derived.Test.YtgcdgcidjjdhmaaGreatDoorK9
namespace Go.Proofs.YtgcdgcidjjdhmaaGreatDoor
set_option linter.unusedVariables false
set_option linter.unusedSimpArgs false
open Go.RowKit

def numsB (l : List Nat) : List ByteArray := l.map numB
def joinB (l : List Nat) : ByteArray := ⟨(Lib.join ((numsB l).map (·.data.toList)) [47]).toArray⟩
theorem joinB_four (a b c d : Nat) : joinB [a, b, c, d] = numB a ++ ⟨#[47]⟩ ++ numB b ++ ⟨#[47]⟩ ++ numB c ++ ⟨#[47]⟩ ++ numB d := by
  apply ByteArray.ext
  apply Array.ext'
  simp [joinB, numsB, Lib.join, List.intercalate, List.intersperse]
theorem join_small (l : List Nat) (h : l.length = 4) : (Lib.join ((numsB l).map (·.data.toList)) (⟨#[47]⟩ : ByteArray).data.toList).length ≤ 140737488355328 := by
  match l, h with
  | [a, b, c, d], _ =>
    have h1 : (numB a).data.toList.length ≤ 2 := numB_size a
    have h2 : (numB b).data.toList.length ≤ 2 := numB_size b
    have h3 : (numB c).data.toList.length ≤ 2 := numB_size c
    have h4 : (numB d).data.toList.length ≤ 2 := numB_size d
    have e : (numsB [a, b, c, d]).map (·.data.toList) = [(numB a).data.toList, (numB b).data.toList, (numB c).data.toList, (numB d).data.toList] := rfl
    rw [e, Lib.join_cons]
    simp only [Lib.joinTail, List.map_cons, List.map_nil, List.flatten_cons, List.flatten_nil, List.length_append, List.length_nil]
    have e2 : ([47] : List UInt8).length = 1 := rfl
    omega
set_option maxRecDepth 100000 in
set_option maxHeartbeats 4000000 in
theorem joinNumbers_c (v : Value) (l : List Nat) (w : World) (h4 : l.length = 4) (h14 : ∀ x ∈ l, x < 14) (hr : Rd w v l.length (ints (l.map Int.ofNat))) :
    Calls Tryz.prog 65 #[.string ⟨#[47]⟩, v] w fun e w' => e = .returned (.string (joinB l)) ∧ Below w.heap.size w w' := by
  obtain ⟨A, c, rfl, hc, hm, hr⟩ := hr
  rw [maxLen_eq] at hm
  have H4 := Lib.hid h4
  have hk4 : l.length ≤ 4 := by omega
  clear h4
  have H14 := Lib.hid h14
  have HR := Lib.hid hr
  clear h14 hr
  obtain ⟨i0, hi, hz0, hz1, hz2⟩ := info_parts Tryz.infoStr
  go_enter Tryz.func65, Tryz.ntmps65
  go_wp2_with fail
  go_loopw [5, 10] (fun vo vi wr => ∃ k : Nat, k ≤ l.length ∧ vi = .int .i64 k ∧ Hid (wr.ownsRow w.heap.size 9 1 vo k (strs (numsB (l.take k)))) ∧ Hid (Below w.heap.size w wr)) (fun _ vi _ => l.length - (intOf vi).toNat)
  case atStart => exact ⟨0, Nat.zero_le _, rfl, Lib.hid (World.ownsRow_nil _ _ _ _), Lib.hid (Below.refl _ _)⟩
  case round =>
    obtain ⟨k, hk, rfl, HO, HB⟩ := hrel
    obtain ⟨wA, rfl⟩ : ∃ wA : World, wA = wr := ⟨_, rfl⟩
    have HOK := HO
    by_cases hlt : k < l.length
    · obtain ⟨b, off, rfl, hbl, hcell⟩ := HR.out (by omega)
      obtain ⟨x, hx⟩ : ∃ x, l[k]? = some x := ⟨_, List.getElem?_eq_getElem hlt⟩
      have c0 : wA.cell? ⟨b, off + k, none⟩ = some (.int .i64 x) := cell_at hcell HB.out hbl (ints_get (by rw [List.getElem?_map, hx]; rfl))
      have hx14 := H14.out x (List.mem_of_getElem? hx)
      have HT : Hid (numsB (l.take (k + 1)) = numsB (l.take k) ++ [numB x]) := Lib.hid (by unfold numsB; rw [take_succ_of hx, List.map_append]; rfl)
      have i1 : (k : Int) < (l.length : Int) := by omega
      have hsw := HB.out.size
      clear hcell hx
      go_wp2_with fail
      refine (itoa_c x _ hx14).mono ?_; rintro e w2 ⟨rfl, rfl⟩
      go_wp2_with (at_builtin; go_must (refine wpList_app_rd _ rfl _ _ 65 rfl w.heap.size 9 i0 (.string ⟨#[]⟩) 1 16 Tryz.underlying65 hi hz0 hz1 hz2 rfl (by decide) _ _ _ rfl (HOK.out.alloc _) _ 1 [.string (numB x)] rfl (rd_new _ (by omega) (by omega) (by rw [maxLen_eq]; omega)) rfl (by intro u hu; simp at hu; rcases hu with rfl; rfl) (by rw [maxLen_eq]; omega) (by omega) (by simp; omega) ?_); intro v7 w7 hown7 hgrow7 _)
      have HN7 : Hid (w7.ownsRow w.heap.size 9 1 v7 (k + 1) (strs (numsB (l.take (k + 1))))) := Lib.hid (by rw [HT.out, strs_snoc]; exact hown7)
      exact ⟨⟨k + 1, by omega, by go_num, HN7, Lib.hid (bel_grown (bel_al HB.out _) hgrow7 (fun g e => by have := (HOK.out.lt g e).1; omega))⟩, by simp [intOf]; omega⟩
    · obtain rfl : k = l.length := by omega
      have ho := HO.out
      rw [List.take_length] at ho
      obtain ⟨gc, cc, rfl, hgc, hgcA, hcc, _⟩ := own_shape ho (by have := H4.out; omega)
      have hln : (numsB l).length = l.length := by simp [numsB]
      have hcells : ∀ (j : Nat) x, (numsB l)[j]? = some x → wA.cell? ⟨gc, 0 + j, none⟩ = some (.string x) := fun j x hx => by
        rw [Nat.zero_add]
        have hj := (List.getElem?_eq_some_iff.1 hx).1
        exact (ho.cellAt j (by omega)).trans (strs_get hx)
      have hsz : (Lib.join ((numsB l).map (·.data.toList)) (⟨#[47]⟩ : ByteArray).data.toList).length ≤ 140737488355328 := join_small l H4.out
      have HC := Lib.hid hcells
      have HS := Lib.hid hsz
      have HL := Lib.hid hln
      clear ho hcells hsz hln HO HOK
      go_wp2_with fail
      have hJ := Tryz.strings_Join gc 0 cc (numsB l) ⟨#[47]⟩ wA HC.out hgcA (by rw [HL.out]; omega) (by rw [HL.out]; omega) HS.out
      rw [HL.out] at hJ
      refine hJ.mono ?_; rintro e w3 ⟨rfl, hb⟩
      have HB3 := Lib.hid (bel_then HB.out hb)
      clear hb
      go_wp2
      go_ret
      exact ⟨rfl, HB3.out⟩
end Go.Proofs.YtgcdgcidjjdhmaaGreatDoor

namespace Go.Proofs.YtgcdgcidjjdhmaaGreatDoor
set_option linter.unusedVariables false
set_option linter.unusedSimpArgs false
open Go.RowKit

theorem joinB_size (a b c d : Nat) : (joinB [a, b, c, d]).size ≤ 11 := by
  have q47 : (⟨#[47]⟩ : ByteArray).size = 1 := rfl
  have h1 := numB_size a
  have h2 := numB_size b
  have h3 := numB_size c
  have h4 := numB_size d
  rw [joinB_four]
  simp only [ByteArray.size_append]
  omega
theorem apT_join (nm : ByteArray) (kd nd cr sv : Nat) : nm ++ ⟨#[47]⟩ ++ joinB [kd, nd, cr, sv] ++ ⟨#[59]⟩ = apT ⟨nm, kd, nd, cr, sv⟩ := by
  rw [joinB_four, apT_at]
  simp only [ByteArray.append_assoc]
set_option maxRecDepth 100000 in
set_option maxHeartbeats 4000000 in
theorem fleetText_c (v : Value) (l : List Ap) (w : World) (h12 : l.length ≤ 12) (hg : ∀ a ∈ l, goodAp a = true) (hr : Rd w v l.length (l.flatMap Ap.cells)) :
    Calls Tryz.prog 44 #[v] w fun e w' => e = .returned (.string (flT l l.length)) ∧ Below w.heap.size w w' := by
  obtain ⟨A, c, rfl, hc, hm, hr⟩ := hr
  rw [maxLen_eq] at hm
  have HG := Lib.hid hg
  have HR := Lib.hid hr
  clear hg hr
  have q47 : (⟨#[47]⟩ : ByteArray).size = 1 := rfl
  have q59 : (⟨#[59]⟩ : ByteArray).size = 1 := rfl
  go_enter Tryz.func44, Tryz.ntmps44
  go_wp2_with fail
  go_loopw [3, 8] (fun vo vi wr => ∃ (k : Nat) (S : ByteArray), k ≤ l.length ∧ S.size ≤ 19 * k ∧ vi = .int .i64 k ∧ vo = .string S ∧ Hid (flT l k = S) ∧ Hid (Below w.heap.size w wr)) (fun _ vi _ => l.length - (intOf vi).toNat)
  case atStart => exact ⟨0, ⟨#[]⟩, Nat.zero_le _, Nat.le_refl _, rfl, rfl, Lib.hid rfl, Lib.hid (Below.refl _ _)⟩
  case round =>
    obtain ⟨k, S, hk, hS, rfl, rfl, HS, HB⟩ := hrel
    by_cases hlt : k < l.length
    · obtain ⟨b, off, rfl, hbl, hcell⟩ := HR.out (by omega)
      obtain ⟨nm, kd, nd, cr, sv, hx, c0, c1, c2, c3, c4⟩ := ap_at' hcell HB.out hbl hlt
      have HX := Lib.hid hx
      obtain ⟨g1, g2, g3, g4, g5, g6, g7, g8, g9⟩ := goodAp_true (HG.out _ (List.mem_of_getElem? hx))
      dsimp only at g1 g2 g3 g4 g5 g6 g7 g8 g9
      obtain ⟨kd, rfl⟩ := Int.eq_ofNat_of_zero_le g2
      obtain ⟨nd, rfl⟩ := Int.eq_ofNat_of_zero_le g4
      obtain ⟨cr, rfl⟩ := Int.eq_ofNat_of_zero_le (show 0 ≤ cr by omega)
      obtain ⟨sv, rfl⟩ := Int.eq_ofNat_of_zero_le g8
      have HT := Lib.hid (flT_succ HX.out)
      clear hx hcell
      go_upto_region 5 with fail
      (generalize hw1 : World.alloc wr _ = w1; have k0 : w1.cell? ⟨wr.heap.size, 0, none⟩ = some (.string nm) := (by subst hw1; simp [go_sem]); have k1 : w1.cell? ⟨wr.heap.size, 1, none⟩ = some (.int .i64 kd) := (by subst hw1; simp [go_sem]); have k2 : w1.cell? ⟨wr.heap.size, 2, none⟩ = some (.int .i64 nd) := (by subst hw1; simp [go_sem]); have k3 : w1.cell? ⟨wr.heap.size, 3, none⟩ = some (.int .i64 cr) := (by subst hw1; simp [go_sem]); have k4 : w1.cell? ⟨wr.heap.size, 4, none⟩ = some (.int .i64 sv) := (by subst hw1; simp [go_sem]); have hb0 : Below wr.heap.size wr w1 := (by subst hw1; exact bel_al (Below.refl _ _) _); have hsz1 : wr.heap.size < w1.heap.size := (by subst hw1; simp); clear hw1)
      have HBW := Lib.hid (bel_then HB.out hb0)
      clear hb0 c0 c1 c2 c3 c4
      have z1 := joinB_size kd nd cr sv
      ((refine wp_region_held_drew (S := fun w' => w'.cell? ⟨wr.heap.size, 0, none⟩ = some (.string nm) ∧ w'.cell? ⟨wr.heap.size, 1, none⟩ = some (.int .i64 kd) ∧ w'.cell? ⟨wr.heap.size, 2, none⟩ = some (.int .i64 nd) ∧ w'.cell? ⟨wr.heap.size, 3, none⟩ = some (.int .i64 cr) ∧ w'.cell? ⟨wr.heap.size, 4, none⟩ = some (.int .i64 sv)) (by kernel_rfl) (by (try dsimp only); first | go_keep | (go_split_ands; refine ⟨?_, ?_, ?_, ?_, ?_⟩ <;> assumption)) (fun hHeld => ?_)); (refine wpAnyH_take (i := 0) (v := ?_) (arr_get g_z) (by kernel_rfl) (by kernel_rfl) (by kernel_rfl) (fun _ _ _ h => h) (Or.inl ⟨by rfl, ?_⟩) hHeld ?_; rotate_left; (focus (intro w hSw; (try dsimp only at hSw); go_simp; try (first | (with_reducible rfl) | (rw [if_neg (by (try simp only [ByteArray.size_append]); omega)])))); try simp only [Act.put, List.setIfInBounds_toArray, List.set_cons_zero, List.set_cons_succ]); (refine wpAnyH_take (i := 1) (v := ?_) (arr_get (g_s g_z)) (by kernel_rfl) (by kernel_rfl) (by kernel_rfl) (fun _ _ _ h => h) (Or.inl ⟨by rfl, ?_⟩) hHeld ?_; rotate_left; (focus (intro w hSw; (try dsimp only at hSw); go_simp; try (first | (with_reducible rfl) | (rw [if_neg (by (try simp only [ByteArray.size_append]); omega)])))); try simp only [Act.put, List.setIfInBounds_toArray, List.set_cons_zero, List.set_cons_succ]); (refine wpAnyH_take (i := 2) (v := ?_) (arr_get (g_s (g_s g_z))) (by kernel_rfl) (by kernel_rfl) (by kernel_rfl) (fun _ _ _ h => h) (Or.inl ⟨by rfl, ?_⟩) hHeld ?_; rotate_left; (focus (intro w hSw; (try dsimp only at hSw); go_simp; try (first | (with_reducible rfl) | (rw [if_neg (by (try simp only [ByteArray.size_append]); omega)])))); try simp only [Act.put, List.setIfInBounds_toArray, List.set_cons_zero, List.set_cons_succ]); (refine wpAnyH_take (i := 3) (v := ?_) (arr_get (g_s (g_s (g_s g_z)))) (by kernel_rfl) (by kernel_rfl) (by kernel_rfl) (fun _ _ _ h => h) (Or.inl ⟨by rfl, ?_⟩) hHeld ?_; rotate_left; (focus (intro w hSw; (try dsimp only at hSw); go_simp; try (first | (with_reducible rfl) | (rw [if_neg (by (try simp only [ByteArray.size_append]); omega)])))); try simp only [Act.put, List.setIfInBounds_toArray, List.set_cons_zero, List.set_cons_succ]); (refine wpAnyH_take (i := 4) (v := ?_) (arr_get (g_s (g_s (g_s (g_s g_z))))) (by kernel_rfl) (by kernel_rfl) (by kernel_rfl) (fun _ _ _ h => h) (Or.inl ⟨by rfl, ?_⟩) hHeld ?_; rotate_left; (focus (intro w hSw; (try dsimp only at hSw); go_simp; try (first | (with_reducible rfl) | (rw [if_neg (by (try simp only [ByteArray.size_append]); omega)])))); try simp only [Act.put, List.setIfInBounds_toArray, List.set_cons_zero, List.set_cons_succ]); (refine wpAnyH_take (i := 5) (v := ?_) (arr_get (g_s (g_s (g_s (g_s (g_s g_z)))))) (by kernel_rfl) (by kernel_rfl) (by kernel_rfl) (fun _ _ _ h => h) (Or.inl ⟨by rfl, ?_⟩) hHeld ?_; rotate_left; (focus (intro w hSw; (try dsimp only at hSw); go_simp; try (first | (with_reducible rfl) | (rw [if_neg (by (try simp only [ByteArray.size_append]); omega)])))); try simp only [Act.put, List.setIfInBounds_toArray, List.set_cons_zero, List.set_cons_succ]); (refine wpAnyH_take (i := 6) (v := ?_) (arr_get (g_s (g_s (g_s (g_s (g_s (g_s g_z))))))) (by kernel_rfl) (by kernel_rfl) (by kernel_rfl) (fun _ _ _ h => h) (Or.inl ⟨by rfl, ?_⟩) hHeld ?_; rotate_left; (focus (intro w hSw; (try dsimp only at hSw); go_simp; try (first | (with_reducible rfl) | (rw [if_neg (by (try simp only [ByteArray.size_append]); omega)])))); try simp only [Act.put, List.setIfInBounds_toArray, List.set_cons_zero, List.set_cons_succ]); (refine wpAnyH_take (i := 7) (v := ?_) (arr_get (g_s (g_s (g_s (g_s (g_s (g_s (g_s g_z)))))))) (by kernel_rfl) (by kernel_rfl) (by kernel_rfl) (fun _ _ _ h => h) (Or.inl ⟨by rfl, ?_⟩) hHeld ?_; rotate_left; (focus (intro w hSw; (try dsimp only at hSw); go_simp; try (first | (with_reducible rfl) | (rw [if_neg (by (try simp only [ByteArray.size_append]); omega)])))); try simp only [Act.put, List.setIfInBounds_toArray, List.set_cons_zero, List.set_cons_succ]); (refine wpAnyH_take (i := 8) (v := ?_) (arr_get (g_s (g_s (g_s (g_s (g_s (g_s (g_s (g_s g_z))))))))) (by kernel_rfl) (by kernel_rfl) (by kernel_rfl) (fun _ _ _ h => h) (Or.inl ⟨by rfl, ?_⟩) hHeld ?_; rotate_left; (focus (intro w hSw; (try dsimp only at hSw); go_simp; try (first | (with_reducible rfl) | (rw [if_neg (by (try simp only [ByteArray.size_append]); omega)])))); try simp only [Act.put, List.setIfInBounds_toArray, List.set_cons_zero, List.set_cons_succ]); (refine wpAnyH_take (i := 9) (v := ?_) (arr_get (g_s (g_s (g_s (g_s (g_s (g_s (g_s (g_s (g_s g_z)))))))))) (by kernel_rfl) (by kernel_rfl) (by kernel_rfl) (fun _ _ _ h => h) (Or.inl ⟨by rfl, ?_⟩) hHeld ?_; rotate_left; (focus (intro w hSw; (try dsimp only at hSw); go_simp; try (first | (with_reducible rfl) | (rw [if_neg (by (try simp only [ByteArray.size_append]); omega)])))); try simp only [Act.put, List.setIfInBounds_toArray, List.set_cons_zero, List.set_cons_succ]); (refine wpAnyH_take (i := 10) (v := ?_) (arr_get (g_s (g_s (g_s (g_s (g_s (g_s (g_s (g_s (g_s (g_s g_z))))))))))) (by kernel_rfl) (by kernel_rfl) (by kernel_rfl) (fun _ _ _ h => h) (Or.inl ⟨by rfl, ?_⟩) hHeld ?_; rotate_left; (focus (intro w hSw; (try dsimp only at hSw); go_simp; try (first | (with_reducible rfl) | (rw [if_neg (by (try simp only [ByteArray.size_append]); omega)])))); try simp only [Act.put, List.setIfInBounds_toArray, List.set_cons_zero, List.set_cons_succ]); (refine wpAnyH_take (i := 11) (v := ?_) (arr_get (g_s (g_s (g_s (g_s (g_s (g_s (g_s (g_s (g_s (g_s (g_s g_z)))))))))))) (by kernel_rfl) (by kernel_rfl) (by kernel_rfl) (fun _ _ _ h => h) (Or.inl ⟨by rfl, ?_⟩) hHeld ?_; rotate_left; (focus (intro w hSw; (try dsimp only at hSw); go_simp; try (first | (with_reducible rfl) | (rw [if_neg (by (try simp only [ByteArray.size_append]); omega)])))); try simp only [Act.put, List.setIfInBounds_toArray, List.set_cons_zero, List.set_cons_succ]); (refine wpAnyH_ready (rs := [12]) (by kernel_rfl) (by simp) ?_); (refine AllReadyH.cons (i := 12) (arr_get (g_s (g_s (g_s (g_s (g_s (g_s (g_s (g_s (g_s (g_s (g_s (g_s g_z))))))))))))) (fun K hK => ?_) AllReadyH.nil); (go_simp); ((generalize hWx : World.drew (World.alloc _ (Obj.cells #[.int .i64 kd, .int .i64 nd, .int .i64 cr, .int .i64 sv] 3)) = wa; have hb1 : Below w1.heap.size w1 wa := (by subst hWx; exact bel_dr (bel_al (Below.refl _ _) _)); have hza : wr.heap.size < wa.heap.size := Nat.lt_of_lt_of_le hsz1 hb1.size; have hq : Rd wa (.slice (some ⟨w1.heap.size, 0, none⟩) 4 4) 4 (ints ([kd, nd, cr, sv].map Int.ofNat)) := (by subst hWx; exact rd_below (rd_new _ rfl (Nat.le_refl _) (by rw [maxLen_eq]; omega)) (bel_dr (Below.refl _ _))); have HQ := Lib.hid (bel_then HBW.out hb1); clear hWx)); (try (go_wp2_with fail)); (refine hK.out _ _ (by (try dsimp only); (go_split_ands; refine ⟨?_, ?_, ?_, ?_, ?_⟩ <;> (rw [hb1.cell (by first | assumption | (simp; omega))]; assumption))) (fun hHeld2 => ?_)); (clear hHeld hK); (clear K); (have hHeld := hHeld2); (clear hHeld2); (try simp only [Act.put, List.setIfInBounds_toArray, List.set_cons_zero, List.set_cons_succ]); (refine wpAnyH_ready (rs := [13]) (by kernel_rfl) (by simp) ?_); (refine AllReadyH.cons (i := 13) (arr_get (g_s (g_s (g_s (g_s (g_s (g_s (g_s (g_s (g_s (g_s (g_s (g_s (g_s g_z)))))))))))))) (fun K hK => ?_) AllReadyH.nil); (go_simp); ((go_at_call 65; refine (joinNumbers_c _ [kd, nd, cr, sv] _ rfl (by intro x hx; simp at hx; omega) hq).mono ?_; rintro e wb ⟨rfl, hb1⟩; have hzb : wr.heap.size < wb.heap.size := Nat.lt_of_lt_of_le hza hb1.size; have HQ := Lib.hid (bel_then HQ.out hb1))); (try (go_wp2_with fail)); (refine hK.out _ _ (by (try dsimp only); (go_split_ands; refine ⟨?_, ?_, ?_, ?_, ?_⟩ <;> (rw [hb1.cell (by first | assumption | (simp; omega))]; assumption))) (fun hHeld2 => ?_)); (clear hHeld hK); (clear K); (have hHeld := hHeld2); (clear hHeld2); (try simp only [Act.put, List.setIfInBounds_toArray, List.set_cons_zero, List.set_cons_succ]); (refine wpAnyH_take (i := 14) (v := ?_) (arr_get (g_s (g_s (g_s (g_s (g_s (g_s (g_s (g_s (g_s (g_s (g_s (g_s (g_s (g_s g_z))))))))))))))) (by kernel_rfl) (by kernel_rfl) (by kernel_rfl) (fun _ _ _ h => h) (Or.inl ⟨by rfl, ?_⟩) hHeld ?_; rotate_left; (focus (intro w hSw; (try dsimp only at hSw); go_simp; try (first | (with_reducible rfl) | (rw [if_neg (by (try simp only [ByteArray.size_append]); omega)])))); try simp only [Act.put, List.setIfInBounds_toArray, List.set_cons_zero, List.set_cons_succ]); (refine wpAnyH_take (i := 15) (v := ?_) (arr_get (g_s (g_s (g_s (g_s (g_s (g_s (g_s (g_s (g_s (g_s (g_s (g_s (g_s (g_s (g_s g_z)))))))))))))))) (by kernel_rfl) (by kernel_rfl) (by kernel_rfl) (fun _ _ _ h => h) (Or.inl ⟨by rfl, ?_⟩) hHeld ?_; rotate_left; (focus (intro w hSw; (try dsimp only at hSw); go_simp; try (first | (with_reducible rfl) | (rw [if_neg (by (try simp only [ByteArray.size_append]); omega)])))); try simp only [Act.put, List.setIfInBounds_toArray, List.set_cons_zero, List.set_cons_succ]); (refine wpAnyH_take (i := 16) (v := ?_) (arr_get (g_s (g_s (g_s (g_s (g_s (g_s (g_s (g_s (g_s (g_s (g_s (g_s (g_s (g_s (g_s (g_s g_z))))))))))))))))) (by kernel_rfl) (by kernel_rfl) (by kernel_rfl) (fun _ _ _ h => h) (Or.inl ⟨by rfl, ?_⟩) hHeld ?_; rotate_left; (focus (intro w hSw; (try dsimp only at hSw); go_simp; try (first | (with_reducible rfl) | (rw [if_neg (by (try simp only [ByteArray.size_append]); omega)])))); try simp only [Act.put, List.setIfInBounds_toArray, List.set_cons_zero, List.set_cons_succ]); (refine wpAnyH_take (i := 17) (v := ?_) (arr_get (g_s (g_s (g_s (g_s (g_s (g_s (g_s (g_s (g_s (g_s (g_s (g_s (g_s (g_s (g_s (g_s (g_s g_z)))))))))))))))))) (by kernel_rfl) (by kernel_rfl) (by kernel_rfl) (fun _ _ _ h => h) (Or.inl ⟨by rfl, ?_⟩) hHeld ?_; rotate_left; (focus (intro w hSw; (try dsimp only at hSw); go_simp; try (first | (with_reducible rfl) | (rw [if_neg (by (try simp only [ByteArray.size_append]); omega)])))); try simp only [Act.put, List.setIfInBounds_toArray, List.set_cons_zero, List.set_cons_succ]); (refine wpAnyH_done (by kernel_rfl) ?_ _))
      clear hb1 hHeld k0 k1 k2 k3 k4
      go_wp2
      refine ⟨⟨k + 1, _, by omega, ?_, by go_num, rfl, Lib.hid (by rw [HT.out, HS.out, ← apT_join]), HQ⟩, by simp [intOf]; omega⟩
      simp only [ByteArray.size_append]; omega
    · obtain rfl : k = l.length := by omega
      go_wp2
      go_ret
      rw [HS.out]
      exact ⟨rfl, HB.out⟩
/-- The text of a fleet, and whether it is one. -/
def fleetTextV (l : List Ap) : ByteArray × Bool := if goodFl l = true then (flT l l.length, true) else (⟨#[]⟩, false)
set_option maxRecDepth 100000 in
set_option maxHeartbeats 1000000 in
theorem fleetTextI_c (v : Value) (l : List Ap) (w : World) (hz : ∀ x ∈ l, x.nm.size ≤ 9223372036854775807) (hr : Rd w v l.length (l.flatMap Ap.cells)) :
    Calls Tryz.prog 20 #[v] w fun e w' => e = .returned (.tuple #[.string (fleetTextV l).1, .bool (fleetTextV l).2]) ∧ Below w.heap.size w w' := by
  have HR := Lib.hid hr
  have HZ := Lib.hid hz
  clear hr hz
  go_enter Tryz.func20, Tryz.ntmps20
  go_wp2_with fail
  refine (isFleet_c _ l _ HZ.out HR.out).mono ?_; rintro e w1 ⟨rfl, hb⟩
  have HB := Lib.hid hb
  clear hb
  cases hg : goodFl l with
  | false =>
    have HV : Hid (fleetTextV l = (⟨#[]⟩, false)) := Lib.hid (by unfold fleetTextV; rw [hg]; rfl)
    clear hg
    go_wp2
    go_ret2
    rw [HV.out]
    exact ⟨rfl, HB.out⟩
  | true =>
    have HV : Hid (fleetTextV l = (flT l l.length, true)) := Lib.hid (by unfold fleetTextV; rw [hg]; rfl)
    have h12 := (goodFl_true hg).1
    have HA := Lib.hid (goodFl_true hg).2
    clear hg
    go_wp2_with fail
    refine (fleetText_c _ l _ h12 HA.out (rd_below HR.out HB.out)).mono ?_; rintro e w2 ⟨rfl, hb⟩
    have HB2 := Lib.hid (bel_then HB.out hb)
    clear hb
    go_wp2
    go_ret2
    rw [HV.out]
    exact ⟨rfl, HB2.out⟩
set_option maxRecDepth 100000 in
set_option maxHeartbeats 1000000 in
theorem fleetTextS_c (v : Value) (l : List Ap) (w : World) (hz : ∀ x ∈ l, x.nm.size ≤ 9223372036854775807) (hr : Rd w v l.length (l.flatMap Ap.cells)) :
    Calls Tryz.prog 21 #[v] w fun e w' => e = .returned (.tuple #[.string (fleetTextV l).1, .bool (fleetTextV l).2]) ∧ Below w.heap.size w w' := by
  have HR := Lib.hid hr
  have HZ := Lib.hid hz
  clear hr hz
  go_enter Tryz.func21, Tryz.ntmps21
  go_wp2_with fail
  refine (apFleet_c _ l _ HZ.out HR.out).mono ?_; rintro e w1 ⟨rfl, hb⟩
  have HB := Lib.hid hb
  clear hb
  cases hg : goodFl l with
  | false =>
    have HV : Hid (fleetTextV l = (⟨#[]⟩, false)) := Lib.hid (by unfold fleetTextV; rw [hg]; rfl)
    clear hg
    go_wp2
    go_ret2
    rw [HV.out]
    exact ⟨rfl, HB.out⟩
  | true =>
    have HV : Hid (fleetTextV l = (flT l l.length, true)) := Lib.hid (by unfold fleetTextV; rw [hg]; rfl)
    have h12 := (goodFl_true hg).1
    have HA := Lib.hid (goodFl_true hg).2
    clear hg
    go_wp2_with fail
    refine (apText_c _ l _ h12 HA.out (rd_below HR.out HB.out)).mono ?_; rintro e w2 ⟨rfl, hb⟩
    have HB2 := Lib.hid (bel_then HB.out hb)
    clear hb
    go_wp2
    go_ret2
    rw [HV.out]
    exact ⟨rfl, HB2.out⟩
end Go.Proofs.YtgcdgcidjjdhmaaGreatDoor
