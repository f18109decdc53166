/-
  spec.mvBlocked.
-/
import Derived.Test.YtgdigcnpjkkmfaaMvQ
namespace Go.Proofs.Ytgdigcnpjkkmfaa
open Go.RowKit

/-- What mvBlocked gives: the set with its rest, in memory of the call's own, or nothing. -/
def BlkPost (base : Nat) (q : List Int) (o : Option (List Int)) (w : World) (e : Ending) (w' : World) : Prop :=
  Below w.heap.size w w' ∧ match o with
    | some T => ∃ v, e = .returned (.tuple #[v, .bool true]) ∧ w'.ownsRow base 3 1 v (q ++ T).length (ints (q ++ T))
    | none => ∃ v, e = .returned (.tuple #[v, .bool false])
theorem BlkPost.yes {base : Nat} {q T : List Int} {w w' : World} {e : Ending} (h : BlkPost base q (some T) w e w') : ∃ v, e = .returned (.tuple #[v, .bool true]) ∧ w'.ownsRow base 3 1 v (q ++ T).length (ints (q ++ T)) ∧ Below w.heap.size w w' := by
  obtain ⟨h1, v, h2, h3⟩ := h
  exact ⟨v, h2, h3, h1⟩
theorem BlkPost.no {base : Nat} {q : List Int} {w w' : World} {e : Ending} (h : BlkPost base q none w e w') : ∃ v, e = .returned (.tuple #[v, .bool false]) ∧ Below w.heap.size w w' := by
  obtain ⟨h1, v, h2⟩ := h
  exact ⟨v, h2, h1⟩
theorem blkG_yes {f : Nat → Option (List Int)} {k j : Nat} {T : List Int} (h : f k = some T) : blkG f k (j + 1) = some ((k : Int) :: T) := by simp only [blkG]; rw [h]
theorem blkG_no {f : Nat → Option (List Int)} {k j : Nat} (h : f k = none) : blkG f k (j + 1) = blkG f (k + 1) j := by simp only [blkG]; rw [h]
/-- An increasing list of movers. -/
def MovL (r : List Int) : Prop := r.Pairwise (· < ·) ∧ ∀ y ∈ r, ∃ i : Nat, y = (i : Int) ∧ i < 7
theorem movL_put {r : List Int} {x : Nat} (h : MovL r) (hx : x < 7) : MovL (putI r (x : Int)) :=
  ⟨putI_inc r _ h.1, fun y hy => by
    rcases (putI_mem r _ y).1 hy with rfl | hy
    · exact ⟨x, rfl, hx⟩
    · exact h.2 y hy⟩
theorem usedL_put {r l : List Int} {P : Nat → Bool} {j x : Nat} (h : UsedL r (orP P (l.take j))) (hx : l[j]? = some (x : Int)) : UsedL (putI r (x : Int)) (orP P (l.take (j + 1))) := fun i hi => by
  have h1 := h i hi
  unfold orP at h1 ⊢
  rw [take_succ_of hx, dec_snoc, ← Bool.or_assoc, ← h1]
  by_cases hm : (i : Int) ∈ r
  · rw [decide_eq_true ((putI_mem r _ _).2 (.inr hm)), decide_eq_true hm]; rfl
  · rw [decide_eq_false hm, Bool.false_or, decide_eq_decide, putI_mem]
    exact ⟨fun h => h.elim id (fun h => absurd h hm), .inl⟩
theorem movL_len {r : List Int} {P : Nat → Bool} (h : MovL r) (hU : UsedL r P) : r.length ≤ 7 := by
  rw [len_cnt h.1 h.2 hU]; exact cntP_le _

set_option maxRecDepth 100000 in
set_option maxHeartbeats 8000000 in
theorem mvBlocked_c (v : Value) (ls : List (List Int)) (ht : Tab ls) (N : Nat) (hN : N ≤ 6) : ∀ (n k : Nat) (u x : Value) (q r : List Int) (P : Nat → Bool) (base : Nat) (w : World), n + q.length = N → k ≤ ls.length → base ≤ w.heap.size →
    RdSS w v ls → w.ownsRow base 3 1 u q.length (ints q) → RdI w x r → UsedL r P → MovL r →
    Calls Try.prog 57 #[v, .int .i64 k, .int .i64 n, u, x] w (BlkPost base q (blkT ls N n k P) w) := by
  intro n
  induction n with
  | zero =>
    intro k u x q r P base w hn hk hb hr hu hx hU hM
    have hlen := len_cnt hM.1 hM.2 hU
    have HU := Lib.hid hu
    obtain ⟨A, c, rfl, hc, hm, _⟩ := hx
    obtain ⟨A2, c2, rfl, hc2, hm2, _⟩ := own_rd hu
    rw [maxLen_eq] at hm hm2
    have hqN : q.length = N := by omega
    by_cases h : cntP P < N
    · have HF : Hid (blkT ls N 0 k P = some []) := Lib.hid (by simp only [blkT]; rw [if_pos h])
      have hz : (r.length : Int) < (q.length : Int) := by omega
      clear hu hr hU hM hlen
      go_enter Try.func57, Try.ntmps57
      go_wp2
      go_ret2
      rw [HF.out]
      exact ⟨Below.refl _ _, _, congrArg (fun b => Ending.returned (.tuple #[_, .bool b])) (decide_eq_true (by omega)), by rw [List.append_nil]; exact HU.out⟩
    · have HF : Hid (blkT ls N 0 k P = none) := Lib.hid (by simp only [blkT]; rw [if_neg h])
      have hz : (q.length : Int) ≤ (r.length : Int) := by omega
      clear hu hr hU hM hlen
      go_enter Try.func57, Try.ntmps57
      go_wp2
      go_ret2
      rw [HF.out]
      exact ⟨Below.refl _ _, _, congrArg (fun b => Ending.returned (.tuple #[_, .bool b])) (decide_eq_false (by omega))⟩
  | succ n ih =>
    intro k u x q r P base w hn hk hb hr hu hx hU hM
    have HIH := Lib.hid ih
    have HT := Lib.hid ht
    have HR := Lib.hid hr
    have HU := Lib.hid hu
    have HX := Lib.hid hx
    have HUS := Lib.hid hU
    have HMV := Lib.hid hM
    have hr7 := movL_len hM hU
    obtain ⟨i0, hi, hz0, hz1, hz2⟩ := info_parts Try.infoInt
    obtain ⟨vs, hv⟩ := hr
    have hvl := hv.len
    have HV := Lib.hid hv
    have ht6 : ls.length ≤ 6 := ht.1
    obtain ⟨A, c, rfl, hc, hm, hcl⟩ := hv.outer
    rw [maxLen_eq] at hm
    have HCL := Lib.hid hcl
    have hq6 : q.length ≤ 6 := by omega
    have n1 : (1 : Int) ≤ ((n + 1 : Nat) : Int) := by omega
    have ne0 : (((n + 1 : Nat) : Int) == 0) = false := by rw [beq_eq_false_iff_ne]; omega
    obtain ⟨nn, hnn⟩ : ∃ nn : Int, ((n + 1 : Nat) : Int) = nn := ⟨_, rfl⟩
    have hnn2 : nn - 1 = (n : Int) := by omega
    have hnn6 : nn ≤ 6 := by omega
    rw [hnn] at n1 ne0 ⊢
    have HNN := Lib.hid hnn2
    clear hv hcl hu hx hU hM ih ht hnn hnn2
    go_enter Try.func57, Try.ntmps57
    go_wp2_with fail
    go_loopw [12] (fun v12 wr => ∃ i : Nat, i ≤ ls.length ∧ v12 = .int .i64 i ∧ Hid (blkG (fun i => blkT ls N n (i + 1) (orP P (ls.getD i []))) i (ls.length - i) = blkT ls N (n + 1) k P) ∧ Hid (Below w.heap.size w wr)) (fun v12 _ => ls.length - (intOf v12).toNat)
    case atStart => exact ⟨k, hk, rfl, Lib.hid rfl, Lib.hid (Below.refl _ _)⟩
    case round =>
     obtain ⟨i, hi', rfl, HG, HB⟩ := hrel
     obtain ⟨wA, rfl⟩ : ∃ wA : World, wA = wr := ⟨_, rfl⟩
     have hsA := HB.out.size
     by_cases hli : i < ls.length
     ·
      obtain ⟨l, hl⟩ : ∃ l, ls[i]? = some l := ⟨_, List.getElem?_eq_getElem hli⟩
      obtain ⟨hl7, hle⟩ := HT.out.2 l (List.mem_of_getElem? hl)
      have hgd : ls.getD i [] = l := by simp [List.getD_eq_getElem?_getD, hl]
      obtain ⟨z, hz⟩ : ∃ z, vs[i]? = some z := ⟨_, List.getElem?_eq_getElem (by omega)⟩
      obtain ⟨b, off, rfl, hbl, hcell⟩ := HCL.out (by omega)
      have c0 := cell_at hcell HB.out hbl hz
      have C0 := Lib.hid c0
      obtain ⟨A5, c5, rfl, hc5, hm5, hr5⟩ := HV.out.inner i z l hz hl
      rw [maxLen_eq] at hm5
      have HR5 := Lib.hid hr5
      have HLE := Lib.hid hle
      have HGD := Lib.hid hgd
      have k0 : (0 : Int) ≤ (i : Int) := by omega
      have k1 : (i : Int) < (ls.length : Int) := by omega
      have hG := HG.out
      rw [show ls.length - i = (ls.length - (i + 1)) + 1 by omega] at hG
      obtain ⟨o, ho⟩ : ∃ o, blkT ls N n (i + 1) (orP P l) = o := ⟨_, rfl⟩
      have hfi : (fun i => blkT ls N n (i + 1) (orP P (ls.getD i []))) i = o := by dsimp only; rw [hgd, ho]
      have HFI := Lib.hid hfi
      have HGG := Lib.hid hG
      have HOO := Lib.hid ho
      clear hcell hz hr5 hle hl hgd hG ho hfi c0
      go_wp2_with fail
      refine (l1Own_c _ r _ (rdi_below HX.out HB.out) (by omega)).mono ?_; rintro e w3 ⟨v3, rfl, ho3, hb3⟩
      have HX3 := Lib.hid (rdi_own ho3)
      have HB3 := Lib.hid (bel_then HB.out hb3)
      have c1 := (hb3.cell (p := ⟨b, off + i, none⟩) (Nat.lt_of_lt_of_le hbl hsA)).trans C0.out
      have hs3 := hb3.size
      clear ho3 hb3
      go_wp2_with fail
      go_loopw [13, 40] (fun v13 v40 wr => ∃ (j : Nat) (r2 : List Int), j ≤ l.length ∧ v40 = .int .i64 j ∧ Hid (UsedL r2 (orP P (l.take j))) ∧ Hid (MovL r2) ∧ Hid (RdI wr v13 r2) ∧ Hid (Below w.heap.size w wr)) (fun _ v40 _ => l.length - (intOf v40).toNat)
      case atStart => exact ⟨0, r, Nat.zero_le _, rfl, Lib.hid (fun m hm => by rw [HUS.out m hm]; simp [orP]), HMV, HX3, HB3⟩
      case round =>
       obtain ⟨j, r2, hj, rfl, HU2, HM2, HX2, HB2⟩ := hrel
       obtain ⟨wB, rfl⟩ : ∃ wB : World, wB = wr := ⟨_, rfl⟩
       have hr27 := movL_len HM2.out HU2.out
       have hsB := HB2.out.size
       by_cases hjl : j < l.length
       ·
        obtain ⟨b5, off5, rfl, hbl5, hcell5⟩ := HR5.out (by omega)
        obtain ⟨y, hy⟩ : ∃ y, l[j]? = some y := ⟨_, List.getElem?_eq_getElem hjl⟩
        have d0 := cell_at hcell5 HB2.out hbl5 (ints_get hy)
        obtain ⟨yn, rfl, hy7⟩ := HLE.out y (List.mem_of_getElem? hy)
        have HU3 := Lib.hid (usedL_put HU2.out hy)
        have HM3 := Lib.hid (movL_put HM2.out hy7)
        clear hy hcell5
        go_wp2_with fail
        refine (l1Put_c _ r2 (yn : Int) _ HX2.out (by omega)).mono ?_; rintro e w5 ⟨v5, rfl, hx5, hb5⟩
        have HX5 := Lib.hid hx5
        have HB5 := Lib.hid (bel_then HB2.out hb5)
        clear hx5 hb5
        go_wp2
        exact ⟨⟨j + 1, _, by omega, by go_num, HU3, HM3, HX5, HB5⟩, by simp [intOf]; omega⟩
       · obtain rfl : j = l.length := by omega
         have hU4 := HU2.out
         rw [List.take_length] at hU4
         have HU4 := Lib.hid hU4
         have s1 : IntKind.i64.wrap ((i : Int) + 1) = (i : Int) + 1 := IntWalk.i64_in _ (by omega)
         clear hU4
         go_wp2_with fail
         refine (l1Own_c _ q _ (rdi_own (own_below HU.out HB2.out)) (by omega)).mono ?_; rintro e w6 ⟨v6, rfl, ho6, hb6⟩
         have HO6 := Lib.hid (own_base (base' := base) ho6 (by omega))
         have HB6 := Lib.hid (bel_then HB2.out hb6)
         have HX6 := Lib.hid (rdi_below HX2.out hb6)
         have hs6 := hb6.size
         have hlo6 := ho6.lt
         have HLO6 := Lib.hid hlo6
         have HBB6 := Lib.hid hb6
         clear ho6 hb6 hlo6
         go_wp2_with (at_builtin; refine wpList_app_rd _ rfl _ _ 25 rfl base 3 i0 (.int .i64 0) 1 8 Try.underlying25 hi hz0 hz1 hz2 rfl (by decide) _ _ _ rfl (HO6.out.alloc _) _ 1 [.int .i64 i] rfl (rd_new _ rfl (Nat.le_refl _) (by rw [maxLen_eq]; omega)) rfl (ints_one [(i : Int)]) (by rw [maxLen_eq]; omega) (by omega) (by simp; omega) ?_; intro v7 w7 hown7 hgrow7 _)
         have HO7 : Hid (w7.ownsRow base 3 1 v7 (q ++ [(i : Int)]).length (ints (q ++ [(i : Int)]))) := Lib.hid (by rw [ints_append, List.length_append]; exact hown7)
         have hbB7 : Below wB.heap.size wB w7 := bel_grown (bel_al HBB6.out _) hgrow7 (fun q e => (HLO6.out q e).1)
         have HX7 := Lib.hid (rdi_below HX2.out hbB7)
         have HB7 := Lib.hid (bel_then HB2.out hbB7)
         have hs7 := hbB7.size
         have e1 : ((i + 1 : Nat) : Int) = (i : Int) + 1 := by omega
         have hcall := HIH.out (i + 1) v7 _ (q ++ [(i : Int)]) r2 (orP P l) base w7 (by simp; omega) (by omega) (by omega) (HR.out.below HB7.out) HO7.out HX7.out HU4.out HM2.out
         rw [HOO.out, e1, ← HNN.out] at hcall
         have HC := Lib.hid hcall
         clear hcall e1 hown7 hgrow7 hbB7
         refine HC.out.mono ?_; intro e w8 hp
         rcases o with _ | T
         · obtain ⟨v8, rfl, hb8⟩ := hp.no
           have HB8 := Lib.hid (bel_then HB7.out hb8)
           have HG2 : Hid (blkG (fun i => blkT ls N n (i + 1) (orP P (ls.getD i []))) (i + 1) (ls.length - (i + 1)) = blkT ls N (n + 1) k P) := Lib.hid (by rw [← HGG.out]; exact (blkG_no HFI.out).symm)
           clear hp hb8 s1
           go_wp2
           exact ⟨⟨i + 1, by omega, by go_num, HG2, HB8⟩, by simp [intOf]; omega⟩
         · obtain ⟨v8, rfl, ho8, hb8⟩ := hp.yes
           have HF : Hid (blkT ls N (n + 1) k P = some ((i : Int) :: T)) := Lib.hid (by rw [← HGG.out]; exact blkG_yes HFI.out)
           have HO8 := Lib.hid ho8
           have HB8 := Lib.hid (bel_then HB7.out hb8)
           clear hp ho8 hb8 s1
           go_wp2
           go_ret2
           rw [HF.out]
           refine ⟨HB8.out, _, rfl, ?_⟩
           have h := HO8.out
           rwa [List.append_assoc] at h
     · obtain rfl : i = ls.length := by omega
       have hG := HG.out
       rw [Nat.sub_self] at hG
       have HF : Hid (blkT ls N (n + 1) k P = none) := Lib.hid (by rw [← hG]; rfl)
       clear hG
       go_wp2
       go_ret2
       rw [HF.out]
       exact ⟨HB.out, _, rfl⟩
end Go.Proofs.Ytgdigcnpjkkmfaa
