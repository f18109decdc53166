/-
  BlockedStations on both sides (printed by gen_mv.py).
-/
import Derived.Test.YtgdigcnpjkkmfaaMvX
namespace Go.Proofs.Ytgdigcnpjkkmfaa
open Go.RowKit

theorem blockedR_len (ls : List (List Int)) : (blockedR ls).length ≤ ls.length := by
  rcases Decidable.em (blockedR ls = []) with h0 | h0
  · rw [h0]; simp
  · obtain ⟨⟨s, _, _, hs⟩, _⟩ := (bestS_spec ls _).2 h0
    rw [show blockedR ls = _ from hs]; exact selI_len _ _
def blockedStationsV (n : Int) (l : List St) (p q : List Int) (a : Int) : List Int × Bool := if askM n l p q a = true then (blockedR (reachL n.toNat (arcs l) p q a), decide (blockedR (reachL n.toNat (arcs l) p q a) ≠ [])) else ([], false)
theorem blockedStationsV_len (n : Int) (l : List St) (p q : List Int) (a : Int) : (blockedStationsV n l p q a).1.length ≤ 1000000 := by
  unfold blockedStationsV
  split
  · rename_i h
    obtain ⟨hok, _⟩ := askM_true h
    obtain ⟨_, g2, g3, g4, g5⟩ := goodMv_true hok
    have := blockedR_len (reachL n.toNat (arcs l) p q a)
    rw [reachL_len] at this
    dsimp only
    omega
  · simp

set_option maxRecDepth 100000 in
set_option maxHeartbeats 4000000 in
theorem blockedStationsI_c (n : Int) (s : Value) (l : List St) (v : Value) (p : List Int) (u : Value) (q : List Int) (a : Int) (w : World) (hr : Rd w s l.length (l.flatMap St.cells)) (hp : RdI w v p) (hq : RdI w u q) :
    Calls Try.prog 30 #[.agg #[.int .i64 n, s], v, u, .int .i64 a] w (OwnIB (blockedStationsV n l p q a) w) := by
  have HR := Lib.hid hr
  have HQ := Lib.hid hq
  have HP := Lib.hid hp
  clear hr hp hq
  go_enter Try.func30, Try.ntmps30
  go_wp2_with fail
  generalize hW : World.alloc w _ = w0
  have t0 : w0.cell? ⟨w.heap.size, 0, none⟩ = some (.int .i64 n) := by subst hW; simp [go_sem]
  have t1 : w0.cell? ⟨w.heap.size, 1, none⟩ = some s := by subst hW; simp [go_sem]
  have hb0 : Below w.heap.size w w0 := by subst hW; exact bel_al (Below.refl _ _) _
  have z0 : w.heap.size < w0.heap.size := by subst hW; simp
  have HB := Lib.hid hb0
  clear hW hb0
  refine (moversFit_c n s l _ _ p q _ _ t0 t1 (rd_below HR.out HB.out) (rdi_below HP.out HB.out) (rdi_below HQ.out HB.out)).mono ?_; rintro e w1 ⟨rfl, hb1⟩
  have k0 := (hb1.cell (p := ⟨w.heap.size, 0, none⟩) z0).trans t0
  have k1 := (hb1.cell (p := ⟨w.heap.size, 1, none⟩) z0).trans t1
  have HB1 := Lib.hid (bel_then HB.out hb1)
  have hs1 := hb1.size
  clear t0 t1 hb1
  by_cases hok : goodMv n l p q = true
  · by_cases hlm : inB a 0 36000 = true
    · have hask : askM n l p q a = true := by unfold askM; rw [hok, hlm]; rfl
      have HASK := Lib.hid hask
      obtain ⟨g1, g2, g3, g4, g5⟩ := goodMv_true hok
      obtain ⟨m, rfl⟩ := nat_of (goodTown_true g1).1
      rw [hok]
      go_wp2_with fail
      refine (isLimit_c a _).mono ?_; rw [hlm]; rintro e w2 ⟨rfl, rfl⟩
      go_wp2_with fail
      refine (reachTable_c m s _ _ l p q a _ _ g1 g5 g2 g4 g3 k0 k1 (rd_below HR.out HB1.out) (rdi_below HP.out HB1.out) (rdi_below HQ.out HB1.out)).mono ?_; rintro e w3 ⟨v3, rfl, ho3, hb3⟩
      have HT : Hid (Tab (reachL m (arcs l) p q a)) := Lib.hid (reachL_tab g4 g3)
      have HO3 := Lib.hid ho3
      have HB3 := Lib.hid (bel_then HB1.out hb3)
      clear g1 g2 g5 hok hlm hask k0 k1 ho3 hb3
      have hlen := reachL_len m (arcs l) p q a
      obtain ⟨TB, hTB⟩ : ∃ TB, reachL m (arcs l) p q a = TB := ⟨_, rfl⟩
      rw [hTB] at hlen HT HO3
      have HTB := Lib.hid hTB
      have HLEN := Lib.hid hlen
      clear hlen hTB
      go_wp2_with fail
      obtain ⟨bb, hbb⟩ : ∃ bb, decide (blockedR TB ≠ []) = bb := ⟨_, rfl⟩
      have hc := blockedStations_c v3 TB w3 HT.out HO3.out.rd
      rw [hbb] at hc
      have HBB := Lib.hid hbb
      have HC := Lib.hid hc
      clear hbb hc
      refine HC.out.mono ?_; rintro e w4 ⟨v4, rfl, ho4, hb4⟩
      go_wp2
      go_ret2
      unfold blockedStationsV; rw [if_pos HASK.out, Int.toNat_natCast, HTB.out, HBB.out]
      exact ⟨_, rfl, own_base ho4 HB3.out.size, bel_then HB3.out hb4⟩
    · have hlm : inB a 0 36000 = false := by simpa using hlm
      have hask : ¬ (askM n l p q a = true) := by unfold askM; rw [hlm]; simp
      have HASK := Lib.hid hask
      rw [hok]
      go_wp2_with fail
      refine (isLimit_c a _).mono ?_; rw [hlm]; rintro e w2 ⟨rfl, rfl⟩
      go_wp2
      go_ret2
      unfold blockedStationsV; rw [if_neg HASK.out]
      exact ⟨_, rfl, World.ownsRow_nil _ _ _ _, HB1.out⟩
  · have hok : goodMv n l p q = false := by simpa using hok
    have hask : ¬ (askM n l p q a = true) := by unfold askM; rw [hok]; simp
    have HASK := Lib.hid hask
    rw [hok]
    go_wp2
    go_ret2
    unfold blockedStationsV; rw [if_neg HASK.out]
    exact ⟨_, rfl, World.ownsRow_nil _ _ _ _, HB1.out⟩

set_option maxRecDepth 100000 in
set_option maxHeartbeats 4000000 in
theorem blockedStationsS_c (n : Int) (s : Value) (l : List St) (v : Value) (p : List Int) (u : Value) (q : List Int) (a : Int) (w : World) (hr : Rd w s l.length (l.flatMap St.cells)) (hp : RdI w v p) (hq : RdI w u q) :
    Calls Try.prog 29 #[.agg #[.int .i64 n, s], v, u, .int .i64 a] w (OwnIB (blockedStationsV n l p q a) w) := by
  have HR := Lib.hid hr
  have HQ := Lib.hid hq
  have HP := Lib.hid hp
  obtain ⟨Au, cu, rfl, hcu, hmu, _⟩ := hq
  rw [maxLen_eq] at hmu
  clear hr hp
  go_enter Try.func29, Try.ntmps29
  go_wp2_with fail
  generalize hW : World.alloc w _ = w0
  have t0 : w0.cell? ⟨w.heap.size, 0, none⟩ = some (.int .i64 n) := by subst hW; simp [go_sem]
  have t1 : w0.cell? ⟨w.heap.size, 1, none⟩ = some s := by subst hW; simp [go_sem]
  have hb0 : Below w.heap.size w w0 := by subst hW; exact bel_al (Below.refl _ _) _
  have z0 : w.heap.size < w0.heap.size := by subst hW; simp
  have HB := Lib.hid hb0
  clear hW hb0
  go_wp2_with fail
  refine (reachTableS_c n s l _ p _ q a _ (rd_below HR.out HB.out) (rdi_below HP.out HB.out) (rdi_below HQ.out HB.out)).mono ?_; rintro e w3 ⟨v3, rfl, ho3, hb3⟩
  by_cases hask : askM n l p q a = true
  · have HASK := Lib.hid hask
    obtain ⟨hok, hlm⟩ := askM_true hask
    obtain ⟨g1, g2, g3, g4, g5⟩ := goodMv_true hok
    obtain ⟨m, rfl⟩ := nat_of (goodTown_true g1).1
    have hf : reachTableV (m : Int) l p q a = (reachL m (arcs l) p q a, true) := by unfold reachTableV; rw [if_pos hask]; rfl
    rw [hf] at ho3 ⊢
    dsimp only at ho3 ⊢
    have HT : Hid (Tab (reachL m (arcs l) p q a)) := Lib.hid (reachL_tab g4 g3)
    have HO3 := Lib.hid ho3
    have HB3 := Lib.hid (bel_then HB.out hb3)
    clear g1 g2 g5 hok hlm hask hf t0 t1 ho3 hb3
    have hlen := reachL_len m (arcs l) p q a
    obtain ⟨TB, hTB⟩ : ∃ TB, reachL m (arcs l) p q a = TB := ⟨_, rfl⟩
    rw [hTB] at hlen HT HO3
    have HTB := Lib.hid hTB
    have HLEN := Lib.hid hlen
    clear hlen hTB
    go_wp2_with fail
    have hg3 : q.length ≤ 6 := by have := HT.out.1; have := HLEN.out; omega
    go_loopw [12] (fun v12 wr => ∃ N : Nat, 1 ≤ N ∧ N ≤ q.length + 1 ∧ v12 = .int .i64 N ∧ Hid (blkN TB N (q.length + 1 - N) = blkN TB 1 q.length) ∧ Hid (Below w3.heap.size w3 wr)) (fun v12 _ => q.length + 1 - (intOf v12).toNat)
    case atStart => exact ⟨1, Nat.le_refl _, by omega, rfl, Lib.hid (by rw [Nat.add_sub_cancel]), Lib.hid (Below.refl _ _)⟩
    case round =>
      obtain ⟨N, hN1, hNq, rfl, HG, HBI⟩ := hrel
      obtain ⟨wA, rfl⟩ : ∃ wA : World, wA = wr := ⟨_, rfl⟩
      have n0 : (0 : Int) ≤ (N : Int) := by omega
      have hsA := HBI.out.size
      by_cases hlt : N ≤ q.length
      · have hG := HG.out
        rw [show q.length + 1 - N = (q.length + 1 - (N + 1)) + 1 by omega] at hG
        obtain ⟨o, ho⟩ : ∃ o, blkT TB N N 0 noneP = o := ⟨_, rfl⟩
        have hcall := mvBlocked_c _ TB HT.out N (by omega) N 0 (.slice none 0 0) (.slice none 0 0) [] [] noneP wA.heap.size wA (by simp) (Nat.zero_le _) (Nat.le_refl _) (HO3.out.rd.below HBI.out) (show wA.ownsRow wA.heap.size 3 1 (.slice none 0 0) 0 [] from World.ownsRow_nil _ _ _ _) (rdi_nil _) usedL_nil ⟨List.Pairwise.nil, fun y hy => by simp at hy⟩
        rw [ho] at hcall
        have HC := Lib.hid hcall
        have HGG := Lib.hid hG
        have HO := Lib.hid ho
        have hltz : (N : Int) ≤ (q.length : Int) := by omega
        clear hcall hG ho
        go_wp2_with fail
        refine HC.out.mono ?_; intro e w8 hp
        rcases o with _ | T
        · obtain ⟨v8, rfl, hb8⟩ := hp.no
          have HG2 : Hid (blkN TB (N + 1) (q.length + 1 - (N + 1)) = blkN TB 1 q.length) := Lib.hid (by
            rw [← HGG.out]; simp only [blkN]; rw [HO.out])
          have HB8 := Lib.hid (bel_then HBI.out hb8)
          clear hp hb8
          go_wp2
          exact ⟨⟨N + 1, by omega, by omega, by go_num, HG2, HB8⟩, by simp [intOf]; omega⟩
        · obtain ⟨v8, rfl, ho8, hb8⟩ := hp.yes
          have hF : blkN TB 1 TB.length = some T := by
            rw [HLEN.out, ← HGG.out]; simp only [blkN]; rw [HO.out]
          obtain ⟨hr1, hr2⟩ := blocked_some hF
          have HR1 := Lib.hid hr1
          have HR2 := Lib.hid hr2
          have HO8 := Lib.hid ho8
          have HB8 := Lib.hid (bel_then HBI.out hb8)
          have hs8 := HB3.out.size
          clear hp ho8 hb8 hF hr1 hr2
          go_wp2
          go_ret2
          unfold blockedStationsV; rw [if_pos HASK.out, Int.toNat_natCast, HTB.out, HR1.out, decide_eq_true HR2.out]
          exact ⟨_, rfl, own_base HO8.out (by omega), bel_then HB3.out HB8.out⟩
      · obtain rfl : N = q.length + 1 := by omega
        have hG := HG.out
        rw [Nat.sub_self] at hG
        have hF : blkN TB 1 TB.length = none := by rw [HLEN.out, ← hG]; rfl
        have HR1 := Lib.hid (blocked_none hF)
        have hltz : (q.length : Int) < ((q.length + 1 : Nat) : Int) := by omega
        clear hG hF
        go_wp2
        go_ret2
        unfold blockedStationsV; rw [if_pos HASK.out, Int.toNat_natCast, HTB.out, HR1.out]
        exact ⟨_, rfl, World.ownsRow_nil _ _ _ _, bel_then HB3.out HBI.out⟩
  · have HASK := Lib.hid hask
    have hf : reachTableV n l p q a = ([], false) := by unfold reachTableV; rw [if_neg hask]
    have HB1 := Lib.hid (bel_then HB.out hb3)
    rw [hf]
    clear ho3 hb3 hask hf t0 t1
    go_wp2
    go_ret2
    unfold blockedStationsV; rw [if_neg HASK.out]
    exact ⟨_, rfl, World.ownsRow_nil _ _ _ _, HB1.out⟩
end Go.Proofs.Ytgdigcnpjkkmfaa
