/-
  CoveredNodes and UncoveredNodes on both sides.
-/
import Derived.Test.YtgdigcnpjkkmfaaCovB
namespace Go.Proofs.Ytgdigcnpjkkmfaa
open Go.RowKit

theorem askC_true {n : Int} {l : List St} {q : List Int} {a : Int} (h : askC n l q a = true) : goodSta n l q = true ∧ inB a 0 36000 = true ∧ goodTown n l = true ∧ (∀ x ∈ q, 0 ≤ x ∧ x ≤ n - 1) ∧ q.length ≤ 6 := by
  simp only [askC, Bool.and_eq_true] at h
  have h1 := goodSta_true h.1
  exact ⟨h.1, h.2, h1.1, h1.2.1, h1.2.2⟩
theorem sep_after {W : World} {v v' u : Value} (hs : ∀ q q', v.ownBlock = some q → u.ownBlock = some q' → q ≠ q') (h5 : v'.ownBlock = v.ownBlock ∨ v'.ownBlock = some W.heap.size) (lt : ∀ q', u.ownBlock = some q' → q' < W.heap.size) : ∀ q q', v'.ownBlock = some q → u.ownBlock = some q' → q ≠ q' := by
  intro q q' h1 h2
  rcases h5 with h | h
  · exact hs q q' (h ▸ h1) h2
  · rw [h] at h1
    have := Option.some.inj h1
    have := lt q' h2
    omega
theorem sep_symm {v u : Value} (hs : ∀ q q', v.ownBlock = some q → u.ownBlock = some q' → q ≠ q') : ∀ q q', u.ownBlock = some q → v.ownBlock = some q' → q ≠ q' := fun q q' h1 h2 e => hs q' q h2 h1 e.symm
theorem kept3 {a b : World} {base : Nat} {e : TypeId} {sz : Nat} {v v' : Value} {n : Nat} {xs : List Value} (h : a.ownsRow base e sz v n xs) (g : a.grownBy b v'.ownBlock) (sep : ∀ q q', v'.ownBlock = some q → v.ownBlock = some q' → q ≠ q') : b.ownsRow base e sz v n xs :=
  h.kept g (by
    cases hv : v.ownBlock with
    | none => exact .inl rfl
    | some q => exact .inr (fun hq => sep q q hq.symm hv rfl))

/-- Two slices of the call's own. -/
def OwnII (a b : List Int) (w : World) (e : Ending) (w' : World) : Prop :=
  ∃ v u, e = .returned (.tuple #[v, u]) ∧ w'.ownsRow w.heap.size 3 1 v a.length (ints a) ∧ w'.ownsRow w.heap.size 3 1 u b.length (ints b) ∧ Below w.heap.size w w'

set_option maxRecDepth 100000 in
set_option maxHeartbeats 4000000 in
theorem cvSplit_c (n : Nat) (s v : Value) (l : List St) (q : List Int) (a : Int) (w : World) (hg : goodTown n l = true) (hq : ∀ x ∈ q, 0 ≤ x ∧ x ≤ (n : Int) - 1) (hr : Rd w s l.length (l.flatMap St.cells)) (hv : RdI w v q) :
    Calls Try.prog 85 #[.agg #[.int .i64 n, s], v, .int .i64 a] w (OwnII (covIdx (coverL n (arcs l) q) a true n) (covIdx (coverL n (arcs l) q) a false n) w) := by
  have hbx : ∀ o, Below w.heap.size w (w.alloc o) := fun o => bel_al (Below.refl _ _) o
  have hc := fun o => cvTimes_c n s v l q (w.alloc o) hg hq (rd_below hr (hbx o)) (rdi_below hv (hbx o))
  have HC := Lib.hid hc
  obtain ⟨hn1, hn2, _, _⟩ := goodTown_true hg
  obtain ⟨i0, hi, hz0, hz1, hz2⟩ := info_parts Try.infoInt
  clear hc hr hv hg hq
  go_enter Try.func85, Try.ntmps85
  go_wp2_with fail
  refine (HC.out _).mono ?_
  rintro e w5 ⟨v5, rfl, ho5, hb5⟩
  rw [coverL_len] at ho5
  obtain ⟨d, hd⟩ : ∃ d, coverL n (arcs l) q = d := ⟨_, rfl⟩
  rw [hd] at ho5
  have HD := Lib.hid hd
  obtain ⟨h, cap5, rfl, hbh, hhl, hcap5, hcm5⟩ := own_shape ho5 (by omega)
  have HO5 := Lib.hid ho5
  have HB5 : Hid (Below w.heap.size w w5) := Lib.hid (bel_then (hbx _) hb5)
  clear ho5 hb5 hd HC
  go_wp2_with fail
  go_loopw [8, 9, 16] (fun v8 v9 v16 wr => ∃ (k : Nat), k ≤ n ∧ v16 = .int .i64 k ∧ Hid (wr.ownsRow w5.heap.size 3 1 v8 (covIdx d a true k).length (ints (covIdx d a true k))) ∧ Hid (wr.ownsRow w5.heap.size 3 1 v9 (covIdx d a false k).length (ints (covIdx d a false k))) ∧ Hid (∀ q q', v8.ownBlock = some q → v9.ownBlock = some q' → q ≠ q') ∧ Hid (Below w5.heap.size w5 wr)) (fun _ _ v16 _ => n - (intOf v16).toNat)
  case atStart => exact ⟨0, Nat.zero_le _, rfl, Lib.hid (show w5.ownsRow w5.heap.size 3 1 (.slice none 0 0) 0 [] from World.ownsRow_nil _ _ _ _), Lib.hid (show w5.ownsRow w5.heap.size 3 1 (.slice none 0 0) 0 [] from World.ownsRow_nil _ _ _ _), Lib.hid (fun q q' h => by cases h), Lib.hid (Below.refl _ _)⟩
  case round =>
    obtain ⟨k, hk, rfl, HOW, HOU, HSEP, HBL⟩ := hrel
    obtain ⟨wA, rfl⟩ : ∃ wA : World, wA = wr := ⟨_, rfl⟩
    by_cases hlt : k < n
    · have ce := (HBL.out.cell (p := ⟨h, k, none⟩) hhl).trans (own_cell HO5.out hlt)
      have hcl := covIdx_len d a true k
      have hcf := covIdx_len d a false k
      obtain ⟨x, hx⟩ : ∃ x, d.getD k 0 = x := ⟨_, rfl⟩
      obtain ⟨L, hL⟩ : ∃ L, covIdx d a true k = L := ⟨_, rfl⟩
      obtain ⟨M, hM⟩ : ∃ M, covIdx d a false k = M := ⟨_, rfl⟩
      rw [hx] at ce
      rw [hL] at HOW hcl
      rw [hM] at HOU hcf
      have HX := Lib.hid hx
      have HL := Lib.hid hL
      have HM := Lib.hid hM
      clear hx hL hM
      by_cases hyes : inB x 0 a = true
      · have HY : Hid (covIdx d a true (k + 1) = L ++ [(k : Int)]) := Lib.hid (by rw [covIdx_yes (by rw [HX.out]; exact hyes), HL.out])
        have HN : Hid (covIdx d a false (k + 1) = M) := Lib.hid (by rw [covIdx_no (by rw [HX.out, hyes]; simp), HM.out])
        go_wp2_with (first | (go_at_call 80; refine (l1In_c _ _ _ _).mono ?_; rw [hyes]; rintro e w' ⟨rfl, rfl⟩) | (at_builtin; refine wpList_app_rd _ rfl _ _ 25 rfl w5.heap.size 3 i0 (.int .i64 0) 1 8 Try.underlying25 hi hz0 hz1 hz2 rfl (by decide) _ _ _ rfl (HOW.out.alloc _) _ 1 [.int .i64 k] rfl (rd_new _ rfl (Nat.le_refl _) (by rw [maxLen_eq]; omega)) rfl (ints_one [(k : Int)]) (by rw [maxLen_eq]; omega) (by omega) (by have := HBL.out.size; simp; omega) ?_; intro v' w7 hown' hgrow hat))
        refine ⟨⟨k + 1, by omega, by go_num, Lib.hid ?_, Lib.hid ?_, Lib.hid ?_, Lib.hid (bel_grown (bel_al HBL.out _) hgrow (fun q e => (HOW.out.lt q e).1))⟩, by simp [intOf]; omega⟩
        · rw [HY.out, ints_append, List.length_append]; exact hown'
        · rw [HN.out]; exact kept3 (HOU.out.alloc _) hgrow HSEP.out
        · exact sep_after HSEP.out hat (fun q' e => by have := (HOU.out.lt q' e).2; simp; omega)
      · have hno : inB x 0 a = false := by simpa using hyes
        have HY : Hid (covIdx d a false (k + 1) = M ++ [(k : Int)]) := Lib.hid (by rw [covIdx_yes (by rw [HX.out]; exact hno), HM.out])
        have HN : Hid (covIdx d a true (k + 1) = L) := Lib.hid (by rw [covIdx_no (by rw [HX.out, hno]; simp), HL.out])
        clear hyes
        go_wp2_with (first | (go_at_call 80; refine (l1In_c _ _ _ _).mono ?_; rw [hno]; rintro e w' ⟨rfl, rfl⟩) | (at_builtin; refine wpList_app_rd _ rfl _ _ 25 rfl w5.heap.size 3 i0 (.int .i64 0) 1 8 Try.underlying25 hi hz0 hz1 hz2 rfl (by decide) _ _ _ rfl (HOU.out.alloc _) _ 1 [.int .i64 k] rfl (rd_new _ rfl (Nat.le_refl _) (by rw [maxLen_eq]; omega)) rfl (ints_one [(k : Int)]) (by rw [maxLen_eq]; omega) (by omega) (by have := HBL.out.size; simp; omega) ?_; intro v' w7 hown' hgrow hat))
        refine ⟨⟨k + 1, by omega, by go_num, Lib.hid ?_, Lib.hid ?_, Lib.hid ?_, Lib.hid (bel_grown (bel_al HBL.out _) hgrow (fun q e => (HOU.out.lt q e).1))⟩, by simp [intOf]; omega⟩
        · rw [HN.out]; exact kept3 (HOW.out.alloc _) hgrow (sep_symm HSEP.out)
        · rw [HY.out, ints_append, List.length_append]; exact hown'
        · exact sep_symm (sep_after (sep_symm HSEP.out) hat (fun q' e => by have := (HOW.out.lt q' e).2; simp; omega))
    · obtain rfl : k = n := by omega
      go_wp2
      go_ret2
      refine ⟨_, _, rfl, ?_, ?_, bel_then HB5.out HBL.out⟩
      · rw [HD.out]; exact own_base HOW.out HB5.out.size
      · rw [HD.out]; exact own_base HOU.out HB5.out.size

def coveredNodesW (m : Nat) (l : List St) (q : List Int) (a : Int) : List Int × Bool := (covIdx (coverL m (arcs l) q) a true m, true)
def coveredNodesV (n : Int) (l : List St) (q : List Int) (a : Int) : List Int × Bool := if askC n l q a = true then coveredNodesW n.toNat l q a else ([], false)
theorem coveredNodesV_len (n : Int) (l : List St) (q : List Int) (a : Int) : (coveredNodesV n l q a).1.length ≤ 1000000 := by
  unfold coveredNodesV
  split
  · rename_i h
    have h1 := goodTown_true (askC_true h).2.2.1
    have h2 := covIdx_len (coverL n.toNat (arcs l) q) a true n.toNat
    unfold coveredNodesW
    dsimp only
    omega
  · simp
set_option maxRecDepth 100000 in
set_option maxHeartbeats 1000000 in
theorem coveredNodesS_c (n : Int) (s : Value) (l : List St) (v : Value) (q : List Int) (a : Int) (w : World) (hr : Rd w s l.length (l.flatMap St.cells)) (hq : RdI w v q) :
    Calls Try.prog 61 #[.agg #[.int .i64 n, s], v, .int .i64 a] w (OwnIB (coveredNodesV n l q a) w) := by
  have HR := Lib.hid hr
  have HQ := Lib.hid hq
  clear hr hq
  have hbx : ∀ o, Below w.heap.size w (w.alloc o) := fun o => bel_al (Below.refl _ _) o
  by_cases hok : askC n l q a = true
  · have hk := askC_true hok
    obtain ⟨hok1, hlim, hg, hqm, hq6⟩ := hk
    obtain ⟨hlim0, hlim1⟩ := inB_true hlim
    obtain ⟨m, rfl⟩ := nat_of (goodTown_true hg).1
    have HF : Hid (coveredNodesV m l q a = coveredNodesW m l q a) := Lib.hid (by unfold coveredNodesV; rw [if_pos hok, Int.toNat_natCast])
    obtain ⟨hm1, hm2, _, _⟩ := goodTown_true hg
    have HG := Lib.hid hg
    have HM := Lib.hid hqm
    have HOK := Lib.hid hok
    have HOK1 := Lib.hid hok1
    have HLIM := Lib.hid hlim
    clear hok1 hlim
    clear hg hqm hok
    go_enter Try.func61, Try.ntmps61
    go_wp2_with fail
    generalize hw1 : World.alloc w _ = w1
    have k0 : w1.cell? ⟨w.heap.size, 0, none⟩ = some (.int .i64 m) := by subst hw1; simp [go_sem]
    have k1 : w1.cell? ⟨w.heap.size, 1, none⟩ = some s := by subst hw1; simp [go_sem]
    have hb1 : Below w.heap.size w w1 := by subst hw1; exact hbx _
    have hz : w.heap.size < w1.heap.size := by subst hw1; simp
    clear hw1 hbx
    refine (cvAsked_c m s l _ q a _ (rd_below HR.out hb1) (rdi_below HQ.out hb1)).mono ?_; rw [HOK.out]; rintro e w2 ⟨rfl, hb2⟩
    have hb12 := bel_then hb1 hb2
    have hz2 : w.heap.size < w2.heap.size := Nat.lt_of_lt_of_le hz hb2.size
    have z0 := (hb2.cell (p := ⟨w.heap.size, 0, none⟩) hz).trans k0
    have z1 := (hb2.cell (p := ⟨w.heap.size, 1, none⟩) hz).trans k1
    have HR2 := Lib.hid (rd_below HR.out hb12)
    have HQ2 := Lib.hid (rdi_below HQ.out hb12)
    have HB := Lib.hid hb12
    clear k0 k1 hb1 hb2 hz hb12
    go_wp2_with fail
    refine (cvSplit_c m s _ l q a _ HG.out HM.out HR2.out HQ2.out).mono ?_; rintro e w3 ⟨x, y, rfl, ho, ho', hb3⟩
    go_wp2
    go_ret2
    rw [HF.out]
    exact ⟨_, rfl, own_base ho HB.out.size, bel_then HB.out hb3⟩
  · have hok : askC n l q a = false := by simpa using hok
    have HF : Hid (coveredNodesV n l q a = ([], false)) := Lib.hid (by unfold coveredNodesV; rw [hok]; rfl)
    go_enter Try.func61, Try.ntmps61
    go_wp2_with (go_at_call 84; refine (cvAsked_c n s l _ q a _ (rd_below HR.out (hbx _)) (rdi_below HQ.out (hbx _))).mono ?_; rw [hok]; rintro e w' ⟨rfl, hb1⟩)
    go_ret2
    rw [HF.out]
    exact ⟨_, rfl, World.ownsRow_nil _ _ _ _, bel_then (hbx _) hb1⟩
def uncoveredNodesW (m : Nat) (l : List St) (q : List Int) (a : Int) : List Int × Bool := (covIdx (coverL m (arcs l) q) a false m, true)
def uncoveredNodesV (n : Int) (l : List St) (q : List Int) (a : Int) : List Int × Bool := if askC n l q a = true then uncoveredNodesW n.toNat l q a else ([], false)
theorem uncoveredNodesV_len (n : Int) (l : List St) (q : List Int) (a : Int) : (uncoveredNodesV n l q a).1.length ≤ 1000000 := by
  unfold uncoveredNodesV
  split
  · rename_i h
    have h1 := goodTown_true (askC_true h).2.2.1
    have h2 := covIdx_len (coverL n.toNat (arcs l) q) a false n.toNat
    unfold uncoveredNodesW
    dsimp only
    omega
  · simp
end Go.Proofs.Ytgdigcnpjkkmfaa
