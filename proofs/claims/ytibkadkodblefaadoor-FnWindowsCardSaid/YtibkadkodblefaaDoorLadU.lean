/-
  impl.fewestPlaces: the sets of windows as words, and the search for the fewest places.
-/
import Derived.Test.YtibkadkodblefaaDoorLadV
import Derived.Test.YtibkadkodblefaaDoorLadF
import Derived.Test.YtibkadkodblefaaDoorGro
import Derived.OneCell
namespace Go.Proofs.YtibkadkodblefaaDoor
open Go.RowKit Go.Maps

/-- The word of a list of numbers. -/
def maskL (S : List Int) : Nat := S.foldl (fun r i => r ||| 2 ^ i.toNat) 0
theorem maskL_snoc {S : List Int} {k : Nat} {x : Nat} (h : S[k]? = some (x : Int)) : maskL (S.take (k + 1)) = maskL (S.take k) ||| 2 ^ x := by
  unfold maskL; rw [take_succ_of h, List.foldl_append]; simp
theorem mask_fold : ∀ (S : List Int) (r : Nat), (∀ y ∈ S, ∃ i : Nat, y = (i : Int)) → ∀ i, (S.foldl (fun r i => r ||| 2 ^ i.toNat) r).testBit i = (r.testBit i || decide ((i : Int) ∈ S)) := by
  intro S
  induction S with
  | nil => intro r _ i; simp
  | cons y S ih =>
    intro r h i
    obtain ⟨x, rfl⟩ := h y (by simp)
    rw [List.foldl_cons, ih _ (fun z hz => h z (by simp [hz])), Nat.testBit_or, Int.toNat_natCast, Nat.testBit_two_pow, Bool.or_assoc]
    congr 1
    by_cases e : x = i
    · subst e; simp
    · have : ((i : Int) ∈ (x : Int) :: S) ↔ (i : Int) ∈ S := by
        rw [List.mem_cons]
        exact ⟨fun h => h.elim (fun h => absurd (by omega) e) id, .inr⟩
      simp only [this, decide_eq_false e, Bool.false_or]
theorem maskL_of (P : Nat → Bool) (n : Nat) : MaskOf n P (maskL (selD P n)) := fun i => by
  unfold maskL
  rw [mask_fold _ _ (fun y hy => by obtain ⟨j, rfl, _⟩ := selD_mem hy; exact ⟨j, rfl⟩), Nat.zero_testBit, Bool.false_or, Bool.eq_iff_iff]
  simp only [decide_eq_true_eq, Bool.and_eq_true]
  exact selD_in
theorem maskL_lt {S : List Int} {n : Nat} (h : ∀ y ∈ S, ∃ i : Nat, y = (i : Int) ∧ i < n) : maskL S < 2 ^ n := by
  refine Nat.lt_pow_two_of_testBit _ (fun i hi => ?_)
  unfold maskL
  rw [mask_fold _ _ (fun y hy => by obtain ⟨j, rfl, _⟩ := h y hy; exact ⟨j, rfl⟩), Nat.zero_testBit, Bool.false_or]
  refine decide_eq_false (fun hm => ?_)
  obtain ⟨j, e, hj⟩ := h _ hm
  omega
noncomputable def mskF (F : Pts) (wall : Int) (ws : List Wn) (k : Nat) : Nat := maskL (selD (winP F wall (50 * (k : Int)) ws) ws.length)
noncomputable def mskL (F : Pts) (wall : Int) (ws : List Wn) (k : Nat) : List Nat := (List.range k).map (mskF F wall ws)
theorem mskL_snoc (F : Pts) (wall : Int) (ws : List Wn) (k : Nat) : mskL F wall ws (k + 1) = mskL F wall ws k ++ [mskF F wall ws k] := by
  unfold mskL; rw [List.range_succ, List.map_append]; rfl
theorem mskL_len (F : Pts) (wall : Int) (ws : List Wn) (k : Nat) : (mskL F wall ws k).length = k := by simp [mskL]
theorem mskL_get {F : Pts} {wall : Int} {ws : List Wn} {n k : Nat} (h : k < n) : (mskL F wall ws n).getD k 0 = mskF F wall ws k := by
  unfold mskL; simp [List.getD, h]
theorem mskF_lt {F : Pts} {wall : Int} {ws : List Wn} (h : ws.length ≤ 12) (k : Nat) : mskF F wall ws k < 4096 := by
  have h1 : mskF F wall ws k < 2 ^ ws.length := maskL_lt (fun y hy => by obtain ⟨j, rfl, hj, _⟩ := selD_mem hy; exact ⟨j, rfl, hj⟩)
  have h2 : 2 ^ ws.length ≤ 2 ^ 12 := Nat.pow_le_pow_right (by omega) h
  omega
theorem natI_append (a b : List Nat) : natI (a ++ b) = natI a ++ natI b := by simp [natI]
theorem firstSome_succ_none {f : Nat → Option (List Int)} {n : Nat} (h : firstSome f n = none) : firstSome f (n + 1) = f n := by simp only [firstSome]; rw [h]
theorem firstSome_more {f : Nat → Option (List Int)} {T : List Int} : ∀ {n m : Nat}, n ≤ m → firstSome f n = some T → firstSome f m = some T := by
  intro n m
  induction m with
  | zero => intro h hs; obtain rfl : n = 0 := by omega
            exact hs
  | succ m ih =>
    intro h hs
    by_cases e : n = m + 1
    · rw [← e]; exact hs
    · simp only [firstSome]; rw [ih (by omega) hs]

theorem oneG {a b : World} {r : Option Nat} {B : Nat} {o : Obj} (h : a.heap[B]? = some o) (g : a.grownBy b r) (hne : ∀ q, r = some q → B ≠ q) : b.heap[B]? = some o :=
  (g.block B (Array.getElem?_eq_some_iff.1 h).1 (fun e => hne B e.symm rfl)).trans h
theorem oneB {a b : World} {B : Nat} {o : Obj} (h : a.heap[B]? = some o) (g : Below a.heap.size a b) : b.heap[B]? = some o := (g.block B (Array.getElem?_eq_some_iff.1 h).1).trans h
set_option maxRecDepth 100000 in
set_option maxHeartbeats 2000000 in
theorem fewestPlaces_c (B n : Nat) (D : DataW Unit) (F : Pts) (wall : Int) (v : Value) (ws : List Wn) (w : World) (hM : w.ownsMap Tryd.prog 76 (plainElem (H := Unit) Tryd.prog 3) B n D) (hD : PtsD D F) (hw : 0 ≤ wall ∧ wall ≤ 200) (hl : wnOk ws = true) (hr : Rd w v ws.length (ws.flatMap Wn.cells)) :
    Calls Tryd.prog 81 #[.map (some B), .int .i64 wall, v] w (OwnIB (optL (firstSome (fun n => srchS (mskL F wall ws 13) (2 ^ ws.length - 1) n 0 0) 4)) w) := by
  obtain ⟨A, c, rfl, hc, hm, hr1⟩ := id hr
  rw [maxLen_eq] at hm
  obtain ⟨hWN, hl12⟩ := wnOk_true hl
  have HR := Lib.hid hr
  have HL := Lib.hid hl
  have HM := Lib.hid hM
  have HD := Lib.hid hD
  have EG := Lib.hid (show ∀ args w, (callFunc 94 args).run Tryd.prog w = .ok (.enter 94 args) w from enters_of Tryd.func94 (by kernel_rfl) rfl)
  obtain ⟨i0, hi, hz0, hz1, hz2⟩ := info_parts Tryd.infoInt
  have hLT := mskF_lt (F := F) (wall := wall) hl12
  have HLT := Lib.hid hLT
  obtain ⟨pw, hpw⟩ : ∃ pw : Nat, 2 ^ ws.length = pw := ⟨_, rfl⟩
  have hp1 : 1 ≤ pw := by rw [← hpw]; exact Nat.two_pow_pos _
  have hp7 : pw ≤ 4096 := by rw [← hpw]; exact Nat.le_trans (Nat.pow_le_pow_right (by omega) hl12) (by decide)
  have eL : IntKind.i64.wrap ((2 : Int) ^ ws.length) = (pw : Int) := by
    have : (2 : Int) ^ ws.length = (pw : Int) := by rw [← hpw, Int.natCast_pow]; rfl
    rw [this, IntKind.wrap_i64]; omega
  obtain ⟨all, hall⟩ : ∃ all : Nat, pw - 1 = all := ⟨_, rfl⟩
  have eA : (pw : Int) - 1 = (all : Int) := by omega
  have hallb : all < 16384 := by omega
  have E1 := Lib.hid eL
  have E2 := Lib.hid eA
  obtain ⟨G, hG⟩ : ∃ G : Nat → Option (List Int), G = fun n => srchS (mskL F wall ws 13) all n 0 0 := ⟨_, rfl⟩
  have HGE : Hid (∀ n, G n = srchS (mskL F wall ws 13) all n 0 0) := Lib.hid (fun n => by rw [hG])
  have hgoal : (fun n => srchS (mskL F wall ws 13) (2 ^ ws.length - 1) n 0 0) = G := by rw [hG, hpw, hall]
  rw [hgoal]
  clear hr hWN hM hD hl hr1 hLT hpw eL eA hG hgoal hall
  go_enter Tryd.func81, Tryd.ntmps81
  go_wp2_with fail
  generalize hW : World.alloc w _ = w1
  have hbs : w1.heap[w.heap.size]? = some (.cells #[.slice none 0 0] 22 (0, 0)) := by subst hW; exact heap_alloc_new w _
  have HB1 : Hid (Below w.heap.size w w1) := Lib.hid (by subst hW; exact bel_al (Below.refl _ _) _)
  have hz1' : w.heap.size < w1.heap.size := by subst hW; simp
  have HBS := Lib.hid hbs
  clear hW hbs
  go_loopw [9] (fun v9 wr => ∃ (k c2 : Nat) (A2 : Option Addr), k ≤ 13 ∧ v9 = .int .i64 (50 * (k : Int)) ∧ Hid (wr.heap[w.heap.size]? = some (.cells #[.slice A2 k c2] 22 (0, 0))) ∧ Hid (wr.ownsRow w1.heap.size 3 1 (.slice A2 k c2) k (ints (natI (mskL F wall ws k)))) ∧ Hid (Below w.heap.size w wr) ∧ w1.heap.size ≤ wr.heap.size) (fun v9 _ => (700 - intOf v9).toNat)
  case atStart => exact ⟨0, 0, none, Nat.zero_le _, rfl, HBS, Lib.hid (World.ownsRow_nil _ _ _ _), HB1, Nat.le_refl _⟩
  case round =>
    obtain ⟨k, c2, A2, hk, rfl, HBN, HOW, HBL, hsz⟩ := hrel
    obtain ⟨wA, rfl⟩ : ∃ wA : World, wA = wr := ⟨_, rfl⟩
    by_cases hlt : k < 13
    · have hle : 50 * (k : Int) ≤ 600 := by omega
      have eK : IntKind.i64.wrap (50 * (k : Int) + 50) = 50 * ((k + 1 : Nat) : Int) := by rw [IntWalk.i64_in _ (by omega)]; omega
      have HI : Hid ((700 - intOf (.int .i64 (50 * ((k + 1 : Nat) : Int)))).toNat < (700 - intOf (.int .i64 (50 * (k : Int)))).toNat) := Lib.hid (by simp [intOf]; omega)
      have HI1 : Hid (k + 1 ≤ 13) := Lib.hid (by omega)
      obtain ⟨S, hS⟩ : ∃ S, selD (winP F wall (50 * (k : Int)) ws) ws.length = S := ⟨_, rfl⟩
      have hSm : ∀ y ∈ S, ∃ i : Nat, y = (i : Int) ∧ i < 12 := fun y hy => by
        rw [← hS] at hy
        obtain ⟨j, rfl, hj, _⟩ := selD_mem hy
        exact ⟨j, rfl, by omega⟩
      have hSl : S.length ≤ 12 := by rw [← hS]; exact Nat.le_trans (selD_len _ _) hl12
      have HMK : Hid (mskF F wall ws k = maskL S) := Lib.hid (by unfold mskF; rw [hS])
      have HSM := Lib.hid hSm
      go_wp2_with fail
      have hrf := reachedFrom_c B n D F wall (50 * (k : Int)) _ ws _ (ownsMap_bel HM.out HBL.out) HD.out hw (by omega) HL.out (rd_below HR.out HBL.out)
      rw [hS] at hrf
      refine hrf.mono ?_; rintro e w5 ⟨v5, rfl, ho5, hb5⟩
      have HO5 := Lib.hid ho5
      have hs5 := hb5.size
      have HBN5 : Hid (w5.heap[w.heap.size]? = some (.cells #[.slice A2 k c2] 22 (0, 0))) := Lib.hid ((hb5.block w.heap.size (by omega)).trans HBN.out)
      have HOW5 := Lib.hid (own_below HOW.out hb5)
      have HBL5 := Lib.hid (bel_then HBL.out hb5)
      have IW := Lib.hid HOW5.out.lt
      obtain ⟨A5, c5, hx5, _, hc5, hcl5⟩ := own_rd HO5.out
      subst hx5
      rw [maxLen_eq] at hc5
      have HCL := Lib.hid hcl5
      clear ho5 hb5 hrf hS hSm hcl5
      go_wp2_with fail
      go_loopw [10, 28] (fun v10 v28 wr2 => ∃ (j M : Nat), j ≤ S.length ∧ v28 = .int .i64 j ∧ v10 = .int .i64 M ∧ M < 4096 ∧ Hid (maskL (S.take j) = M) ∧ wr2 = w5) (fun _ v28 _ => S.length - (intOf v28).toNat)
      case atStart => exact ⟨0, 0, Nat.zero_le _, rfl, rfl, by omega, Lib.hid rfl, rfl⟩
      case round =>
        obtain ⟨j, M, hj, rfl, rfl, hM4, HMM, rfl⟩ := hrel
        by_cases hjl : j < S.length
        · obtain ⟨g, off, rfl, hgl, hcell⟩ := HCL.out (by omega)
          obtain ⟨x, hx⟩ : ∃ x, S[j]? = some x := ⟨_, List.getElem?_eq_getElem hjl⟩
          obtain ⟨xn, rfl, hx12⟩ := HSM.out x (List.mem_of_getElem? hx)
          have ce := hcell _ _ (ints_get hx)
          obtain ⟨b, hb⟩ : ∃ b : Nat, 2 ^ xn = b := ⟨_, rfl⟩
          have hb4 : b < 4096 := by
            have : 2 ^ xn ≤ 2 ^ 11 := Nat.pow_le_pow_right (by omega) (by omega)
            omega
          have e1 : IntKind.i64.wrap ((2 : Int) ^ xn) = (b : Int) := by
            have : (2 : Int) ^ xn = (b : Int) := by rw [← hb, Int.natCast_pow]; rfl
            rw [this, IntKind.wrap_i64]; omega
          obtain ⟨M2, hM2⟩ : ∃ M2, M ||| b = M2 := ⟨_, rfl⟩
          have hM24 : M2 < 4096 := by rw [← hM2]; exact Nat.or_lt_two_pow (n := 12) hM4 hb4
          have e3 : bits .or .i64 (M : Int) (b : Int) = (M2 : Int) := by rw [bits_or_i64_nat M b (by omega) (by omega), hM2]
          have HMK2 : Hid (maskL (S.take (j + 1)) = M2) := Lib.hid (by rw [maskL_snoc hx, HMM.out, hb, hM2])
          have q0 : (0 : Int) ≤ (j : Int) := Int.natCast_nonneg _
          have q1 : (j : Int) < (S.length : Int) := by omega
          have q2 : (0 : Int) ≤ (xn : Int) := Int.natCast_nonneg _
          have q3 : (xn : Int) ≤ 64 := by omega
          clear hx hcell hb hM2
          go_wp2_with fail
          exact ⟨⟨j + 1, M2, by omega, by go_num, rfl, hM24, HMK2, (by first | rfl | trivial)⟩, by simp [intOf]; omega⟩
        · obtain rfl : j = S.length := by omega
          have hMF : mskF F wall ws k = M := by rw [HMK.out, ← HMM.out, List.take_length]
          have HSN : Hid (natI (mskL F wall ws (k + 1)) = natI (mskL F wall ws k) ++ [(M : Int)]) := Lib.hid (by rw [mskL_snoc, natI_append, hMF]; rfl)
          have c5 := cell_of_one HBN5.out
          have hnl : (natI (mskL F wall ws k)).length = k := by rw [natI_len, mskL_len]
          have hg5 : w.heap.size < wr.heap.size := by omega
          clear hMF
          go_wp2_with (at_builtin; refine wpList_app_rd _ rfl _ _ 22 rfl w1.heap.size 3 i0 (.int .i64 0) 1 8 Tryd.underlying22 hi hz0 hz1 hz2 rfl (by decide) _ _ _ rfl (HOW5.out.alloc _) _ 1 [.int .i64 M] rfl (rd_new _ rfl (Nat.le_refl _) (by rw [maxLen_eq]; omega)) rfl (ints_one [(M : Int)]) (by rw [maxLen_eq]; omega) (by omega) (by simp; omega) ?_; intro v' w7 hown' hgrow hat; obtain ⟨A', c', hx', _⟩ := own_rd hown'; subst hx'; have hb7 := oneG (oneB HBN5.out (bel_al (Below.refl _ _) _)) hgrow (fun q e => by have := (IW.out q e).1; omega); have c7 := cell_of_one hb7; have f7 := free_of_one hb7)
          have hs7 := hgrow.size
          have hB7 : Below w.heap.size w w7 := bel_grown (bel_al HBL5.out _) hgrow (fun q e => by have := (IW.out q e).1; omega)
          refine ⟨⟨k + 1, c', A', HI1.out, by first | rfl | go_num, Lib.hid (one_setCell hb7), Lib.hid ?_, Lib.hid (Below.setCell (p := ⟨w.heap.size, 0, none⟩) hB7 (Nat.le_refl _) _), by simp at hs7 ⊢; omega⟩, HI.out⟩
          rw [HSN.out, ints_append]
          exact ownsRow_setCell_other hown' (fun e => by have := (hown'.lt _ e).1; simp at this; omega) _
    · obtain rfl : k = 13 := by omega
      have hnl : (natI (mskL F wall ws 13)).length = 13 := by rw [natI_len, mskL_len]
      have hrd : RdI wA (.slice A2 13 c2) (natI (mskL F wall ws 13)) := by unfold RdI; rw [hnl]; exact own_rd HOW.out
      obtain ⟨SS, hSS⟩ : ∃ SS, mskL F wall ws 13 = SS := ⟨_, rfl⟩
      have hSL : SS.length = 13 := by rw [← hSS, mskL_len]
      have hST : ∀ i, SS.getD i 0 < 16384 := fun i => by
        rcases Nat.lt_or_ge i 13 with h | h
        · rw [← hSS, mskL_get h]; have := HLT.out i; omega
        · rw [List.getD_eq_getElem?_getD, List.getElem?_eq_none (by omega)]; simp
      rw [hSS] at hrd HGE
      have HRD := Lib.hid hrd
      have HSL := Lib.hid hSL
      have HST := Lib.hid hST
      have e1 := E1.out
      have e2 := E2.out
      have hz13 : ¬ (50 * (13 : Int)) ≤ 600 := by omega
      have q3 : (ws.length : Int) ≤ 64 := by omega
      clear HOW hnl hrd hSS hSL hST
      go_wp2_with fail
      generalize hWS : World.alloc (World.alloc wA _) _ = wS
      have y0 : wS.cell? ⟨wA.heap.size, 0, none⟩ = some (.int .i64 all) := by subst hWS; simp [go_sem]
      have y2 : wS.cell? ⟨wA.heap.size + 1, 0, none⟩ = some (srchF wA.heap.size w.heap.size (wA.heap.size + 1)) := by subst hWS; simp [go_sem, srchF]
      have hwA : w.heap.size < wA.heap.size := by omega
      have y1 : wS.cell? ⟨w.heap.size, 0, none⟩ = some (.slice A2 13 c2) := by
        subst hWS
        rw [World.cell?_alloc_lt _ _ _ (by show w.heap.size < _; simp; omega), World.cell?_alloc_lt _ _ _ (by show w.heap.size < _; omega)]
        exact cell_of_one HBN.out
      have hzS : wA.heap.size + 1 < wS.heap.size := by subst hWS; simp
      have HBS2 : Hid (Below wA.heap.size wA wS) := Lib.hid (by subst hWS; exact bel_al (bel_al (Below.refl _ _) _) _)
      have HRS := Lib.hid (rdi_below HRD.out HBS2.out)
      have Y0 := Lib.hid y0
      have Y1 := Lib.hid y1
      have Y2 := Lib.hid y2
      have HBW : Hid (Below w.heap.size w wS) := Lib.hid (bel_then HBL.out HBS2.out)
      have eg : ∀ args w, (callFunc 94 args).run Tryd.prog w = .ok (.enter 94 args) w := EG.out
      clear hWS y0 y1 y2 e1 e2
      go_loopw [46] (fun v7 wr => ∃ (k : Nat), k ≤ 4 ∧ v7 = .int .i64 k ∧ Hid (firstSome G k = none) ∧ Hid (Below wS.heap.size wS wr)) (fun v7 _ => 4 - (intOf v7).toNat)
      case atStart => exact ⟨0, by omega, rfl, Lib.hid rfl, Lib.hid (Below.refl _ _)⟩
      case round =>
        obtain ⟨k, hk4, rfl, HK, HBX⟩ := hrel
        obtain ⟨wC, rfl⟩ : ∃ wC : World, wC = wr := ⟨_, rfl⟩
        by_cases hk : k < 4
        · have x0 := (HBX.out.cell (p := ⟨wA.heap.size, 0, none⟩) (by show wA.heap.size < _; omega)).trans Y0.out
          have x1 := (HBX.out.cell (p := ⟨w.heap.size, 0, none⟩) (by show w.heap.size < _; omega)).trans Y1.out
          have x2 := (HBX.out.cell (p := ⟨wA.heap.size + 1, 0, none⟩) (by show wA.heap.size + 1 < _; omega)).trans Y2.out
          have hc := searchI_c wA.heap.size w.heap.size (wA.heap.size + 1) SS all c2 A2 hallb HST.out (by rw [HSL.out]; omega) k 0 0 wC (by omega) (Nat.zero_le _) (by omega) x0 (by rw [HSL.out]; exact x1) (by rw [HSL.out]; exact rdi_below HRS.out HBX.out) x2
          rw [← HGE.out k] at hc
          unfold srchF at x2
          cases hR : G k with
          | some r =>
            rw [hR] at hc
            have hc2 : Calls Tryd.prog 94 #[.int .i64 (0 : Nat), .int .i64 k, .int .i64 (0 : Nat), .pointer (some ⟨wA.heap.size, 0, none⟩), .pointer (some ⟨w.heap.size, 0, none⟩), .pointer (some ⟨wA.heap.size + 1, 0, none⟩)] wC (OwnIB (r, true) wC) := hc
            have HC := Lib.hid hc2
            have HV : Hid (firstSome G 4 = some r) := Lib.hid (firstSome_more (show k + 1 ≤ 4 by omega) (by rw [firstSome_succ_none HK.out]; exact hR))
            clear hc hc2 hR x0 x1
            go_wp2_with fail
            refine HC.out.mono ?_; intro e w9 hh; obtain ⟨x9, rfl, ho9, hb9⟩ := ownIB_open hh; clear hh
            have HO9 := Lib.hid ho9
            have HB9 := Lib.hid (bel_then HBX.out hb9)
            have hsb := HBW.out.size
            have hsl := HBX.out.size
            clear ho9 hb9
            go_wp2
            go_ret2
            rw [HV.out]
            exact ⟨_, rfl, own_base HO9.out (by omega), bel_then HBW.out HB9.out⟩
          | none =>
            rw [hR] at hc
            have hc2 : Calls Tryd.prog 94 #[.int .i64 (0 : Nat), .int .i64 k, .int .i64 (0 : Nat), .pointer (some ⟨wA.heap.size, 0, none⟩), .pointer (some ⟨w.heap.size, 0, none⟩), .pointer (some ⟨wA.heap.size + 1, 0, none⟩)] wC (OwnIB ([], false) wC) := hc
            have HC := Lib.hid hc2
            have HK' : Hid (firstSome G (k + 1) = none) := Lib.hid (by rw [firstSome_succ_none HK.out]; exact hR)
            clear hc hc2 hR x0 x1
            go_wp2_with fail
            refine HC.out.mono ?_; intro e w9 hh; obtain ⟨x9, rfl, ho9, hb9⟩ := ownIB_open hh; clear hh
            have HB9 := Lib.hid (bel_then HBX.out hb9)
            clear ho9 hb9 x2
            go_wp2
            exact ⟨⟨k + 1, by omega, by go_num, HK', HB9⟩, by simp [intOf]; omega⟩
        · obtain rfl : k = 4 := by omega
          go_wp2
          go_ret2
          rw [HK.out]
          exact ⟨_, rfl, World.ownsRow_nil _ _ _ _, bel_then HBW.out HBX.out⟩
end Go.Proofs.YtibkadkodblefaaDoor
