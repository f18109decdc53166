/-
  Sets of nodes as bits of a number; the reference's table of reached nodes. The fewest stations that cover all: both sides' search, in plain words, and that they find the same. BestFurther on both sides. BestFurther on the reference's side. (joined by pack.py: Bits Few CovH CovH2)
-/
import Derived.Test.YtahehdgkbhjpoaaK9
import Derived.Test.YtahehdgkbhjpoaaK10
import Derived.Laws.Bits64b
import Derived.Outline
namespace Go.Proofs.Ytahehdgkbhjpoaa
set_option linter.unusedVariables false
set_option linter.unusedSimpArgs false
open Go.RowKit

/-- Whether node i is reached from node n. -/
def reachP (m : Nat) (ar : List Arc) (a : Int) (n i : Nat) : Bool := inB ((distT m ar n).getD i 0) 0 a
def reachM (m : Nat) (ar : List Arc) (a : Int) (n : Nat) : Nat := maskP (reachP m ar a n) m
def reachL (m : Nat) (ar : List Arc) (a : Int) : List Int := (List.range m).map fun n => (reachM m ar a n : Int)
theorem reachL_len (m : Nat) (ar : List Arc) (a : Int) : (reachL m ar a).length = m := by simp [reachL]
theorem reachL_get {m : Nat} {ar : List Arc} {a : Int} {n : Nat} (h : n < m) : (reachL m ar a).getD n 0 = (reachM m ar a n : Int) := by simp [reachL, List.getD, h]
theorem reachM_bit {m : Nat} {ar : List Arc} {a : Int} {n i : Nat} (h : i < m) : (reachM m ar a n).testBit i = reachP m ar a n i := by
  unfold reachM; rw [maskP_bit, decide_eq_true h]; rfl
theorem reachM_lt (m : Nat) (ar : List Arc) (a : Int) (n : Nat) : reachM m ar a n < 2 ^ m := maskP_lt _ _
/-- The table while row n is being filled up to column j. -/
def rowAt (m : Nat) (ar : List Arc) (a : Int) (n : Nat) : List Int := (reachL m ar a).take n ++ List.replicate (m - n) 0
theorem rowAt_len {m : Nat} {ar : List Arc} {a : Int} {n : Nat} (h : n ≤ m) : (rowAt m ar a n).length = m := by
  unfold rowAt; rw [List.length_append, List.length_take, reachL_len, List.length_replicate]; omega
theorem rowAt_get {m : Nat} {ar : List Arc} {a : Int} {n : Nat} (h : n < m) : (rowAt m ar a n)[n]? = some 0 := by
  unfold rowAt
  rw [List.getElem?_append_right (by rw [List.length_take, reachL_len]; omega), List.length_take, reachL_len, List.getElem?_replicate, if_pos (by omega)]
theorem rowAt_set {m : Nat} {ar : List Arc} {a : Int} {n : Nat} (h : n < m) : (rowAt m ar a n).set n (reachM m ar a n : Int) = rowAt m ar a (n + 1) := by
  have hx : (reachL m ar a)[n]? = some (reachM m ar a n : Int) := by simp [reachL, h]
  unfold rowAt
  have hl : ((reachL m ar a).take n).length = n := by rw [List.length_take, reachL_len]; omega
  obtain ⟨k, hk⟩ : ∃ k, m - n = k + 1 := ⟨m - n - 1, by omega⟩
  rw [List.set_append_right (h := by omega), hl, Nat.sub_self, hk, List.replicate_succ, List.set_cons_zero, take_succ_of hx, List.append_assoc, show m - (n + 1) = k by omega]
  rfl
theorem rowAt_full (m : Nat) (ar : List Arc) (a : Int) : rowAt m ar a m = reachL m ar a := by
  unfold rowAt; rw [List.take_of_length_le (by rw [reachL_len]; exact Nat.le_refl _), Nat.sub_self]; simp

set_option maxRecDepth 100000 in
set_option maxHeartbeats 1000000 in
theorem cvReach_c (m : Nat) (s : Value) (l : List St) (a : Int) (w : World) (hg : goodTown m l = true) (hr : Rd w s l.length (l.flatMap St.cells)) :
    Calls Try.prog 70 #[.agg #[.int .i64 m, s], .int .i64 a] w (OwnI (reachL m (arcs l) a) w) := by
  have HR := Lib.hid hr
  obtain ⟨As, cs, rfl, _⟩ := hr
  obtain ⟨hn1, hn2, hl40, _⟩ := goodTown_true hg
  obtain ⟨i0, hi, hz0, hz1, hz2⟩ := info_parts Try.infoInt
  have HG := Lib.hid hg
  clear hg
  go_enter Try.func70, Try.ntmps70
  go_wp2_with (at_make; refine wpList_make_full _ rfl _ _ 27 rfl w.heap.size 3 i0 _ 1 Try.underlying27 hi hz0 hz1 _ _ _ _ m rfl rfl rfl rfl (by rw [hz2]; omega) (by rw [maxLen_eq]; omega) (by simp) ?_; intro w2 hown2 hg2; rw [made_ints, World.size_alloc] at hown2; have b0 : w2.cell? ⟨w.heap.size, 0, none⟩ = some (.int .i64 m) := (by rw [World.cell?_of_block (hg2.block w.heap.size (by simp) (by simp))]; simp [go_sem]); have b1 : w2.cell? ⟨w.heap.size, 1, none⟩ = some (.slice As l.length cs) := (by rw [World.cell?_of_block (hg2.block w.heap.size (by simp) (by simp))]; simp [go_sem]); have HB2 : Hid (Below w.heap.size w w2) := Lib.hid (bel_grown (bel_al (Below.refl _ _) _) hg2 (fun k h => by cases h)); have HO2 := Lib.hid hown2; clear hown2 hg2)
  obtain ⟨g, hgdef⟩ : ∃ g, g = w.heap.size + 1 := ⟨_, rfl⟩
  rw [← hgdef] at HO2 ⊢
  have hgw : w.heap.size < g := by omega
  have hg0 : w.heap.size ≤ g := by omega
  have HGE : Hid (∀ q, some g = some q → w.heap.size ≤ q) := Lib.hid (fun q e => by have := Option.some.inj e; omega)
  have hgs : g < w2.heap.size := (HO2.out.lt g rfl).2
  clear hgdef
  go_loopw [14] (fun v14 wr => ∃ (n : Nat), n ≤ m ∧ v14 = .int .i64 n ∧ Hid (wr.ownsRow w.heap.size 3 1 (.slice (some ⟨g, 0, none⟩) m m) m (ints (rowAt m (arcs l) a n))) ∧ Hid (w2.grownBy wr (some g))) (fun v14 _ => m - (intOf v14).toNat)
  case atStart => exact ⟨0, Nat.zero_le _, rfl, by unfold rowAt; simpa using HO2, Lib.hid (World.grownBy.refl _ _)⟩
  case round =>
    obtain ⟨n, hn, rfl, HOW, HGR⟩ := hrel
    obtain ⟨wA, rfl⟩ : ∃ wA : World, wA = wr := ⟨_, rfl⟩
    by_cases hlt : n < m
    · have hbA : Below w.heap.size w wA := gro_new HB2.out HGR.out HGE.out
      have hs2 := HGR.out.size
      have z0 : wA.cell? ⟨w.heap.size, 0, none⟩ = some (.int .i64 m) := (gro_cell HGR.out (by omega) (by omega)).trans b0
      have z1 : wA.cell? ⟨w.heap.size, 1, none⟩ = some (.slice As l.length cs) := (gro_cell HGR.out (by omega) (by omega)).trans b1
      have HBA := Lib.hid hbA
      clear hbA
      go_wp2_with fail
      refine (toTimes_c m _ l n _ HG.out hlt (rd_below HR.out HBA.out)).mono ?_
      rintro e w5 ⟨v5, rfl, ho5, hb5⟩
      rw [distT_len] at ho5
      obtain ⟨h, cap5, rfl, hbh, hhl, hcap5, hcm5⟩ := own_shape ho5 (by omega)
      have hgA : g < wA.heap.size := (HOW.out.lt g rfl).2
      have HO5 := Lib.hid ho5
      have HGR5 : Hid (w2.grownBy w5 (some g)) := Lib.hid (gro_bel HGR.out hb5)
      have HOW5 : Hid (w5.ownsRow w.heap.size 3 1 (.slice (some ⟨g, 0, none⟩) m m) m (ints ((rowAt m (arcs l) a n).set n (maskP (reachP m (arcs l) a n) 0 : Nat)))) := Lib.hid (by
        have e : (rowAt m (arcs l) a n).set n ((maskP (reachP m (arcs l) a n) 0 : Nat) : Int) = rowAt m (arcs l) a n := by
          apply List.ext_getElem?
          intro i
          rw [List.getElem?_set]
          split
          · rename_i h; subst h
            rw [if_pos (by rw [rowAt_len (by omega)]; exact hlt), rowAt_get hlt]; rfl
          · rfl
        rw [e]; exact own_below HOW.out hb5)
      clear hb5 ho5 z0 z1
      go_wp2_with fail
      go_loopw [21] (fun v21 wr2 => ∃ (j : Nat), j ≤ m ∧ v21 = .int .i64 j ∧ Hid (wr2.ownsRow w.heap.size 3 1 (.slice (some ⟨g, 0, none⟩) m m) m (ints ((rowAt m (arcs l) a n).set n (maskP (reachP m (arcs l) a n) j : Nat)))) ∧ Hid (w5.grownBy wr2 (some g))) (fun v21 _ => m - (intOf v21).toNat)
      case atStart => exact ⟨0, Nat.zero_le _, rfl, HOW5, Lib.hid (World.grownBy.refl _ _)⟩
      case round =>
        obtain ⟨j, hj, rfl, HOWj, HGRj⟩ := hrel
        obtain ⟨wB, rfl⟩ : ∃ wB : World, wB = wr := ⟨_, rfl⟩
        by_cases hjm : j < m
        · have ce := (gro_cell (o := j) HGRj.out hhl (by omega)).trans (own_cell HO5.out hjm)
          have co := own_cell HOWj.out hlt
          have fo := HOWj.out.frozenAt n
          have e0 : ((rowAt m (arcs l) a n).set n (maskP (reachP m (arcs l) a n) j : Nat)).getD n 0 = (maskP (reachP m (arcs l) a n) j : Nat) := by rw [getD_set, if_pos ⟨rfl, by rw [rowAt_len (by omega)]; exact hlt⟩]
          rw [e0] at co
          obtain ⟨x, hx⟩ : ∃ x, (distT m (arcs l) n).getD j 0 = x := ⟨_, rfl⟩
          rw [hx] at ce
          obtain ⟨M, hM⟩ : ∃ M, maskP (reachP m (arcs l) a n) j = M := ⟨_, rfl⟩
          obtain ⟨b, hb⟩ : ∃ b : Nat, 2 ^ j = b := ⟨_, rfl⟩
          have hMlt := maskP_lt (reachP m (arcs l) a n) j
          have hpb := pow_bd (show j ≤ 14 by omega)
          rw [hM, hb] at hMlt
          rw [hb] at hpb
          rw [hM] at co
          have HX := Lib.hid hx
          have HM := Lib.hid hM
          have HBE := Lib.hid hb
          have e1 : IntKind.i64.wrap ((2 : Int) ^ j) = (b : Int) := by
            have : (2 : Int) ^ j = (b : Int) := by rw [← hb, Int.natCast_pow]; rfl
            rw [this, IntKind.wrap_i64]; omega
          have e2 : IntKind.u64.wrap (j : Int) = (j : Int) := by rw [IntKind.wrap_u64]; omega
          obtain ⟨M2, hM2⟩ : ∃ M2, M ||| b = M2 := ⟨_, rfl⟩
          have e3 : bits .or .i64 (M : Int) (b : Int) = (M2 : Int) := by rw [bits_or_i64_nat M b (by omega) (by omega), hM2]
          have HM2 := Lib.hid hM2
          clear hx hM hb hM2 e0
          go_wp2_with fail
          refine (l1In_c _ _ _ _).mono ?_; rintro e w' ⟨rfl, rfl⟩
          by_cases hin : inB x 0 a = true
          · rw [hin]
            have HMK : Hid (maskP (reachP m (arcs l) a n) (j + 1) = M2) := Lib.hid (by
              show (if reachP m (arcs l) a n j = true then maskP (reachP m (arcs l) a n) j ||| 2 ^ j else maskP (reachP m (arcs l) a n) j) = M2
              rw [if_pos (by unfold reachP; rw [HX.out]; exact hin), HM.out, HBE.out, HM2.out])
            clear hin
            go_wp2
            refine ⟨⟨j + 1, by omega, by go_num, Lib.hid ?_, Lib.hid (only_setCell HGRj.out n _)⟩, by simp [intOf]; omega⟩
            have h := own_setI HOWj.out n (M2 : Int)
            rw [List.set_set] at h
            rw [HMK.out]; exact h
          · have hin' : inB x 0 a = false := by simpa using hin
            rw [hin']
            have HMK : Hid (maskP (reachP m (arcs l) a n) (j + 1) = maskP (reachP m (arcs l) a n) j) := Lib.hid (by
              show (if reachP m (arcs l) a n j = true then maskP (reachP m (arcs l) a n) j ||| 2 ^ j else maskP (reachP m (arcs l) a n) j) = _
              rw [if_neg (by unfold reachP; rw [HX.out, hin']; simp)])
            clear hin hin'
            go_wp2
            refine ⟨⟨j + 1, by omega, by go_num, Lib.hid ?_, HGRj⟩, by simp [intOf]; omega⟩
            rw [HMK.out]; exact HOWj.out
        · obtain rfl : j = m := by omega
          go_wp2
          refine ⟨⟨n + 1, by omega, by go_num, Lib.hid ?_, Lib.hid (gro_trans HGR5.out HGRj.out)⟩, by simp [intOf]; omega⟩
          rw [← rowAt_set hlt]
          exact HOWj.out
    · obtain rfl : n = m := by omega
      go_wp2
      go_ret
      refine ⟨_, rfl, ?_, gro_new HB2.out HGR.out HGE.out⟩
      rw [reachL_len, ← rowAt_full]; exact HOW.out
end Go.Proofs.Ytahehdgkbhjpoaa

namespace Go.Proofs.Ytahehdgkbhjpoaa
set_option linter.unusedVariables false
set_option linter.unusedSimpArgs false

/-- The first place from i on at which f finds something. -/
def tryFrom (f : Nat → Option (List Int)) : Nat → Nat → Option (List Int)
  | _, 0 => none
  | i, k + 1 => match f i with
    | some r => some ((i : Int) :: r)
    | none => tryFrom f (i + 1) k
theorem tryFrom_none {f : Nat → Option (List Int)} : ∀ (k i : Nat), tryFrom f i k = none → ∀ j, i ≤ j → j < i + k → f j = none := by
  intro k
  induction k with
  | zero => intro i _ j h1 h2; omega
  | succ k ih =>
    intro i h j h1 h2
    unfold tryFrom at h
    cases hf : f i with
    | some r => rw [hf] at h; simp at h
    | none =>
      rw [hf] at h
      rcases Nat.eq_or_lt_of_le h1 with e | e
      · rw [← e]; exact hf
      · exact ih (i + 1) h j (by omega) (by omega)
theorem tryFrom_congr {f g : Nat → Option (List Int)} : ∀ (k i : Nat), (∀ j, i ≤ j → j < i + k → f j = g j) → tryFrom f i k = tryFrom g i k := by
  intro k
  induction k with
  | zero => intro i _; rfl
  | succ k ih =>
    intro i h
    unfold tryFrom
    rw [h i (by omega) (by omega), ih (i + 1) (fun j h1 h2 => h j (by omega) (by omega))]
theorem tryFrom_len {f : Nat → Option (List Int)} {n : Nat} (hf : ∀ j r, f j = some r → r.length = n) : ∀ (k i : Nat) (r : List Int), tryFrom f i k = some r → r.length = n + 1 := by
  intro k
  induction k with
  | zero => intro i r h; simp [tryFrom] at h
  | succ k ih =>
    intro i r h
    unfold tryFrom at h
    cases hfi : f i with
    | some r' => rw [hfi] at h; simp at h; subst h; simp [hf i r' hfi]
    | none => rw [hfi] at h; exact ih _ _ h
def implS (sets : List Nat) (all : Nat) : Nat → Nat → Nat → Option (List Int)
  | 0, _, cov => if cov = all then some [] else none
  | left + 1, first, cov => tryFrom (fun i => implS sets all left (i + 1) (cov ||| sets.getD i 0)) first (sets.length - first)
def specS (sets : List Nat) (all : Nat) : Nat → Nat → Nat → Option (List Int)
  | 0, _, cov => if cov = all then some [] else none
  | left + 1, first, cov => if cov = all then none else tryFrom (fun i => specS sets all left (i + 1) (cov ||| sets.getD i 0)) first (sets.length - first)
theorem implS_len (sets : List Nat) (all : Nat) : ∀ (left first cov : Nat) (r : List Int), implS sets all left first cov = some r → r.length = left := by
  intro left
  induction left with
  | zero => intro first cov r h; unfold implS at h; split at h <;> simp at h; subst h; rfl
  | succ left ih => intro first cov r h; unfold implS at h; exact tryFrom_len (fun j r' h' => ih _ _ _ h') _ _ _ h
theorem specS_len (sets : List Nat) (all : Nat) : ∀ (left first cov : Nat) (r : List Int), specS sets all left first cov = some r → r.length = left := by
  intro left
  induction left with
  | zero => intro first cov r h; unfold specS at h; split at h <;> simp at h; subst h; rfl
  | succ left ih =>
    intro first cov r h
    unfold specS at h
    split at h
    · cases h
    · exact tryFrom_len (fun j r' h' => ih _ _ _ h') _ _ _ h
/-- Places from one on, increasing. -/
def Sel (N : Nat) : Nat → List Nat → Prop
  | _, [] => True
  | first, i :: e => first ≤ i ∧ i < N ∧ Sel N (i + 1) e
def coverS (sets : List Nat) (cov : Nat) (e : List Nat) : Nat := e.foldl (fun c i => c ||| sets.getD i 0) cov
theorem implS_none (sets : List Nat) (all : Nat) : ∀ (left first cov : Nat), implS sets all left first cov = none → ∀ e, Sel sets.length first e → e.length = left → coverS sets cov e ≠ all := by
  intro left
  induction left with
  | zero =>
    intro first cov h e _ hl
    have : e = [] := List.eq_nil_of_length_eq_zero hl
    subst this
    unfold implS at h
    intro hc
    have hc' : cov = all := hc
    rw [if_pos hc'] at h; cases h
  | succ left ih =>
    intro first cov h e hs hl
    cases e with
    | nil => simp at hl
    | cons i e =>
      obtain ⟨h1, h2, h3⟩ := hs
      unfold implS at h
      have := tryFrom_none _ _ h i h1 (by omega)
      exact ih _ _ this e h3 (by simpa using hl)
theorem spec_eq_impl (sets : List Nat) (all : Nat) : ∀ (left first cov : Nat), (∀ e, Sel sets.length first e → e.length < left → coverS sets cov e ≠ all) → specS sets all left first cov = implS sets all left first cov := by
  intro left
  induction left with
  | zero => intro first cov _; rfl
  | succ left ih =>
    intro first cov h
    have h0 : cov ≠ all := h [] trivial (by simp)
    unfold specS implS
    rw [if_neg h0]
    refine tryFrom_congr _ _ (fun j h1 h2 => ih _ _ (fun e he hl => ?_))
    exact h (j :: e) ⟨h1, by omega, he⟩ (by simp; omega)
/-- The first number from k on for which f finds something. -/
def firstN (f : Nat → Option (List Int)) : Nat → Nat → Option (List Int)
  | _, 0 => none
  | k, n + 1 => match f k with
    | some r => some r
    | none => firstN f (k + 1) n
theorem firstN_len {f : Nat → Option (List Int)} (hf : ∀ j r, f j = some r → r.length = j) : ∀ (n k : Nat) (r : List Int), firstN f k n = some r → r.length ≤ k + n := by
  intro n
  induction n with
  | zero => intro k r h; simp [firstN] at h
  | succ n ih =>
    intro k r h
    unfold firstN at h
    cases hfi : f k with
    | some r' => rw [hfi] at h; simp at h; subst h; rw [hf k r' hfi]; omega
    | none => rw [hfi] at h; have := ih _ _ h; omega
theorem few_eq (sets : List Nat) (all : Nat) : ∀ (n k : Nat), (∀ j, j < k → implS sets all j 0 0 = none) → firstN (fun j => specS sets all j 0 0) k n = firstN (fun j => implS sets all j 0 0) k n := by
  intro n
  induction n with
  | zero => intro k _; rfl
  | succ n ih =>
    intro k h
    have e : specS sets all k 0 0 = implS sets all k 0 0 := spec_eq_impl sets all k 0 0 (fun e he hl => implS_none sets all e.length 0 0 (h _ hl) e he rfl)
    unfold firstN
    rw [e]
    cases hk : implS sets all k 0 0 with
    | some r => rfl
    | none =>
      show firstN _ (k + 1) n = firstN _ (k + 1) n
      refine ih (k + 1) (fun j hj => ?_)
      rcases Nat.lt_or_ge j k with h1 | h1
      · exact h j h1
      · obtain rfl : j = k := by omega
        exact hk
def optL : Option (List Int) → List Int × Bool
  | none => ([], false)
  | some l => (l, true)
def setsL (m : Nat) (ar : List Arc) (a : Int) : List Nat := (List.range m).map (reachM m ar a)
theorem setsL_len (m : Nat) (ar : List Arc) (a : Int) : (setsL m ar a).length = m := by simp [setsL]
theorem setsL_get {m : Nat} {ar : List Arc} {a : Int} {n : Nat} (h : n < m) : (setsL m ar a).getD n 0 = reachM m ar a n := by simp [setsL, List.getD, h]
theorem few_all (m : Nat) (ar : List Arc) (a : Int) (hm : 1 ≤ m) (n : Nat) : firstN (fun j => specS (setsL m ar a) (2 ^ m - 1) j 0 0) 1 n = firstN (fun j => implS (setsL m ar a) (2 ^ m - 1) j 0 0) 1 n := by
  refine few_eq _ _ n 1 (fun j hj => ?_)
  obtain rfl : j = 0 := by omega
  unfold implS
  rw [if_neg]
  have : 2 ^ 1 ≤ 2 ^ m := Nat.pow_le_pow_right (by omega) hm
  omega
end Go.Proofs.Ytahehdgkbhjpoaa

namespace Go.Proofs.Ytahehdgkbhjpoaa
set_option linter.unusedVariables false
set_option linter.unusedSimpArgs false
open Go.RowKit

theorem rise_at {lo hi : Int} {q : List Int} (h : rising lo hi q = true) {i : Nat} (hi' : i < q.length) : lo ≤ q.getD i 0 ∧ q.getD i 0 ≤ hi ∧ (0 < i → q.getD (i - 1) 0 < q.getD i 0) := by
  have h4 := List.all_eq_true.1 h i (List.mem_range.2 hi')
  unfold risAt at h4
  rw [getD_some hi'] at h4
  simp only [Bool.and_eq_true, Bool.or_eq_true, decide_eq_true_eq] at h4
  have h5 := inB_true h4.1
  refine ⟨h5.1, h5.2, fun h0 => ?_⟩
  rcases h4.2 with h6 | h6
  · omega
  · rw [getD_some (show i - 1 < q.length by omega)] at h6
    simpa using h6
theorem all_nodes {m : Nat} {q : List Int} (h : rising 0 ((m : Int) - 1) q = true) (hl : q.length = m) : ∀ k, k < m → (k : Int) ∈ q := by
  have up : ∀ k, k < m → (k : Int) ≤ q.getD k 0 := by
    intro k
    induction k with
    | zero => intro hk; have := (rise_at h (i := 0) (by omega)).1; simpa using this
    | succ k ih =>
      intro hk
      have h1 := ih (by omega)
      have h2 := (rise_at h (i := k + 1) (by omega)).2.2 (by omega)
      simp only [Nat.add_sub_cancel] at h2
      omega
  have down : ∀ d k, k + d + 1 = m → q.getD k 0 ≤ (k : Int) := by
    intro d
    induction d with
    | zero => intro k hk; have := (rise_at h (i := k) (by omega)).2.1; omega
    | succ d ih =>
      intro k hk
      have h1 := ih (k + 1) (by omega)
      have h2 := (rise_at h (i := k + 1) (by omega)).2.2 (by omega)
      simp only [Nat.add_sub_cancel] at h2
      omega
  intro k hk
  have h1 := up k hk
  have h2 := down (m - k - 1) k (by omega)
  have e : q.getD k 0 = (k : Int) := by omega
  rw [← e]
  exact List.mem_of_getElem? (getD_some (by omega))
theorem len_of_all : ∀ (m : Nat) (q : List Int), (∀ k, k < m → (k : Int) ∈ q) → m ≤ q.length := by
  intro m
  induction m with
  | zero => intro q _; omega
  | succ m ih =>
    intro q h
    have h1 := h m (by omega)
    have h2 := ih (q.erase (m : Int)) (fun k hk => (List.mem_erase_of_ne (by omega)).2 (h k (by omega)))
    rw [List.length_erase_of_mem h1] at h2
    have := List.length_pos_of_mem h1
    omega
theorem len_le_of_rise {m : Nat} {q : List Int} (h : rising 0 ((m : Int) - 1) q = true) : q.length ≤ m := by
  have up : ∀ k, k < q.length → (k : Int) ≤ q.getD k 0 := by
    intro k
    induction k with
    | zero => intro hk; have := (rise_at h (i := 0) (by omega)).1; simpa using this
    | succ k ih =>
      intro hk
      have h1 := ih (by omega)
      have h2 := (rise_at h (i := k + 1) (by omega)).2.2 (by omega)
      simp only [Nat.add_sub_cancel] at h2
      omega
  rcases Nat.eq_zero_or_pos q.length with h0 | h0
  · omega
  · have h1 := up (q.length - 1) (by omega)
    have h2 := (rise_at h (i := q.length - 1) (by omega)).2.1
    omega

def openL (m : Nat) (l : List St) (q : List Int) (a : Int) : List Int := covIdx (coverL m (arcs l) q) a false m
def hitP (m : Nat) (ar : List Arc) (a : Int) (n : Nat) (x : Int) : Bool := reachP m ar a n x.toNat
def cntB (m : Nat) (ar : List Arc) (a : Int) (o : List Int) (n : Nat) : Nat := (o.filter (hitP m ar a n)).length
def stepB (m : Nat) (ar : List Arc) (a : Int) (o q : List Int) (p : Int × Int) (n : Nat) : Int × Int :=
  if (n : Int) ∈ q then p else if p.2 < (cntB m ar a o n : Int) then ((n : Int), (cntB m ar a o n : Int)) else p
def bestB (m : Nat) (ar : List Arc) (a : Int) (o q : List Int) (k : Nat) : Int × Int := (List.range k).foldl (stepB m ar a o q) (0, -1)
theorem bestB_succ (m : Nat) (ar : List Arc) (a : Int) (o q : List Int) (k : Nat) : bestB m ar a o q (k + 1) = stepB m ar a o q (bestB m ar a o q k) k := by
  unfold bestB; rw [List.range_succ, List.foldl_append]; rfl
theorem bestB_neg (m : Nat) (ar : List Arc) (a : Int) (o q : List Int) : ∀ k, ((bestB m ar a o q k).2 < 0 ↔ ∀ n, n < k → (n : Int) ∈ q) ∧ -1 ≤ (bestB m ar a o q k).2 := by
  intro k
  induction k with
  | zero => exact ⟨⟨fun _ n hn => by omega, fun _ => by simp [bestB]⟩, by simp [bestB]⟩
  | succ k ih =>
    rw [bestB_succ]
    obtain ⟨ih, ih2⟩ := ih
    unfold stepB
    by_cases h : (k : Int) ∈ q
    · rw [if_pos h]
      refine ⟨⟨fun h1 n hn => ?_, fun h1 => ih.2 (fun n hn => h1 n (by omega))⟩, ih2⟩
      rcases Nat.lt_or_ge n k with h2 | h2
      · exact ih.1 h1 n h2
      · obtain rfl : n = k := by omega
        exact h
    · rw [if_neg h]
      split
      · exact ⟨⟨fun h1 => by dsimp only at h1; omega, fun h1 => absurd (h1 k (by omega)) h⟩, by dsimp only; omega⟩
      · exact ⟨⟨fun h1 => by omega, fun h1 => absurd (h1 k (by omega)) h⟩, ih2⟩
theorem bestB_fst (m : Nat) (ar : List Arc) (a : Int) (o q : List Int) : ∀ k, 0 ≤ (bestB m ar a o q k).1 ∧ (bestB m ar a o q k).2 ≤ o.length := by
  intro k
  induction k with
  | zero => exact ⟨by simp [bestB], by show (-1 : Int) ≤ _; omega⟩
  | succ k ih =>
    rw [bestB_succ]
    unfold stepB
    have hc : cntB m ar a o k ≤ o.length := List.length_filter_le _ _
    split
    · exact ih
    · split
      · dsimp only; omega
      · exact ih
def bestFurtherW (m : Nat) (l : List St) (q : List Int) (a : Int) : Int × Int × Bool :=
  if q.length = 6 ∨ q.length = m then (0, 0, false) else ((bestB m (arcs l) a (openL m l q a) q m).1, (bestB m (arcs l) a (openL m l q a) q m).2, true)
def bestFurtherV (n : Int) (l : List St) (q : List Int) (a : Int) : Int × Int × Bool := if askC n l q a = true then bestFurtherW n.toNat l q a else (0, 0, false)
theorem best_iff {m : Nat} {l : List St} {q : List Int} (a : Int) (h : goodSta m l q = true) : (bestB m (arcs l) a (openL m l q a) q m).2 < 0 ↔ q.length = m := by
  have hr : rising 0 ((m : Int) - 1) q = true := by simp only [goodSta, Bool.and_eq_true] at h; exact h.2.1
  rw [(bestB_neg m (arcs l) a (openL m l q a) q m).1]
  exact ⟨fun h1 => by have := len_of_all m q h1; have := len_le_of_rise hr; omega, fun h1 => all_nodes hr h1⟩
set_option maxRecDepth 100000 in
set_option maxHeartbeats 1000000 in
theorem bestFurtherI_c (n : Int) (s : Value) (l : List St) (v : Value) (q : List Int) (a : Int) (w : World) (hr : Rd w s l.length (l.flatMap St.cells)) (hq : RdI w v q) :
    Calls Try.prog 35 #[.agg #[.int .i64 n, s], v, .int .i64 a] w (fun e w' => e = .returned (.tuple #[.int .i64 (bestFurtherV n l q a).1, .int .i64 (bestFurtherV n l q a).2.1, .bool (bestFurtherV n l q a).2.2]) ∧ Below w.heap.size w w') := by
  have HR := Lib.hid hr
  have HQ := Lib.hid hq
  clear hr hq
  have hbx : ∀ o, Below w.heap.size w (w.alloc o) := fun o => bel_al (Below.refl _ _) o
  by_cases hok : askC n l q a = true
  · have hk := askC_true hok
    obtain ⟨hok1, hlim, hg, hqm, hq6⟩ := hk
    obtain ⟨hlim0, hlim1⟩ := inB_true hlim
    obtain ⟨m, rfl⟩ := nat_of (goodTown_true hg).1
    have HF : Hid (bestFurtherV m l q a = bestFurtherW m l q a) := Lib.hid (by unfold bestFurtherV; rw [if_pos hok, Int.toNat_natCast])
    obtain ⟨hm1, hm2, _, _⟩ := goodTown_true hg
    have HG := Lib.hid hg
    have HM := Lib.hid hqm
    have HOK := Lib.hid hok
    have HOK1 := Lib.hid hok1
    have HLIM := Lib.hid hlim
    clear hok1 hlim
    clear hg hqm hok
    obtain ⟨Aq, cq, hvq, _⟩ := HQ.out
    subst hvq
    go_enter Try.func35, Try.ntmps35
    go_wp2_with fail
    generalize hw1 : World.alloc w _ = w1
    have k0 : w1.cell? ⟨w.heap.size, 0, none⟩ = some (.int .i64 m) := by subst hw1; simp [go_sem]
    have k1 : w1.cell? ⟨w.heap.size, 1, none⟩ = some s := by subst hw1; simp [go_sem]
    have hb1 : Below w.heap.size w w1 := by subst hw1; exact hbx _
    have hz : w.heap.size < w1.heap.size := by subst hw1; simp
    clear hw1 hbx
    refine (areStations_c m s _ l q _ _ k0 k1 (rd_below HR.out hb1) (rdi_below HQ.out hb1)).mono ?_; rw [HOK1.out]; rintro e w2 ⟨rfl, hb2⟩
    have hb12 := bel_then hb1 hb2
    have hz2 : w.heap.size < w2.heap.size := Nat.lt_of_lt_of_le hz hb2.size
    have z0 := (hb2.cell (p := ⟨w.heap.size, 0, none⟩) hz).trans k0
    have z1 := (hb2.cell (p := ⟨w.heap.size, 1, none⟩) hz).trans k1
    have HR2 := Lib.hid (rd_below HR.out hb12)
    have HQ2 := Lib.hid (rdi_below HQ.out hb12)
    have HB := Lib.hid hb12
    clear k0 k1 hb1 hb2 hz hb12
    go_wp2_with fail
    refine (isLimit_c a _).mono ?_; rw [HLIM.out]; rintro e w2 ⟨rfl, rfl⟩
    by_cases h6 : q.length = 6
    · have e6 : ((q.length : Int) == 6) = true := by simp; omega
      have HW : Hid (bestFurtherW m l q a = (0, 0, false)) := Lib.hid (by unfold bestFurtherW; rw [if_pos (Or.inl h6)])
      clear h6
      go_wp2
      go_ret3
      rw [HF.out, HW.out]
      exact ⟨rfl, HB.out⟩
    have e6 : ((q.length : Int) == 6) = false := by simp; omega
    have HBI := Lib.hid (best_iff a HOK1.out)
    have H6 := Lib.hid h6
    clear h6
    go_wp2_with fail
    refine (coveredNodes_c m s _ l q a false _ _ HG.out HM.out z0 z1 HR2.out HQ2.out).mono ?_; rintro e w3 ⟨x, rfl, ho, hb3⟩
    have HBB := Lib.hid (bel_then HB.out hb3)
    have HR3 := Lib.hid (rd_below HR2.out hb3)
    have HQ3 := Lib.hid (rdi_below HQ2.out hb3)
    have hz3 : w.heap.size < w3.heap.size := Nat.lt_of_lt_of_le hz2 hb3.size
    have b0 := (hb3.cell (p := ⟨w.heap.size, 0, none⟩) hz2).trans z0
    have b1 := (hb3.cell (p := ⟨w.heap.size, 1, none⟩) hz2).trans z1
    have hol := covIdx_len (coverL m (arcs l) q) a false m
    have HMEM : Hid (∀ x ∈ openL m l q a, ∃ i : Nat, x = (i : Int) ∧ i < m) := Lib.hid (fun x hx => by
      obtain ⟨i, h1, h2, _⟩ := selI_mem.1 hx
      exact ⟨i, h1, h2⟩)
    obtain ⟨o, hoo⟩ : ∃ o, openL m l q a = o := ⟨_, rfl⟩
    have hoo' : covIdx (coverL m (arcs l) q) a false m = o := hoo
    rw [hoo'] at ho hol
    rw [hoo] at HMEM HBI
    have HOO := Lib.hid hoo
    have HO := Lib.hid (rdi_own ho)
    obtain ⟨Ao, co, hxo, hco, hmo, hro⟩ := rdi_own ho
    subst hxo
    rw [maxLen_eq] at hmo
    have HRO := Lib.hid hro
    clear ho hb3 z0 z1 hoo hoo' hro
    go_wp2_with fail
    go_loopw [10, 11, 35] (fun v10 v11 v35 wr => ∃ (k : Nat) (b c : Int), k ≤ m ∧ v35 = .int .i64 k ∧ v10 = .int .i64 b ∧ v11 = .int .i64 c ∧ -1 ≤ c ∧ c ≤ 14 ∧ Hid (bestB m (arcs l) a o q k = (b, c)) ∧ Hid (Below w3.heap.size w3 wr)) (fun _ _ v35 _ => m - (intOf v35).toNat)
    case atStart => exact ⟨0, 0, -1, Nat.zero_le _, rfl, rfl, rfl, by omega, by omega, Lib.hid rfl, Lib.hid (Below.refl _ _)⟩
    case round =>
      obtain ⟨k, b, c, hk, rfl, rfl, rfl, hc0, hc1, HBK, HBL⟩ := hrel
      obtain ⟨wA, rfl⟩ : ∃ wA : World, wA = wr := ⟨_, rfl⟩
      by_cases hlt : k < m
      · have d0 := (HBL.out.cell (p := ⟨w.heap.size, 0, none⟩) hz3).trans b0
        have d1 := (HBL.out.cell (p := ⟨w.heap.size, 1, none⟩) hz3).trans b1
        go_wp2_with fail
        refine (contains_c _ (k : Int) q _ (rdi_below HQ3.out HBL.out)).mono ?_; rintro e w' ⟨rfl, rfl⟩
        by_cases hmem : (k : Int) ∈ q
        · rw [decide_eq_true hmem]
          have HN : Hid (bestB m (arcs l) a o q (k + 1) = (b, c)) := Lib.hid (by rw [bestB_succ, HBK.out]; unfold stepB; rw [if_pos hmem])
          clear hmem
          go_wp2
          exact ⟨⟨k + 1, b, c, by omega, by go_num, rfl, rfl, hc0, hc1, HN, HBL⟩, by simp [intOf]; omega⟩
        · rw [decide_eq_false hmem]
          have HN : Hid (bestB m (arcs l) a o q (k + 1) = if c < (cntB m (arcs l) a o k : Int) then ((k : Int), (cntB m (arcs l) a o k : Int)) else (b, c)) := Lib.hid (by rw [bestB_succ, HBK.out]; unfold stepB; rw [if_neg hmem])
          clear hmem
          go_wp2_with fail
          refine (timesI_c m _ l _ k _ HG.out hlt d0 d1 (rd_below HR3.out HBL.out)).mono ?_
          rintro e w5 ⟨v5, rfl, ho5, hb5⟩
          rw [distT_len] at ho5
          obtain ⟨h, cap5, rfl, hbh, hhl, hcap5, hcm5⟩ := own_shape ho5 (by omega)
          have HO5 := Lib.hid ho5
          have HB5 := Lib.hid (bel_then HBL.out hb5)
          clear ho5 hb5 d0 d1
          go_wp2_with fail
          go_loopw [13, 45] (fun v13 v45 wr2 => ∃ (i t : Nat), i ≤ o.length ∧ t ≤ i ∧ v45 = .int .i64 i ∧ v13 = .int .i64 t ∧ Hid (((o.take i).filter (hitP m (arcs l) a k)).length = t) ∧ wr2 = w5) (fun _ v45 _ => o.length - (intOf v45).toNat)
          case atStart => exact ⟨0, 0, Nat.zero_le _, Nat.le_refl _, rfl, rfl, Lib.hid rfl, rfl⟩
          case round =>
            obtain ⟨i, t, hi, hti, rfl, rfl, HT, rfl⟩ := hrel
            by_cases hio : i < o.length
            · obtain ⟨bb, off, rfl, hbl, hcell⟩ := HRO.out (by omega)
              obtain ⟨x, hx⟩ : ∃ x, o[i]? = some x := ⟨_, List.getElem?_eq_getElem hio⟩
              have cx := cell_at hcell HB5.out hbl (ints_get hx)
              obtain ⟨xn, rfl, hxm⟩ := HMEM.out x (List.mem_of_getElem? hx)
              have ct := own_cell HO5.out hxm
              obtain ⟨y, hy⟩ : ∃ y, (distT m (arcs l) k).getD xn 0 = y := ⟨_, rfl⟩
              rw [hy] at ct
              have HX := Lib.hid hx
              have HY := Lib.hid hy
              have j0 : (0 : Int) ≤ (xn : Int) := by omega
              have j1 : (xn : Int) < (m : Int) := by omega
              clear hx hy hcell
              go_wp2_with fail
              refine (inside_c _ _ _ _).mono ?_; rintro e w' ⟨rfl, rfl⟩
              have hh : hitP m (arcs l) a k (xn : Int) = inB y 0 a := by unfold hitP reachP; rw [Int.toNat_natCast, HY.out]
              have HH := Lib.hid hh
              clear hh
              by_cases hin : inB y 0 a = true
              · rw [hin]
                have HT' : Hid (((o.take (i + 1)).filter (hitP m (arcs l) a k)).length = t + 1) := Lib.hid (by rw [take_succ_of HX.out, List.filter_append, List.length_append, HT.out]; simp [HH.out, hin])
                clear hin
                go_wp2
                exact ⟨⟨i + 1, t + 1, by omega, by omega, by go_num, by go_num, HT', (by first | rfl | trivial)⟩, by simp [intOf]; omega⟩
              · have hin' : inB y 0 a = false := by simpa using hin
                rw [hin']
                have HT' : Hid (((o.take (i + 1)).filter (hitP m (arcs l) a k)).length = t) := Lib.hid (by rw [take_succ_of HX.out, List.filter_append, List.length_append, HT.out]; simp [HH.out, hin'])
                clear hin hin'
                go_wp2
                exact ⟨⟨i + 1, t, by omega, by omega, by go_num, rfl, HT', (by first | rfl | trivial)⟩, by simp [intOf]; omega⟩
            · obtain rfl : i = o.length := by omega
              have e := HT.out
              rw [List.take_length] at e
              have HC : Hid (cntB m (arcs l) a o k = t) := Lib.hid e
              clear e
              by_cases hct : c < (t : Int)
              · have HN' : Hid (bestB m (arcs l) a o q (k + 1) = ((k : Int), (t : Int))) := Lib.hid (by rw [HN.out, HC.out, if_pos hct])
                go_wp2
                exact ⟨⟨k + 1, (k : Int), (t : Int), by omega, by go_num, rfl, rfl, by omega, by omega, HN', HB5⟩, by simp [intOf]; omega⟩
              · have HN' : Hid (bestB m (arcs l) a o q (k + 1) = (b, c)) := Lib.hid (by rw [HN.out, HC.out, if_neg hct])
                have hct' : (t : Int) ≤ c := by omega
                go_wp2
                exact ⟨⟨k + 1, b, c, by omega, by go_num, rfl, rfl, hc0, hc1, HN', HB5⟩, by simp [intOf]; omega⟩
      · obtain rfl : k = m := by omega
        have hbi := HBI.out
        rw [HBK.out] at hbi
        dsimp only at hbi
        by_cases hneg : c < 0
        · have HW : Hid (bestFurtherW k l q a = (0, 0, false)) := Lib.hid (by unfold bestFurtherW; rw [if_pos (Or.inr (hbi.1 hneg))])
          clear hbi
          go_wp2
          go_ret3
          rw [HF.out, HW.out]
          exact ⟨rfl, bel_then HBB.out HBL.out⟩
        · have HW : Hid (bestFurtherW k l q a = (b, c, true)) := Lib.hid (by
            have h7 : ¬ q.length = k := fun e => hneg (hbi.2 e)
            unfold bestFurtherW; rw [if_neg (by intro hor; rcases hor with hor | hor; exact H6.out hor; exact h7 hor), HOO.out, HBK.out])
          have hneg' : 0 ≤ c := by omega
          clear hbi hneg
          go_wp2
          go_ret3
          rw [HF.out, HW.out]
          exact ⟨rfl, bel_then HBB.out HBL.out⟩
  · have hok : askC n l q a = false := by simpa using hok
    have HF : Hid (bestFurtherV n l q a = (0, 0, false)) := Lib.hid (by unfold bestFurtherV; rw [hok]; rfl)
    by_cases hg : goodSta n l q = true
    · have hl : inB a 0 36000 = false := by unfold askC at hok; rw [hg] at hok; simpa using hok
      go_enter Try.func35, Try.ntmps35
      go_wp2_with (first | (go_at_call 57; refine (areStations_c n s _ l q _ _ (by simp [go_sem]) (by simp [go_sem]) (rd_below HR.out (hbx _)) (rdi_below HQ.out (hbx _))).mono ?_; rw [hg]; rintro e w' ⟨rfl, hb1⟩) | (go_at_call 58; refine (isLimit_c a _).mono ?_; rw [hl]; rintro e w' ⟨rfl, rfl⟩))
      go_ret3
      rw [HF.out]
      exact ⟨rfl, bel_then (hbx _) hb1⟩
    · have hg : goodSta n l q = false := by simpa using hg
      go_enter Try.func35, Try.ntmps35
      go_wp2_with (go_at_call 57; refine (areStations_c n s _ l q _ _ (by simp [go_sem]) (by simp [go_sem]) (rd_below HR.out (hbx _)) (rdi_below HQ.out (hbx _))).mono ?_; rw [hg]; rintro e w' ⟨rfl, hb1⟩)
      go_ret3
      rw [HF.out]
      exact ⟨rfl, bel_then (hbx _) hb1⟩
end Go.Proofs.Ytahehdgkbhjpoaa

namespace Go.Proofs.Ytahehdgkbhjpoaa
set_option linter.unusedVariables false
set_option linter.unusedSimpArgs false
open Go.RowKit

set_option maxRecDepth 100000 in
set_option maxHeartbeats 1000000 in
theorem bestFurtherS_c (n : Int) (s : Value) (l : List St) (v : Value) (q : List Int) (a : Int) (w : World) (hr : Rd w s l.length (l.flatMap St.cells)) (hq : RdI w v q) :
    Calls Try.prog 36 #[.agg #[.int .i64 n, s], v, .int .i64 a] w (fun e w' => e = .returned (.tuple #[.int .i64 (bestFurtherV n l q a).1, .int .i64 (bestFurtherV n l q a).2.1, .bool (bestFurtherV n l q a).2.2]) ∧ Below w.heap.size w w') := by
  have HR := Lib.hid hr
  have HQ := Lib.hid hq
  clear hr hq
  have hbx : ∀ o, Below w.heap.size w (w.alloc o) := fun o => bel_al (Below.refl _ _) o
  by_cases hok : askC n l q a = true
  · have hk := askC_true hok
    obtain ⟨hok1, hlim, hg, hqm, hq6⟩ := hk
    obtain ⟨hlim0, hlim1⟩ := inB_true hlim
    obtain ⟨m, rfl⟩ := nat_of (goodTown_true hg).1
    have HF : Hid (bestFurtherV m l q a = bestFurtherW m l q a) := Lib.hid (by unfold bestFurtherV; rw [if_pos hok, Int.toNat_natCast])
    obtain ⟨hm1, hm2, _, _⟩ := goodTown_true hg
    have HG := Lib.hid hg
    have HM := Lib.hid hqm
    have HOK := Lib.hid hok
    have HOK1 := Lib.hid hok1
    have HLIM := Lib.hid hlim
    clear hok1 hlim
    clear hg hqm hok
    obtain ⟨Aq, cq, hvq, _⟩ := HQ.out
    subst hvq
    go_enter Try.func36, Try.ntmps36
    go_wp2_with fail
    generalize hw1 : World.alloc w _ = w1
    have k0 : w1.cell? ⟨w.heap.size, 0, none⟩ = some (.int .i64 m) := by subst hw1; simp [go_sem]
    have k1 : w1.cell? ⟨w.heap.size, 1, none⟩ = some s := by subst hw1; simp [go_sem]
    have hb1 : Below w.heap.size w w1 := by subst hw1; exact hbx _
    have hz : w.heap.size < w1.heap.size := by subst hw1; simp
    clear hw1 hbx
    refine (cvAsked_c m s l _ q a _ (rd_below HR.out hb1) (rdi_below HQ.out hb1)).mono ?_; rw [HOK.out]; rintro e w2 ⟨rfl, hb2⟩
    have hb12 := bel_then hb1 hb2
    have hz2 : w.heap.size < w2.heap.size := Nat.lt_of_lt_of_le hz hb2.size
    have z0 := (hb2.cell (p := ⟨w.heap.size, 0, none⟩) hz).trans k0
    have z1 := (hb2.cell (p := ⟨w.heap.size, 1, none⟩) hz).trans k1
    have HR2 := Lib.hid (rd_below HR.out hb12)
    have HQ2 := Lib.hid (rdi_below HQ.out hb12)
    have HB := Lib.hid hb12
    clear k0 k1 hb1 hb2 hz hb12
    by_cases h6 : q.length = 6
    · have e6 : ((q.length : Int) == 6) = true := by simp; omega
      have HW : Hid (bestFurtherW m l q a = (0, 0, false)) := Lib.hid (by unfold bestFurtherW; rw [if_pos (Or.inl h6)])
      clear h6
      go_wp2
      go_ret3
      rw [HF.out, HW.out]
      exact ⟨rfl, HB.out⟩
    have e6 : ((q.length : Int) == 6) = false := by simp; omega
    by_cases h7 : q.length = m
    · have e7 : ((q.length : Int) == (m : Int)) = true := by simp; omega
      have HW : Hid (bestFurtherW m l q a = (0, 0, false)) := Lib.hid (by unfold bestFurtherW; rw [if_pos (Or.inr h7)])
      clear h6 h7
      go_wp2
      go_ret3
      rw [HF.out, HW.out]
      exact ⟨rfl, HB.out⟩
    have e7 : ((q.length : Int) == (m : Int)) = false := by simp; omega
    have HWV : Hid (bestFurtherW m l q a = ((bestB m (arcs l) a (openL m l q a) q m).1, (bestB m (arcs l) a (openL m l q a) q m).2, true)) := Lib.hid (by unfold bestFurtherW; rw [if_neg (by intro hor; rcases hor with hor | hor; exact h6 hor; exact h7 hor)])
    clear h6 h7
    go_wp2_with fail
    refine (cvSplit_c m _ _ l q a _ HG.out HM.out HR2.out HQ2.out).mono ?_; rintro e w3 ⟨x', x, rfl, _, ho, hb3⟩
    have HB3 := Lib.hid (bel_then HB.out hb3)
    have HR3 := Lib.hid (rd_below HR2.out hb3)
    have HQ3 := Lib.hid (rdi_below HQ2.out hb3)
    have hz3 : w.heap.size < w3.heap.size := Nat.lt_of_lt_of_le hz2 hb3.size
    have b0 := (hb3.cell (p := ⟨w.heap.size, 0, none⟩) hz2).trans z0
    have b1 := (hb3.cell (p := ⟨w.heap.size, 1, none⟩) hz2).trans z1
    have hol := covIdx_len (coverL m (arcs l) q) a false m
    have HMEM : Hid (∀ x ∈ openL m l q a, ∃ i : Nat, x = (i : Int) ∧ i < m) := Lib.hid (fun x hx => by
      obtain ⟨i, h1, h2, _⟩ := selI_mem.1 hx
      exact ⟨i, h1, h2⟩)
    obtain ⟨o, hoo⟩ : ∃ o, openL m l q a = o := ⟨_, rfl⟩
    have hoo' : covIdx (coverL m (arcs l) q) a false m = o := hoo
    rw [hoo'] at ho hol
    rw [hoo] at HMEM HWV
    have HO3 := Lib.hid (rdi_own ho)
    clear ho hb3 z0 z1 hoo hoo'
    go_wp2_with fail
    refine (cvReach_c m _ l a _ HG.out HR3.out).mono ?_; rintro e w4 ⟨xr, rfl, hor, hb4⟩
    rw [reachL_len] at hor
    obtain ⟨gr, capr, rfl, hbr, hrl, hcapr, _⟩ := own_shape hor (by omega)
    have HBB := Lib.hid (bel_then HB3.out hb4)
    have HQ4 := Lib.hid (rdi_below HQ3.out hb4)
    have HOR := Lib.hid hor
    obtain ⟨Ao, co, hxo, hco, hmo, hro⟩ := rdi_below HO3.out hb4
    subst hxo
    rw [maxLen_eq] at hmo
    have HRO := Lib.hid hro
    clear hor hb4 hro b0 b1
    go_wp2_with fail
    go_loopw [12, 13, 47] (fun v10 v11 v35 wr => ∃ (k : Nat) (b c : Int), k ≤ m ∧ v35 = .int .i64 k ∧ v10 = .int .i64 b ∧ v11 = .int .i64 c ∧ -1 ≤ c ∧ c ≤ 14 ∧ Hid (bestB m (arcs l) a o q k = (b, c)) ∧ wr = w4) (fun _ _ v35 _ => m - (intOf v35).toNat)
    case atStart => exact ⟨0, 0, -1, Nat.zero_le _, rfl, rfl, rfl, by omega, by omega, Lib.hid rfl, rfl⟩
    case round =>
      obtain ⟨k, b, c, hk, rfl, rfl, rfl, hc0, hc1, HBK, rfl⟩ := hrel
      obtain ⟨wA, rfl⟩ : ∃ wA : World, wA = wr := ⟨_, rfl⟩
      by_cases hlt : k < m
      · go_wp2_with fail
        refine (l1Has_c _ (k : Int) q _ HQ4.out).mono ?_; rintro e w' ⟨rfl, rfl⟩
        by_cases hmem : (k : Int) ∈ q
        · rw [decide_eq_true hmem]
          have HN : Hid (bestB m (arcs l) a o q (k + 1) = (b, c)) := Lib.hid (by rw [bestB_succ, HBK.out]; unfold stepB; rw [if_pos hmem])
          clear hmem
          go_wp2
          exact ⟨⟨k + 1, b, c, by omega, by go_num, rfl, rfl, hc0, hc1, HN, (by first | rfl | trivial)⟩, by simp [intOf]; omega⟩
        · rw [decide_eq_false hmem]
          have HN : Hid (bestB m (arcs l) a o q (k + 1) = if c < (cntB m (arcs l) a o k : Int) then ((k : Int), (cntB m (arcs l) a o k : Int)) else (b, c)) := Lib.hid (by rw [bestB_succ, HBK.out]; unfold stepB; rw [if_neg hmem])
          have cR := own_cell HOR.out hlt
          rw [reachL_get hlt] at cR
          have hRlt := reachM_lt m (arcs l) a k
          have hpb := pow_bd (show m ≤ 14 by omega)
          obtain ⟨R, hR⟩ : ∃ R, reachM m (arcs l) a k = R := ⟨_, rfl⟩
          rw [hR] at cR hRlt
          have HR' := Lib.hid hR
          have hRb : R < 16384 := by omega
          clear hmem hRlt hpb hR
          go_wp2_with fail
          go_loopw [15, 55] (fun v13 v45 wr2 => ∃ (i t : Nat), i ≤ o.length ∧ t ≤ i ∧ v45 = .int .i64 i ∧ v13 = .int .i64 t ∧ Hid (((o.take i).filter (hitP m (arcs l) a k)).length = t) ∧ wr2 = wA) (fun _ v45 _ => o.length - (intOf v45).toNat)
          case atStart => exact ⟨0, 0, Nat.zero_le _, Nat.le_refl _, rfl, rfl, Lib.hid rfl, rfl⟩
          case round =>
            obtain ⟨i, t, hi, hti, rfl, rfl, HT, rfl⟩ := hrel
            by_cases hio : i < o.length
            · obtain ⟨bb, off, rfl, hbl, hcell⟩ := HRO.out (by omega)
              obtain ⟨x, hx⟩ : ∃ x, o[i]? = some x := ⟨_, List.getElem?_eq_getElem hio⟩
              have cx := hcell _ _ (ints_get hx)
              obtain ⟨xn, rfl, hxm⟩ := HMEM.out x (List.mem_of_getElem? hx)
              have HX := Lib.hid hx
              have j0 : (0 : Int) ≤ (xn : Int) := by omega
              have j1 : (xn : Int) ≤ 64 := by omega
              have u1 : IntKind.u64.wrap (xn : Int) = (xn : Int) := by rw [IntKind.wrap_u64]; omega
              have hh : hitP m (arcs l) a k (xn : Int) = R.testBit xn := by unfold hitP; rw [Int.toNat_natCast, ← reachM_bit hxm, HR'.out]
              have hbit := bit_of R xn (by omega)
              have HH := Lib.hid hh
              clear hx hcell hh
              by_cases hin : R.testBit xn = true
              · rw [if_pos hin] at hbit
                have HT' : Hid (((o.take (i + 1)).filter (hitP m (arcs l) a k)).length = t + 1) := Lib.hid (by rw [take_succ_of HX.out, List.filter_append, List.length_append, HT.out]; simp [HH.out, hin])
                clear hin
                go_wp2
                exact ⟨⟨i + 1, t + 1, by omega, by omega, by go_num, by go_num, HT', (by first | rfl | trivial)⟩, by simp [intOf]; omega⟩
              · rw [if_neg hin] at hbit
                have hin' : R.testBit xn = false := by simpa using hin
                have HT' : Hid (((o.take (i + 1)).filter (hitP m (arcs l) a k)).length = t) := Lib.hid (by rw [take_succ_of HX.out, List.filter_append, List.length_append, HT.out]; simp [HH.out, hin'])
                clear hin hin'
                go_wp2
                exact ⟨⟨i + 1, t, by omega, by omega, by go_num, rfl, HT', (by first | rfl | trivial)⟩, by simp [intOf]; omega⟩
            · obtain rfl : i = o.length := by omega
              have e := HT.out
              rw [List.take_length] at e
              have HC : Hid (cntB m (arcs l) a o k = t) := Lib.hid e
              clear e
              by_cases hct : c < (t : Int)
              · have HN' : Hid (bestB m (arcs l) a o q (k + 1) = ((k : Int), (t : Int))) := Lib.hid (by rw [HN.out, HC.out, if_pos hct])
                go_wp2
                exact ⟨⟨k + 1, (k : Int), (t : Int), by omega, by go_num, rfl, rfl, by omega, by omega, HN', (by first | rfl | trivial)⟩, by simp [intOf]; omega⟩
              · have HN' : Hid (bestB m (arcs l) a o q (k + 1) = (b, c)) := Lib.hid (by rw [HN.out, HC.out, if_neg hct])
                have hct' : (t : Int) ≤ c := by omega
                go_wp2
                exact ⟨⟨k + 1, b, c, by omega, by go_num, rfl, rfl, hc0, hc1, HN', (by first | rfl | trivial)⟩, by simp [intOf]; omega⟩
      · obtain rfl : k = m := by omega
        have HW : Hid (bestFurtherW k l q a = (b, c, true)) := Lib.hid (by rw [HWV.out, HBK.out])
        go_wp2
        go_ret3
        rw [HF.out, HW.out]
        exact ⟨rfl, HBB.out⟩
  · have hok : askC n l q a = false := by simpa using hok
    have HF : Hid (bestFurtherV n l q a = (0, 0, false)) := Lib.hid (by unfold bestFurtherV; rw [hok]; rfl)
    go_enter Try.func36, Try.ntmps36
    go_wp2_with (go_at_call 60; refine (cvAsked_c n s l _ q a _ (rd_below HR.out (hbx _)) (rdi_below HQ.out (hbx _))).mono ?_; rw [hok]; rintro e w' ⟨rfl, hb1⟩)
    go_ret3
    rw [HF.out]
    exact ⟨rfl, bel_then (hbx _) hb1⟩
end Go.Proofs.Ytahehdgkbhjpoaa
