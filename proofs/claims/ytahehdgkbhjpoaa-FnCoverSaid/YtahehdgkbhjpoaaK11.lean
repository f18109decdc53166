/-
  Sets of nodes as bits of a number; the reference's table of reached nodes. The fewest stations that cover all: both sides' search, in plain words, and that they find the same. (joined by pack.py: Bits Few)
-/
import Derived.Test.YtahehdgkbhjpoaaK9
import Derived.Test.YtahehdgkbhjpoaaK10
import Derived.Laws.Bits64b
import Derived.Outline
namespace Go.Proofs.Ytahehdgkbhjpoaa
set_option linter.unusedVariables false
set_option linter.unusedSimpArgs false
open Go.RowKit

/-- Whether node i is reached from node n. -/
def reachP (m : Nat) (ar : List Arc) (a : Int) (n i : Nat) : Bool := inB ((distT m ar n).getD i 0) 0 a
def reachM (m : Nat) (ar : List Arc) (a : Int) (n : Nat) : Nat := maskP (reachP m ar a n) m
def reachL (m : Nat) (ar : List Arc) (a : Int) : List Int := (List.range m).map fun n => (reachM m ar a n : Int)
theorem reachL_len (m : Nat) (ar : List Arc) (a : Int) : (reachL m ar a).length = m := by simp [reachL]
theorem reachL_get {m : Nat} {ar : List Arc} {a : Int} {n : Nat} (h : n < m) : (reachL m ar a).getD n 0 = (reachM m ar a n : Int) := by simp [reachL, List.getD, h]
theorem reachM_bit {m : Nat} {ar : List Arc} {a : Int} {n i : Nat} (h : i < m) : (reachM m ar a n).testBit i = reachP m ar a n i := by
  unfold reachM; rw [maskP_bit, decide_eq_true h]; rfl
theorem reachM_lt (m : Nat) (ar : List Arc) (a : Int) (n : Nat) : reachM m ar a n < 2 ^ m := maskP_lt _ _
/-- The table while row n is being filled up to column j. -/
def rowAt (m : Nat) (ar : List Arc) (a : Int) (n : Nat) : List Int := (reachL m ar a).take n ++ List.replicate (m - n) 0
theorem rowAt_len {m : Nat} {ar : List Arc} {a : Int} {n : Nat} (h : n ≤ m) : (rowAt m ar a n).length = m := by
  unfold rowAt; rw [List.length_append, List.length_take, reachL_len, List.length_replicate]; omega
theorem rowAt_get {m : Nat} {ar : List Arc} {a : Int} {n : Nat} (h : n < m) : (rowAt m ar a n)[n]? = some 0 := by
  unfold rowAt
  rw [List.getElem?_append_right (by rw [List.length_take, reachL_len]; omega), List.length_take, reachL_len, List.getElem?_replicate, if_pos (by omega)]
theorem rowAt_set {m : Nat} {ar : List Arc} {a : Int} {n : Nat} (h : n < m) : (rowAt m ar a n).set n (reachM m ar a n : Int) = rowAt m ar a (n + 1) := by
  have hx : (reachL m ar a)[n]? = some (reachM m ar a n : Int) := by simp [reachL, h]
  unfold rowAt
  have hl : ((reachL m ar a).take n).length = n := by rw [List.length_take, reachL_len]; omega
  obtain ⟨k, hk⟩ : ∃ k, m - n = k + 1 := ⟨m - n - 1, by omega⟩
  rw [List.set_append_right (h := by omega), hl, Nat.sub_self, hk, List.replicate_succ, List.set_cons_zero, take_succ_of hx, List.append_assoc, show m - (n + 1) = k by omega]
  rfl
theorem rowAt_full (m : Nat) (ar : List Arc) (a : Int) : rowAt m ar a m = reachL m ar a := by
  unfold rowAt; rw [List.take_of_length_le (by rw [reachL_len]; exact Nat.le_refl _), Nat.sub_self]; simp

set_option maxRecDepth 100000 in
set_option maxHeartbeats 1000000 in
theorem cvReach_c (m : Nat) (s : Value) (l : List St) (a : Int) (w : World) (hg : goodTown m l = true) (hr : Rd w s l.length (l.flatMap St.cells)) :
    Calls Try.prog 70 #[.agg #[.int .i64 m, s], .int .i64 a] w (OwnI (reachL m (arcs l) a) w) := by
  have HR := Lib.hid hr
  obtain ⟨As, cs, rfl, _⟩ := hr
  obtain ⟨hn1, hn2, hl40, _⟩ := goodTown_true hg
  obtain ⟨i0, hi, hz0, hz1, hz2⟩ := info_parts Try.infoInt
  have HG := Lib.hid hg
  clear hg
  go_enter Try.func70, Try.ntmps70
  go_wp2_with (at_make; refine wpList_make_full _ rfl _ _ 27 rfl w.heap.size 3 i0 _ 1 Try.underlying27 hi hz0 hz1 _ _ _ _ m rfl rfl rfl rfl (by rw [hz2]; omega) (by rw [maxLen_eq]; omega) (by simp) ?_; intro w2 hown2 hg2; rw [made_ints, World.size_alloc] at hown2; have b0 : w2.cell? ⟨w.heap.size, 0, none⟩ = some (.int .i64 m) := (by rw [World.cell?_of_block (hg2.block w.heap.size (by simp) (by simp))]; simp [go_sem]); have b1 : w2.cell? ⟨w.heap.size, 1, none⟩ = some (.slice As l.length cs) := (by rw [World.cell?_of_block (hg2.block w.heap.size (by simp) (by simp))]; simp [go_sem]); have HB2 : Hid (Below w.heap.size w w2) := Lib.hid (bel_grown (bel_al (Below.refl _ _) _) hg2 (fun k h => by cases h)); have HO2 := Lib.hid hown2; clear hown2 hg2)
  obtain ⟨g, hgdef⟩ : ∃ g, g = w.heap.size + 1 := ⟨_, rfl⟩
  rw [← hgdef] at HO2 ⊢
  have hgw : w.heap.size < g := by omega
  have hg0 : w.heap.size ≤ g := by omega
  have HGE : Hid (∀ q, some g = some q → w.heap.size ≤ q) := Lib.hid (fun q e => by have := Option.some.inj e; omega)
  have hgs : g < w2.heap.size := (HO2.out.lt g rfl).2
  clear hgdef
  go_loopw [14] (fun v14 wr => ∃ (n : Nat), n ≤ m ∧ v14 = .int .i64 n ∧ Hid (wr.ownsRow w.heap.size 3 1 (.slice (some ⟨g, 0, none⟩) m m) m (ints (rowAt m (arcs l) a n))) ∧ Hid (w2.grownBy wr (some g))) (fun v14 _ => m - (intOf v14).toNat)
  case atStart => exact ⟨0, Nat.zero_le _, rfl, by unfold rowAt; simpa using HO2, Lib.hid (World.grownBy.refl _ _)⟩
  case round =>
    obtain ⟨n, hn, rfl, HOW, HGR⟩ := hrel
    obtain ⟨wA, rfl⟩ : ∃ wA : World, wA = wr := ⟨_, rfl⟩
    by_cases hlt : n < m
    · have hbA : Below w.heap.size w wA := gro_new HB2.out HGR.out HGE.out
      have hs2 := HGR.out.size
      have z0 : wA.cell? ⟨w.heap.size, 0, none⟩ = some (.int .i64 m) := (gro_cell HGR.out (by omega) (by omega)).trans b0
      have z1 : wA.cell? ⟨w.heap.size, 1, none⟩ = some (.slice As l.length cs) := (gro_cell HGR.out (by omega) (by omega)).trans b1
      have HBA := Lib.hid hbA
      clear hbA
      go_wp2_with fail
      refine (toTimes_c m _ l n _ HG.out hlt (rd_below HR.out HBA.out)).mono ?_
      rintro e w5 ⟨v5, rfl, ho5, hb5⟩
      rw [distT_len] at ho5
      obtain ⟨h, cap5, rfl, hbh, hhl, hcap5, hcm5⟩ := own_shape ho5 (by omega)
      have hgA : g < wA.heap.size := (HOW.out.lt g rfl).2
      have HO5 := Lib.hid ho5
      have HGR5 : Hid (w2.grownBy w5 (some g)) := Lib.hid (gro_bel HGR.out hb5)
      have HOW5 : Hid (w5.ownsRow w.heap.size 3 1 (.slice (some ⟨g, 0, none⟩) m m) m (ints ((rowAt m (arcs l) a n).set n (maskP (reachP m (arcs l) a n) 0 : Nat)))) := Lib.hid (by
        have e : (rowAt m (arcs l) a n).set n ((maskP (reachP m (arcs l) a n) 0 : Nat) : Int) = rowAt m (arcs l) a n := by
          apply List.ext_getElem?
          intro i
          rw [List.getElem?_set]
          split
          · rename_i h; subst h
            rw [if_pos (by rw [rowAt_len (by omega)]; exact hlt), rowAt_get hlt]; rfl
          · rfl
        rw [e]; exact own_below HOW.out hb5)
      clear hb5 ho5 z0 z1
      go_wp2_with fail
      go_loopw [21] (fun v21 wr2 => ∃ (j : Nat), j ≤ m ∧ v21 = .int .i64 j ∧ Hid (wr2.ownsRow w.heap.size 3 1 (.slice (some ⟨g, 0, none⟩) m m) m (ints ((rowAt m (arcs l) a n).set n (maskP (reachP m (arcs l) a n) j : Nat)))) ∧ Hid (w5.grownBy wr2 (some g))) (fun v21 _ => m - (intOf v21).toNat)
      case atStart => exact ⟨0, Nat.zero_le _, rfl, HOW5, Lib.hid (World.grownBy.refl _ _)⟩
      case round =>
        obtain ⟨j, hj, rfl, HOWj, HGRj⟩ := hrel
        obtain ⟨wB, rfl⟩ : ∃ wB : World, wB = wr := ⟨_, rfl⟩
        by_cases hjm : j < m
        · have ce := (gro_cell (o := j) HGRj.out hhl (by omega)).trans (own_cell HO5.out hjm)
          have co := own_cell HOWj.out hlt
          have fo := HOWj.out.frozenAt n
          have e0 : ((rowAt m (arcs l) a n).set n (maskP (reachP m (arcs l) a n) j : Nat)).getD n 0 = (maskP (reachP m (arcs l) a n) j : Nat) := by rw [getD_set, if_pos ⟨rfl, by rw [rowAt_len (by omega)]; exact hlt⟩]
          rw [e0] at co
          obtain ⟨x, hx⟩ : ∃ x, (distT m (arcs l) n).getD j 0 = x := ⟨_, rfl⟩
          rw [hx] at ce
          obtain ⟨M, hM⟩ : ∃ M, maskP (reachP m (arcs l) a n) j = M := ⟨_, rfl⟩
          obtain ⟨b, hb⟩ : ∃ b : Nat, 2 ^ j = b := ⟨_, rfl⟩
          have hMlt := maskP_lt (reachP m (arcs l) a n) j
          have hpb := pow_bd (show j ≤ 14 by omega)
          rw [hM, hb] at hMlt
          rw [hb] at hpb
          rw [hM] at co
          have HX := Lib.hid hx
          have HM := Lib.hid hM
          have HBE := Lib.hid hb
          have e1 : IntKind.i64.wrap ((2 : Int) ^ j) = (b : Int) := by
            have : (2 : Int) ^ j = (b : Int) := by rw [← hb, Int.natCast_pow]; rfl
            rw [this, IntKind.wrap_i64]; omega
          have e2 : IntKind.u64.wrap (j : Int) = (j : Int) := by rw [IntKind.wrap_u64]; omega
          obtain ⟨M2, hM2⟩ : ∃ M2, M ||| b = M2 := ⟨_, rfl⟩
          have e3 : bits .or .i64 (M : Int) (b : Int) = (M2 : Int) := by rw [bits_or_i64_nat M b (by omega) (by omega), hM2]
          have HM2 := Lib.hid hM2
          clear hx hM hb hM2 e0
          go_wp2_with fail
          refine (l1In_c _ _ _ _).mono ?_; rintro e w' ⟨rfl, rfl⟩
          by_cases hin : inB x 0 a = true
          · rw [hin]
            have HMK : Hid (maskP (reachP m (arcs l) a n) (j + 1) = M2) := Lib.hid (by
              show (if reachP m (arcs l) a n j = true then maskP (reachP m (arcs l) a n) j ||| 2 ^ j else maskP (reachP m (arcs l) a n) j) = M2
              rw [if_pos (by unfold reachP; rw [HX.out]; exact hin), HM.out, HBE.out, HM2.out])
            clear hin
            go_wp2
            refine ⟨⟨j + 1, by omega, by go_num, Lib.hid ?_, Lib.hid (only_setCell HGRj.out n _)⟩, by simp [intOf]; omega⟩
            have h := own_setI HOWj.out n (M2 : Int)
            rw [List.set_set] at h
            rw [HMK.out]; exact h
          · have hin' : inB x 0 a = false := by simpa using hin
            rw [hin']
            have HMK : Hid (maskP (reachP m (arcs l) a n) (j + 1) = maskP (reachP m (arcs l) a n) j) := Lib.hid (by
              show (if reachP m (arcs l) a n j = true then maskP (reachP m (arcs l) a n) j ||| 2 ^ j else maskP (reachP m (arcs l) a n) j) = _
              rw [if_neg (by unfold reachP; rw [HX.out, hin']; simp)])
            clear hin hin'
            go_wp2
            refine ⟨⟨j + 1, by omega, by go_num, Lib.hid ?_, HGRj⟩, by simp [intOf]; omega⟩
            rw [HMK.out]; exact HOWj.out
        · obtain rfl : j = m := by omega
          go_wp2
          refine ⟨⟨n + 1, by omega, by go_num, Lib.hid ?_, Lib.hid (gro_trans HGR5.out HGRj.out)⟩, by simp [intOf]; omega⟩
          rw [← rowAt_set hlt]
          exact HOWj.out
    · obtain rfl : n = m := by omega
      go_wp2
      go_ret
      refine ⟨_, rfl, ?_, gro_new HB2.out HGR.out HGE.out⟩
      rw [reachL_len, ← rowAt_full]; exact HOW.out
end Go.Proofs.Ytahehdgkbhjpoaa

namespace Go.Proofs.Ytahehdgkbhjpoaa
set_option linter.unusedVariables false
set_option linter.unusedSimpArgs false

/-- The first place from i on at which f finds something. -/
def tryFrom (f : Nat → Option (List Int)) : Nat → Nat → Option (List Int)
  | _, 0 => none
  | i, k + 1 => match f i with
    | some r => some ((i : Int) :: r)
    | none => tryFrom f (i + 1) k
theorem tryFrom_none {f : Nat → Option (List Int)} : ∀ (k i : Nat), tryFrom f i k = none → ∀ j, i ≤ j → j < i + k → f j = none := by
  intro k
  induction k with
  | zero => intro i _ j h1 h2; omega
  | succ k ih =>
    intro i h j h1 h2
    unfold tryFrom at h
    cases hf : f i with
    | some r => rw [hf] at h; simp at h
    | none =>
      rw [hf] at h
      rcases Nat.eq_or_lt_of_le h1 with e | e
      · rw [← e]; exact hf
      · exact ih (i + 1) h j (by omega) (by omega)
theorem tryFrom_congr {f g : Nat → Option (List Int)} : ∀ (k i : Nat), (∀ j, i ≤ j → j < i + k → f j = g j) → tryFrom f i k = tryFrom g i k := by
  intro k
  induction k with
  | zero => intro i _; rfl
  | succ k ih =>
    intro i h
    unfold tryFrom
    rw [h i (by omega) (by omega), ih (i + 1) (fun j h1 h2 => h j (by omega) (by omega))]
theorem tryFrom_len {f : Nat → Option (List Int)} {n : Nat} (hf : ∀ j r, f j = some r → r.length = n) : ∀ (k i : Nat) (r : List Int), tryFrom f i k = some r → r.length = n + 1 := by
  intro k
  induction k with
  | zero => intro i r h; simp [tryFrom] at h
  | succ k ih =>
    intro i r h
    unfold tryFrom at h
    cases hfi : f i with
    | some r' => rw [hfi] at h; simp at h; subst h; simp [hf i r' hfi]
    | none => rw [hfi] at h; exact ih _ _ h
def implS (sets : List Nat) (all : Nat) : Nat → Nat → Nat → Option (List Int)
  | 0, _, cov => if cov = all then some [] else none
  | left + 1, first, cov => tryFrom (fun i => implS sets all left (i + 1) (cov ||| sets.getD i 0)) first (sets.length - first)
def specS (sets : List Nat) (all : Nat) : Nat → Nat → Nat → Option (List Int)
  | 0, _, cov => if cov = all then some [] else none
  | left + 1, first, cov => if cov = all then none else tryFrom (fun i => specS sets all left (i + 1) (cov ||| sets.getD i 0)) first (sets.length - first)
theorem implS_len (sets : List Nat) (all : Nat) : ∀ (left first cov : Nat) (r : List Int), implS sets all left first cov = some r → r.length = left := by
  intro left
  induction left with
  | zero => intro first cov r h; unfold implS at h; split at h <;> simp at h; subst h; rfl
  | succ left ih => intro first cov r h; unfold implS at h; exact tryFrom_len (fun j r' h' => ih _ _ _ h') _ _ _ h
theorem specS_len (sets : List Nat) (all : Nat) : ∀ (left first cov : Nat) (r : List Int), specS sets all left first cov = some r → r.length = left := by
  intro left
  induction left with
  | zero => intro first cov r h; unfold specS at h; split at h <;> simp at h; subst h; rfl
  | succ left ih =>
    intro first cov r h
    unfold specS at h
    split at h
    · cases h
    · exact tryFrom_len (fun j r' h' => ih _ _ _ h') _ _ _ h
/-- Places from one on, increasing. -/
def Sel (N : Nat) : Nat → List Nat → Prop
  | _, [] => True
  | first, i :: e => first ≤ i ∧ i < N ∧ Sel N (i + 1) e
def coverS (sets : List Nat) (cov : Nat) (e : List Nat) : Nat := e.foldl (fun c i => c ||| sets.getD i 0) cov
theorem implS_none (sets : List Nat) (all : Nat) : ∀ (left first cov : Nat), implS sets all left first cov = none → ∀ e, Sel sets.length first e → e.length = left → coverS sets cov e ≠ all := by
  intro left
  induction left with
  | zero =>
    intro first cov h e _ hl
    have : e = [] := List.eq_nil_of_length_eq_zero hl
    subst this
    unfold implS at h
    intro hc
    have hc' : cov = all := hc
    rw [if_pos hc'] at h; cases h
  | succ left ih =>
    intro first cov h e hs hl
    cases e with
    | nil => simp at hl
    | cons i e =>
      obtain ⟨h1, h2, h3⟩ := hs
      unfold implS at h
      have := tryFrom_none _ _ h i h1 (by omega)
      exact ih _ _ this e h3 (by simpa using hl)
theorem spec_eq_impl (sets : List Nat) (all : Nat) : ∀ (left first cov : Nat), (∀ e, Sel sets.length first e → e.length < left → coverS sets cov e ≠ all) → specS sets all left first cov = implS sets all left first cov := by
  intro left
  induction left with
  | zero => intro first cov _; rfl
  | succ left ih =>
    intro first cov h
    have h0 : cov ≠ all := h [] trivial (by simp)
    unfold specS implS
    rw [if_neg h0]
    refine tryFrom_congr _ _ (fun j h1 h2 => ih _ _ (fun e he hl => ?_))
    exact h (j :: e) ⟨h1, by omega, he⟩ (by simp; omega)
/-- The first number from k on for which f finds something. -/
def firstN (f : Nat → Option (List Int)) : Nat → Nat → Option (List Int)
  | _, 0 => none
  | k, n + 1 => match f k with
    | some r => some r
    | none => firstN f (k + 1) n
theorem firstN_len {f : Nat → Option (List Int)} (hf : ∀ j r, f j = some r → r.length = j) : ∀ (n k : Nat) (r : List Int), firstN f k n = some r → r.length ≤ k + n := by
  intro n
  induction n with
  | zero => intro k r h; simp [firstN] at h
  | succ n ih =>
    intro k r h
    unfold firstN at h
    cases hfi : f k with
    | some r' => rw [hfi] at h; simp at h; subst h; rw [hf k r' hfi]; omega
    | none => rw [hfi] at h; have := ih _ _ h; omega
theorem few_eq (sets : List Nat) (all : Nat) : ∀ (n k : Nat), (∀ j, j < k → implS sets all j 0 0 = none) → firstN (fun j => specS sets all j 0 0) k n = firstN (fun j => implS sets all j 0 0) k n := by
  intro n
  induction n with
  | zero => intro k _; rfl
  | succ n ih =>
    intro k h
    have e : specS sets all k 0 0 = implS sets all k 0 0 := spec_eq_impl sets all k 0 0 (fun e he hl => implS_none sets all e.length 0 0 (h _ hl) e he rfl)
    unfold firstN
    rw [e]
    cases hk : implS sets all k 0 0 with
    | some r => rfl
    | none =>
      show firstN _ (k + 1) n = firstN _ (k + 1) n
      refine ih (k + 1) (fun j hj => ?_)
      rcases Nat.lt_or_ge j k with h1 | h1
      · exact h j h1
      · obtain rfl : j = k := by omega
        exact hk
def optL : Option (List Int) → List Int × Bool
  | none => ([], false)
  | some l => (l, true)
def setsL (m : Nat) (ar : List Arc) (a : Int) : List Nat := (List.range m).map (reachM m ar a)
theorem setsL_len (m : Nat) (ar : List Arc) (a : Int) : (setsL m ar a).length = m := by simp [setsL]
theorem setsL_get {m : Nat} {ar : List Arc} {a : Int} {n : Nat} (h : n < m) : (setsL m ar a).getD n 0 = reachM m ar a n := by simp [setsL, List.getD, h]
theorem few_all (m : Nat) (ar : List Arc) (a : Int) (hm : 1 ≤ m) (n : Nat) : firstN (fun j => specS (setsL m ar a) (2 ^ m - 1) j 0 0) 1 n = firstN (fun j => implS (setsL m ar a) (2 ^ m - 1) j 0 0) 1 n := by
  refine few_eq _ _ n 1 (fun j hj => ?_)
  obtain rfl : j = 0 := by omega
  unfold implS
  rw [if_neg]
  have : 2 ^ 1 ≤ 2 ^ m := Nat.pow_le_pow_right (by omega) hm
  omega
end Go.Proofs.Ytahehdgkbhjpoaa
