/-
  Sets of nodes as bits of a number; the reference's table of reached nodes.
-/
import Derived.Test.YtemcdgchleijbaaCovC
import Derived.Laws.Bits64b
import Derived.Outline
namespace Go.Proofs.Ytemcdgchleijbaa
open Go.RowKit

theorem bits_or_i64_nat (a b : Nat) (ha : a < 9223372036854775808) (hb : b < 9223372036854775808) : bits .or .i64 (a : Int) (b : Int) = ((a ||| b : Nat) : Int) := by
  have hx : a ||| b < 2 ^ 63 := Nat.or_lt_two_pow (by omega) (by omega)
  have h1 : (BitVec.ofInt 64 (a : Int)).toNat = a := by
    rw [BitVec.ofInt_natCast, BitVec.toNat_ofNat]; exact Nat.mod_eq_of_lt (by omega)
  have h2 : (BitVec.ofInt 64 (b : Int)).toNat = b := by
    rw [BitVec.ofInt_natCast, BitVec.toNat_ofNat]; exact Nat.mod_eq_of_lt (by omega)
  show IntKind.i64.wrap ((BitVec.ofInt 64 (a : Int) ||| BitVec.ofInt 64 (b : Int)).toNat : Int) = _
  rw [BitVec.toNat_or, h1, h2, IntKind.wrap_i64]
  omega
theorem bits_and_i64_nat (a b : Nat) (ha : a < 9223372036854775808) (hb : b < 9223372036854775808) : bits .and .i64 (a : Int) (b : Int) = ((a &&& b : Nat) : Int) := by
  have hx : a &&& b < 2 ^ 63 := Nat.and_lt_two_pow _ (by omega)
  have h1 : (BitVec.ofInt 64 (a : Int)).toNat = a := by
    rw [BitVec.ofInt_natCast, BitVec.toNat_ofNat]; exact Nat.mod_eq_of_lt (by omega)
  have h2 : (BitVec.ofInt 64 (b : Int)).toNat = b := by
    rw [BitVec.ofInt_natCast, BitVec.toNat_ofNat]; exact Nat.mod_eq_of_lt (by omega)
  show IntKind.i64.wrap ((BitVec.ofInt 64 (a : Int) &&& BitVec.ofInt 64 (b : Int)).toNat : Int) = _
  rw [BitVec.toNat_and, h1, h2, IntKind.wrap_i64]
  omega
/-- The bit j of a number, as the program takes it. -/
theorem bit_of (M j : Nat) (hM : M < 9223372036854775808) : bits .and .i64 ((M : Int) / 2 ^ j) 1 = if M.testBit j = true then 1 else 0 := by
  have e : ((M : Int) / 2 ^ j) = ((M >>> j : Nat) : Int) := by
    rw [Nat.shiftRight_eq_div_pow]
    rw [Int.natCast_ediv, Int.natCast_pow]; rfl
  have hlt : M >>> j < 9223372036854775808 := Nat.lt_of_le_of_lt (by rw [Nat.shiftRight_eq_div_pow]; exact Nat.div_le_self _ _) hM
  rw [e, show (1 : Int) = ((1 : Nat) : Int) from rfl, bits_and_i64_nat _ _ hlt (by omega)]
  have h1 : M >>> j &&& 1 = (M >>> j) % 2 := Nat.and_one_is_mod _
  rw [h1]
  have h2 : M.testBit j = decide ((M >>> j) % 2 = 1) := by
    rw [Nat.testBit, Nat.and_comm, h1]
    rcases Nat.mod_two_eq_zero_or_one (M >>> j) with h | h <;> simp [h]
  rw [h2]
  rcases Nat.mod_two_eq_zero_or_one (M >>> j) with h | h <;> simp [h]

def maskP (p : Nat → Bool) : Nat → Nat
  | 0 => 0
  | k + 1 => if p k = true then maskP p k ||| 2 ^ k else maskP p k
theorem maskP_lt (p : Nat → Bool) : ∀ k, maskP p k < 2 ^ k := by
  intro k
  induction k with
  | zero => simp [maskP]
  | succ k ih =>
    have h2 : 2 ^ (k + 1) = 2 ^ k + 2 ^ k := by rw [Nat.pow_succ]; omega
    unfold maskP
    split
    · exact Nat.or_lt_two_pow (by omega) (by have := Nat.two_pow_pos k; omega)
    · omega
theorem maskP_bit (p : Nat → Bool) : ∀ k i, (maskP p k).testBit i = (decide (i < k) && p i) := by
  intro k
  induction k with
  | zero => intro i; simp [maskP]
  | succ k ih =>
    intro i
    unfold maskP
    split
    · rename_i h
      rw [Nat.testBit_or, ih, Nat.testBit_two_pow]
      by_cases e : k = i
      · subst e; simp [h]
      · have : decide (i < k + 1) = decide (i < k) := by rw [decide_eq_decide]; omega
        rw [this]; simp [e]
    · rename_i h
      rw [ih]
      by_cases e : k = i
      · subst e; simp [h]
      · have : decide (i < k + 1) = decide (i < k) := by rw [decide_eq_decide]; omega
        rw [this]
theorem pow_bd {k : Nat} (h : k ≤ 14) : 2 ^ k ≤ 16384 := by
  have : 2 ^ k ≤ 2 ^ 14 := Nat.pow_le_pow_right (by omega) h
  omega

/-- Whether node i is reached from node n. -/
def reachP (m : Nat) (ar : List Arc) (a : Int) (n i : Nat) : Bool := inB ((distT m ar n).getD i 0) 0 a
def reachM (m : Nat) (ar : List Arc) (a : Int) (n : Nat) : Nat := maskP (reachP m ar a n) m
def reachL (m : Nat) (ar : List Arc) (a : Int) : List Int := (List.range m).map fun n => (reachM m ar a n : Int)
theorem reachL_len (m : Nat) (ar : List Arc) (a : Int) : (reachL m ar a).length = m := by simp [reachL]
theorem reachL_get {m : Nat} {ar : List Arc} {a : Int} {n : Nat} (h : n < m) : (reachL m ar a).getD n 0 = (reachM m ar a n : Int) := by simp [reachL, List.getD, h]
theorem reachM_bit {m : Nat} {ar : List Arc} {a : Int} {n i : Nat} (h : i < m) : (reachM m ar a n).testBit i = reachP m ar a n i := by
  unfold reachM; rw [maskP_bit, decide_eq_true h]; rfl
theorem reachM_lt (m : Nat) (ar : List Arc) (a : Int) (n : Nat) : reachM m ar a n < 2 ^ m := maskP_lt _ _
/-- The table while row n is being filled up to column j. -/
def rowAt (m : Nat) (ar : List Arc) (a : Int) (n : Nat) : List Int := (reachL m ar a).take n ++ List.replicate (m - n) 0
theorem rowAt_len {m : Nat} {ar : List Arc} {a : Int} {n : Nat} (h : n ≤ m) : (rowAt m ar a n).length = m := by
  unfold rowAt; rw [List.length_append, List.length_take, reachL_len, List.length_replicate]; omega
theorem rowAt_get {m : Nat} {ar : List Arc} {a : Int} {n : Nat} (h : n < m) : (rowAt m ar a n)[n]? = some 0 := by
  unfold rowAt
  rw [List.getElem?_append_right (by rw [List.length_take, reachL_len]; omega), List.length_take, reachL_len, List.getElem?_replicate, if_pos (by omega)]
theorem rowAt_set {m : Nat} {ar : List Arc} {a : Int} {n : Nat} (h : n < m) : (rowAt m ar a n).set n (reachM m ar a n : Int) = rowAt m ar a (n + 1) := by
  have hx : (reachL m ar a)[n]? = some (reachM m ar a n : Int) := by simp [reachL, h]
  unfold rowAt
  have hl : ((reachL m ar a).take n).length = n := by rw [List.length_take, reachL_len]; omega
  obtain ⟨k, hk⟩ : ∃ k, m - n = k + 1 := ⟨m - n - 1, by omega⟩
  rw [List.set_append_right (h := by omega), hl, Nat.sub_self, hk, List.replicate_succ, List.set_cons_zero, take_succ_of hx, List.append_assoc, show m - (n + 1) = k by omega]
  rfl
theorem rowAt_full (m : Nat) (ar : List Arc) (a : Int) : rowAt m ar a m = reachL m ar a := by
  unfold rowAt; rw [List.take_of_length_le (by rw [reachL_len]; exact Nat.le_refl _), Nat.sub_self]; simp

set_option maxRecDepth 100000 in
set_option maxHeartbeats 1000000 in
theorem cvReach_c (m : Nat) (s : Value) (l : List St) (a : Int) (w : World) (hg : goodTown m l = true) (hr : Rd w s l.length (l.flatMap St.cells)) :
    Calls Try.prog 58 #[.agg #[.int .i64 m, s], .int .i64 a] w (OwnI (reachL m (arcs l) a) w) := by
  have HR := Lib.hid hr
  obtain ⟨As, cs, rfl, _⟩ := hr
  obtain ⟨hn1, hn2, hl40, _⟩ := goodTown_true hg
  obtain ⟨i0, hi, hz0, hz1, hz2⟩ := info_parts Try.infoInt
  have HG := Lib.hid hg
  clear hg
  go_enter Try.func58, Try.ntmps58
  go_wp2_with (at_make; refine wpList_make_full _ rfl _ _ 25 rfl w.heap.size 3 i0 _ 1 Try.underlying25 hi hz0 hz1 _ _ _ _ m rfl rfl rfl rfl (by rw [hz2]; omega) (by rw [maxLen_eq]; omega) (by simp) ?_; intro w2 hown2 hg2; rw [made_ints, World.size_alloc] at hown2; have b0 : w2.cell? ⟨w.heap.size, 0, none⟩ = some (.int .i64 m) := (by rw [World.cell?_of_block (hg2.block w.heap.size (by simp) (by simp))]; simp [go_sem]); have b1 : w2.cell? ⟨w.heap.size, 1, none⟩ = some (.slice As l.length cs) := (by rw [World.cell?_of_block (hg2.block w.heap.size (by simp) (by simp))]; simp [go_sem]); have HB2 : Hid (Below w.heap.size w w2) := Lib.hid (bel_grown (bel_al (Below.refl _ _) _) hg2 (fun k h => by cases h)); have HO2 := Lib.hid hown2; clear hown2 hg2)
  obtain ⟨g, hgdef⟩ : ∃ g, g = w.heap.size + 1 := ⟨_, rfl⟩
  rw [← hgdef] at HO2 ⊢
  have hgw : w.heap.size < g := by omega
  have hg0 : w.heap.size ≤ g := by omega
  have HGE : Hid (∀ q, some g = some q → w.heap.size ≤ q) := Lib.hid (fun q e => by have := Option.some.inj e; omega)
  have hgs : g < w2.heap.size := (HO2.out.lt g rfl).2
  clear hgdef
  go_loopw [14] (fun v14 wr => ∃ (n : Nat), n ≤ m ∧ v14 = .int .i64 n ∧ Hid (wr.ownsRow w.heap.size 3 1 (.slice (some ⟨g, 0, none⟩) m m) m (ints (rowAt m (arcs l) a n))) ∧ Hid (w2.grownBy wr (some g))) (fun v14 _ => m - (intOf v14).toNat)
  case atStart => exact ⟨0, Nat.zero_le _, rfl, by unfold rowAt; simpa using HO2, Lib.hid (World.grownBy.refl _ _)⟩
  case round =>
    obtain ⟨n, hn, rfl, HOW, HGR⟩ := hrel
    obtain ⟨wA, rfl⟩ : ∃ wA : World, wA = wr := ⟨_, rfl⟩
    by_cases hlt : n < m
    · have hbA : Below w.heap.size w wA := gro_new HB2.out HGR.out HGE.out
      have hs2 := HGR.out.size
      have z0 : wA.cell? ⟨w.heap.size, 0, none⟩ = some (.int .i64 m) := (gro_cell HGR.out (by omega) (by omega)).trans b0
      have z1 : wA.cell? ⟨w.heap.size, 1, none⟩ = some (.slice As l.length cs) := (gro_cell HGR.out (by omega) (by omega)).trans b1
      have HBA := Lib.hid hbA
      clear hbA
      go_wp2_with fail
      refine (toTimes_c m _ l n _ HG.out hlt (rd_below HR.out HBA.out)).mono ?_
      rintro e w5 ⟨v5, rfl, ho5, hb5⟩
      rw [distT_len] at ho5
      obtain ⟨h, cap5, rfl, hbh, hhl, hcap5, hcm5⟩ := own_shape ho5 (by omega)
      have hgA : g < wA.heap.size := (HOW.out.lt g rfl).2
      have HO5 := Lib.hid ho5
      have HGR5 : Hid (w2.grownBy w5 (some g)) := Lib.hid (gro_bel HGR.out hb5)
      have HOW5 : Hid (w5.ownsRow w.heap.size 3 1 (.slice (some ⟨g, 0, none⟩) m m) m (ints ((rowAt m (arcs l) a n).set n (maskP (reachP m (arcs l) a n) 0 : Nat)))) := Lib.hid (by
        have e : (rowAt m (arcs l) a n).set n ((maskP (reachP m (arcs l) a n) 0 : Nat) : Int) = rowAt m (arcs l) a n := by
          apply List.ext_getElem?
          intro i
          rw [List.getElem?_set]
          split
          · rename_i h; subst h
            rw [if_pos (by rw [rowAt_len (by omega)]; exact hlt), rowAt_get hlt]; rfl
          · rfl
        rw [e]; exact own_below HOW.out hb5)
      clear hb5 ho5 z0 z1
      go_wp2_with fail
      go_loopw [21] (fun v21 wr2 => ∃ (j : Nat), j ≤ m ∧ v21 = .int .i64 j ∧ Hid (wr2.ownsRow w.heap.size 3 1 (.slice (some ⟨g, 0, none⟩) m m) m (ints ((rowAt m (arcs l) a n).set n (maskP (reachP m (arcs l) a n) j : Nat)))) ∧ Hid (w5.grownBy wr2 (some g))) (fun v21 _ => m - (intOf v21).toNat)
      case atStart => exact ⟨0, Nat.zero_le _, rfl, HOW5, Lib.hid (World.grownBy.refl _ _)⟩
      case round =>
        obtain ⟨j, hj, rfl, HOWj, HGRj⟩ := hrel
        obtain ⟨wB, rfl⟩ : ∃ wB : World, wB = wr := ⟨_, rfl⟩
        by_cases hjm : j < m
        · have ce := (gro_cell (o := j) HGRj.out hhl (by omega)).trans (own_cell HO5.out hjm)
          have co := own_cell HOWj.out hlt
          have fo := HOWj.out.frozenAt n
          have e0 : ((rowAt m (arcs l) a n).set n (maskP (reachP m (arcs l) a n) j : Nat)).getD n 0 = (maskP (reachP m (arcs l) a n) j : Nat) := by rw [getD_set, if_pos ⟨rfl, by rw [rowAt_len (by omega)]; exact hlt⟩]
          rw [e0] at co
          obtain ⟨x, hx⟩ : ∃ x, (distT m (arcs l) n).getD j 0 = x := ⟨_, rfl⟩
          rw [hx] at ce
          obtain ⟨M, hM⟩ : ∃ M, maskP (reachP m (arcs l) a n) j = M := ⟨_, rfl⟩
          obtain ⟨b, hb⟩ : ∃ b : Nat, 2 ^ j = b := ⟨_, rfl⟩
          have hMlt := maskP_lt (reachP m (arcs l) a n) j
          have hpb := pow_bd (show j ≤ 14 by omega)
          rw [hM, hb] at hMlt
          rw [hb] at hpb
          rw [hM] at co
          have HX := Lib.hid hx
          have HM := Lib.hid hM
          have HBE := Lib.hid hb
          have e1 : IntKind.i64.wrap ((2 : Int) ^ j) = (b : Int) := by
            have : (2 : Int) ^ j = (b : Int) := by rw [← hb, Int.natCast_pow]; rfl
            rw [this, IntKind.wrap_i64]; omega
          have e2 : IntKind.u64.wrap (j : Int) = (j : Int) := by rw [IntKind.wrap_u64]; omega
          obtain ⟨M2, hM2⟩ : ∃ M2, M ||| b = M2 := ⟨_, rfl⟩
          have e3 : bits .or .i64 (M : Int) (b : Int) = (M2 : Int) := by rw [bits_or_i64_nat M b (by omega) (by omega), hM2]
          have HM2 := Lib.hid hM2
          clear hx hM hb hM2 e0
          go_wp2_with fail
          refine (l1In_c _ _ _ _).mono ?_; rintro e w' ⟨rfl, rfl⟩
          by_cases hin : inB x 0 a = true
          · rw [hin]
            have HMK : Hid (maskP (reachP m (arcs l) a n) (j + 1) = M2) := Lib.hid (by
              show (if reachP m (arcs l) a n j = true then maskP (reachP m (arcs l) a n) j ||| 2 ^ j else maskP (reachP m (arcs l) a n) j) = M2
              rw [if_pos (by unfold reachP; rw [HX.out]; exact hin), HM.out, HBE.out, HM2.out])
            clear hin
            go_wp2
            refine ⟨⟨j + 1, by omega, by go_num, Lib.hid ?_, Lib.hid (only_setCell HGRj.out n _)⟩, by simp [intOf]; omega⟩
            have h := own_setI HOWj.out n (M2 : Int)
            rw [List.set_set] at h
            rw [HMK.out]; exact h
          · have hin' : inB x 0 a = false := by simpa using hin
            rw [hin']
            have HMK : Hid (maskP (reachP m (arcs l) a n) (j + 1) = maskP (reachP m (arcs l) a n) j) := Lib.hid (by
              show (if reachP m (arcs l) a n j = true then maskP (reachP m (arcs l) a n) j ||| 2 ^ j else maskP (reachP m (arcs l) a n) j) = _
              rw [if_neg (by unfold reachP; rw [HX.out, hin']; simp)])
            clear hin hin'
            go_wp2
            refine ⟨⟨j + 1, by omega, by go_num, Lib.hid ?_, HGRj⟩, by simp [intOf]; omega⟩
            rw [HMK.out]; exact HOWj.out
        · obtain rfl : j = m := by omega
          go_wp2
          refine ⟨⟨n + 1, by omega, by go_num, Lib.hid ?_, Lib.hid (gro_trans HGR5.out HGRj.out)⟩, by simp [intOf]; omega⟩
          rw [← rowAt_set hlt]
          exact HOWj.out
    · obtain rfl : n = m := by omega
      go_wp2
      go_ret
      refine ⟨_, rfl, ?_, gro_new HB2.out HGR.out HGE.out⟩
      rw [reachL_len, ← rowAt_full]; exact HOW.out
end Go.Proofs.Ytemcdgchleijbaa
