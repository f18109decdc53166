/-
  Appliances: the states that may follow, MayChange, FindAppliance; what ChangeState, MoveAppliance and ShareCrew give (plain). Appliances: impl.ChangeState, impl.MoveAppliance (printed by gen_apc.py). Appliances: spec.apWith, spec.ChangeState, spec.MoveAppliance (printed by gen_apc.py). Appliances: impl.ShareCrew (printed by gen_aps.py). (joined by pack.py: ApC1 ApC2 ApC3 ApS1)
-/
import Derived.Test.YtgcdgcidjjdhmaaGreatDoorK20
import Derived.Test.YtgcdgcidjjdhmaaGreatDoorK27
import Derived.Test.YtgcdgcidjjdhmaaGreatDoorK6
import Derived.Test.YtgcdgcidjjdhmaaGreatDoorK31
import Derived.Test.YtgcdgcidjjdhmaaGreatDoorK22
import Derived.Test.YtgcdgcidjjdhmaaGreatDoorK25
namespace Go.Proofs.YtgcdgcidjjdhmaaGreatDoor
set_option linter.unusedVariables false
set_option linter.unusedSimpArgs false
open Go.RowKit

/-- The states that may follow, as the program lists them; as the reference lists them. -/
def nxI (s : Int) : List Int := if s = 0 then [1, 5] else if s = 1 then [2, 0] else if s = 2 then [3, 4] else if s = 3 then [4] else if s = 4 then [0, 1, 5] else [0]
def nxS (s : Int) : List Int := if s = 0 then [1, 5] else if s = 1 then [0, 2] else if s = 2 then [3, 4] else if s = 3 then [4] else if s = 4 then [0, 1, 5] else [0]
def mayB (s t : Int) : Bool := decide (t ∈ nxI s)
theorem may_s (s t : Int) : decide (t ∈ nxS s) = mayB s t := by
  unfold mayB nxI nxS
  by_cases h : s = 1
  · subst h
    simp [or_comm]
  · simp only [h, if_false]
def stAp (a : Ap) (s : Int) : Ap := ⟨a.nm, a.kd, a.nd, a.cr, s⟩
def ndAp (a : Ap) (n : Int) : Ap := ⟨a.nm, a.kd, n, a.cr, a.sv⟩
def crAp (a : Ap) (c : Int) : Ap := ⟨a.nm, a.kd, a.nd, c, a.sv⟩
theorem find_some {nm : ByteArray} {f : List Ap} {i : Nat} (h : findA nm f = (i : Int)) : ∃ a, f[i]? = some a ∧ a.nm = nm ∧ i < f.length := by
  obtain ⟨x, hx, hp⟩ := idxG_get h
  exact ⟨x, hx, of_decide_eq_true hp, (List.getElem?_eq_some_iff.1 hx).1⟩
/-- A list of appliances and a flag, as a function gives them. -/
def FlR (r : List Ap × Bool) (w : World) (e : Ending) (w' : World) : Prop := ∃ v, e = .returned (.tuple #[v, .bool r.2]) ∧ Rd w' v r.1.length (r.1.flatMap Ap.cells) ∧ Below w.heap.size w w'
theorem flR_no {r : List Ap × Bool} {w w' : World} (h : r = ([], false)) (hb : Below w.heap.size w w') : FlR r w (.returned (.tuple #[.slice none 0 0, .bool false])) w' := by
  subst h
  exact ⟨_, rfl, ⟨none, 0, rfl, Nat.le_refl _, Nat.zero_le _, fun h => absurd h (by simp)⟩, hb⟩
def ap0 : Ap := ⟨⟨#[]⟩, 0, 0, 0, 0⟩
/-- The fleet in which one has another state. -/
def chV (nm : ByteArray) (s : Int) (f : List Ap) : List Ap × Bool :=
  if goodFl f = true ∧ 0 ≤ findA nm f ∧ inB s 0 5 = true ∧ mayB (f.getD (findA nm f).toNat ap0).sv s = true then (f.set (findA nm f).toNat (stAp (f.getD (findA nm f).toNat ap0) s), true) else ([], false)
theorem chV_yes {nm : ByteArray} {s : Int} {f : List Ap} {i : Nat} {a : Ap} (hg : goodFl f = true) (hi : findA nm f = (i : Int)) (ha : f[i]? = some a) (hs : inB s 0 5 = true) (hm : mayB a.sv s = true) : chV nm s f = (f.set i (stAp a s), true) := by
  have e : f.getD i ap0 = a := by simp [List.getD, ha]
  unfold chV
  rw [hi, Int.toNat_natCast, e, if_pos ⟨hg, by omega, hs, hm⟩]
theorem chV_no1 {nm : ByteArray} {s : Int} {f : List Ap} (h : goodFl f = false) : chV nm s f = ([], false) := by unfold chV; rw [if_neg (fun k => by rw [h] at k; exact absurd k.1 (by simp))]
theorem chV_no2 {nm : ByteArray} {s : Int} {f : List Ap} (h : findA nm f < 0) : chV nm s f = ([], false) := by unfold chV; rw [if_neg (fun k => by have := k.2.1; omega)]
theorem chV_no3 {nm : ByteArray} {s : Int} {f : List Ap} (h : inB s 0 5 = false) : chV nm s f = ([], false) := by unfold chV; rw [if_neg (fun k => by rw [h] at k; exact absurd k.2.2.1 (by simp))]
theorem chV_no4 {nm : ByteArray} {s : Int} {f : List Ap} {i : Nat} {a : Ap} (hi : findA nm f = (i : Int)) (ha : f[i]? = some a) (hm : mayB a.sv s = false) : chV nm s f = ([], false) := by
  have e : f.getD i ap0 = a := by simp [List.getD, ha]
  unfold chV
  rw [hi, Int.toNat_natCast, e, if_neg (fun k => by rw [hm] at k; exact absurd k.2.2.2 (by simp))]
/-- The fleet in which one stands elsewhere. -/
def mvV (nm : ByteArray) (n : Int) (f : List Ap) : List Ap × Bool :=
  if goodFl f = true ∧ 0 ≤ findA nm f ∧ inB n 0 13 = true ∧ ((f.getD (findA nm f).toNat ap0).sv = 2 ∨ (f.getD (findA nm f).toNat ap0).sv = 4) then (f.set (findA nm f).toNat (ndAp (f.getD (findA nm f).toNat ap0) n), true) else ([], false)
theorem mvV_yes {nm : ByteArray} {n : Int} {f : List Ap} {i : Nat} {a : Ap} (hg : goodFl f = true) (hi : findA nm f = (i : Int)) (ha : f[i]? = some a) (hs : inB n 0 13 = true) (hm : a.sv = 2 ∨ a.sv = 4) : mvV nm n f = (f.set i (ndAp a n), true) := by
  have e : f.getD i ap0 = a := by simp [List.getD, ha]
  unfold mvV
  rw [hi, Int.toNat_natCast, e, if_pos ⟨hg, by omega, hs, hm⟩]
theorem mvV_no1 {nm : ByteArray} {n : Int} {f : List Ap} (h : goodFl f = false) : mvV nm n f = ([], false) := by unfold mvV; rw [if_neg (fun k => by rw [h] at k; exact absurd k.1 (by simp))]
theorem mvV_no2 {nm : ByteArray} {n : Int} {f : List Ap} (h : findA nm f < 0) : mvV nm n f = ([], false) := by unfold mvV; rw [if_neg (fun k => by have := k.2.1; omega)]
theorem mvV_no3 {nm : ByteArray} {n : Int} {f : List Ap} (h : inB n 0 13 = false) : mvV nm n f = ([], false) := by unfold mvV; rw [if_neg (fun k => by rw [h] at k; exact absurd k.2.2.1 (by simp))]
theorem mvV_no4 {nm : ByteArray} {n : Int} {f : List Ap} {i : Nat} {a : Ap} (hi : findA nm f = (i : Int)) (ha : f[i]? = some a) (h2 : a.sv ≠ 2) (h4 : a.sv ≠ 4) : mvV nm n f = ([], false) := by
  have e : f.getD i ap0 = a := by simp [List.getD, ha]
  unfold mvV
  rw [hi, Int.toNat_natCast, e, if_neg (fun k => by rcases k.2.2.2 with h | h; exact h2 h; exact h4 h)]
/-- The fleet in which some of a crew have gone from one to another. -/
def shF (i k : Nat) (a b : Ap) (n : Int) (f : List Ap) : List Ap := (f.set i (crAp a (a.cr - n))).set k (crAp b (b.cr + n))
def shV (nm nm' : ByteArray) (n : Int) (f : List Ap) : List Ap × Bool :=
  if goodFl f = true ∧ 0 ≤ findA nm f ∧ 0 ≤ findA nm' f ∧ findA nm f ≠ findA nm' f ∧ inB n 1 8 = true ∧ (f.getD (findA nm f).toNat ap0).nd = (f.getD (findA nm' f).toNat ap0).nd ∧ goodFl (shF (findA nm f).toNat (findA nm' f).toNat (f.getD (findA nm f).toNat ap0) (f.getD (findA nm' f).toNat ap0) n f) = true
  then (shF (findA nm f).toNat (findA nm' f).toNat (f.getD (findA nm f).toNat ap0) (f.getD (findA nm' f).toNat ap0) n f, true) else ([], false)
theorem shV_yes {nm nm' : ByteArray} {n : Int} {f : List Ap} {i k : Nat} {a b : Ap} (hg : goodFl f = true) (hi : findA nm f = (i : Int)) (ha : f[i]? = some a) (hk : findA nm' f = (k : Int)) (hb : f[k]? = some b) (hne : i ≠ k) (hs : inB n 1 8 = true) (hn : a.nd = b.nd) (hf : goodFl (shF i k a b n f) = true) : shV nm nm' n f = (shF i k a b n f, true) := by
  have e : f.getD i ap0 = a := by simp [List.getD, ha]
  have e' : f.getD k ap0 = b := by simp [List.getD, hb]
  unfold shV
  rw [hi, hk, Int.toNat_natCast, Int.toNat_natCast, e, e', if_pos ⟨hg, by omega, by omega, by omega, hs, hn, hf⟩]
theorem shV_no1 {nm nm' : ByteArray} {n : Int} {f : List Ap} (h : goodFl f = false) : shV nm nm' n f = ([], false) := by unfold shV; rw [if_neg (fun k => by rw [h] at k; exact absurd k.1 (by simp))]
theorem shV_no2 {nm nm' : ByteArray} {n : Int} {f : List Ap} (h : findA nm f < 0) : shV nm nm' n f = ([], false) := by unfold shV; rw [if_neg (fun k => by have := k.2.1; omega)]
theorem shV_no3 {nm nm' : ByteArray} {n : Int} {f : List Ap} (h : findA nm' f < 0) : shV nm nm' n f = ([], false) := by unfold shV; rw [if_neg (fun k => by have := k.2.2.1; omega)]
theorem shV_no4 {nm nm' : ByteArray} {n : Int} {f : List Ap} (h : findA nm f = findA nm' f) : shV nm nm' n f = ([], false) := by unfold shV; rw [if_neg (fun k => k.2.2.2.1 h)]
theorem shV_no5 {nm nm' : ByteArray} {n : Int} {f : List Ap} (h : inB n 1 8 = false) : shV nm nm' n f = ([], false) := by unfold shV; rw [if_neg (fun k => by rw [h] at k; exact absurd k.2.2.2.2.1 (by simp))]
theorem shV_no6 {nm nm' : ByteArray} {n : Int} {f : List Ap} {i k : Nat} {a b : Ap} (hi : findA nm f = (i : Int)) (ha : f[i]? = some a) (hk : findA nm' f = (k : Int)) (hb : f[k]? = some b) (h : a.nd ≠ b.nd) : shV nm nm' n f = ([], false) := by
  have e : f.getD i ap0 = a := by simp [List.getD, ha]
  have e' : f.getD k ap0 = b := by simp [List.getD, hb]
  unfold shV
  rw [hi, hk, Int.toNat_natCast, Int.toNat_natCast, e, e', if_neg (fun q => h q.2.2.2.2.2.1)]
theorem shV_no7 {nm nm' : ByteArray} {n : Int} {f : List Ap} {i k : Nat} {a b : Ap} (hi : findA nm f = (i : Int)) (ha : f[i]? = some a) (hk : findA nm' f = (k : Int)) (hb : f[k]? = some b) (h : goodFl (shF i k a b n f) = false) : shV nm nm' n f = ([], false) := by
  have e : f.getD i ap0 = a := by simp [List.getD, ha]
  have e' : f.getD k ap0 = b := by simp [List.getD, hb]
  unfold shV
  rw [hi, hk, Int.toNat_natCast, Int.toNat_natCast, e, e', if_neg (fun q => by rw [h] at q; exact absurd q.2.2.2.2.2.2 (by simp))]

theorem rdi_two (w : World) (xs : List Value) (l : List Int) (n : Nat) (h : xs = ints l) (hn : n = l.length) (hl : l.length ≤ 3) : RdI (w.alloc (.cells xs.toArray 3)) (.slice (some ⟨w.heap.size, 0, none⟩) n n) l := by
  subst h; subst hn
  exact rd_new w rfl (Nat.le_refl _) (by rw [maxLen_eq]; omega)
set_option maxRecDepth 100000 in
set_option maxHeartbeats 1000000 in
theorem following_c (s : Int) (w : World) : Calls Tryz.prog 32 #[.int .i64 s] w fun e w' => ∃ v, e = .returned v ∧ RdI w' v (nxI s) ∧ Below w.heap.size w w' := by
  unfold nxI
  by_cases h0 : s = 0
  · subst h0
    go_enter Tryz.func32, Tryz.ntmps32
    go_wp2
    go_ret
    exact ⟨_, rfl, rdi_two _ _ _ _ rfl rfl (by simp), (by repeat (first | exact Below.refl _ _ | assumption | refine bel_al ?_ _ | refine bel_dr ?_ | refine below_drewN ?_ _ | refine bel_then ?_ (by assumption)))⟩
  · by_cases h1 : s = 1
    · subst h1
      go_enter Tryz.func32, Tryz.ntmps32
      go_wp2
      go_ret
      exact ⟨_, rfl, rdi_two _ _ _ _ rfl rfl (by simp), (by repeat (first | exact Below.refl _ _ | assumption | refine bel_al ?_ _ | refine bel_dr ?_ | refine below_drewN ?_ _ | refine bel_then ?_ (by assumption)))⟩
    · by_cases h2 : s = 2
      · subst h2
        go_enter Tryz.func32, Tryz.ntmps32
        go_wp2
        go_ret
        exact ⟨_, rfl, rdi_two _ _ _ _ rfl rfl (by simp), (by repeat (first | exact Below.refl _ _ | assumption | refine bel_al ?_ _ | refine bel_dr ?_ | refine below_drewN ?_ _ | refine bel_then ?_ (by assumption)))⟩
      · by_cases h3 : s = 3
        · subst h3
          go_enter Tryz.func32, Tryz.ntmps32
          go_wp2
          go_ret
          exact ⟨_, rfl, rdi_two _ _ _ _ rfl rfl (by simp), (by repeat (first | exact Below.refl _ _ | assumption | refine bel_al ?_ _ | refine bel_dr ?_ | refine below_drewN ?_ _ | refine bel_then ?_ (by assumption)))⟩
        · by_cases h4 : s = 4
          · subst h4
            go_enter Tryz.func32, Tryz.ntmps32
            go_wp2
            go_ret
            exact ⟨_, rfl, rdi_two _ _ _ _ rfl rfl (by simp), (by repeat (first | exact Below.refl _ _ | assumption | refine bel_al ?_ _ | refine bel_dr ?_ | refine below_drewN ?_ _ | refine bel_then ?_ (by assumption)))⟩
          · rw [if_neg h0, if_neg h1, if_neg h2, if_neg h3, if_neg h4]
            go_enter Tryz.func32, Tryz.ntmps32
            go_wp2
            go_ret
            exact ⟨_, rfl, rdi_two _ _ _ _ rfl rfl (by simp), (by repeat (first | exact Below.refl _ _ | assumption | refine bel_al ?_ _ | refine bel_dr ?_ | refine below_drewN ?_ _ | refine bel_then ?_ (by assumption)))⟩
set_option maxRecDepth 100000 in
set_option maxHeartbeats 1000000 in
theorem apNext_c (s : Int) (w : World) : Calls Tryz.prog 64 #[.int .i64 s] w fun e w' => ∃ v, e = .returned v ∧ RdI w' v (nxS s) ∧ Below w.heap.size w w' := by
  unfold nxS
  by_cases h0 : s = 0
  · subst h0
    go_enter Tryz.func64, Tryz.ntmps64
    go_wp2
    go_ret
    exact ⟨_, rfl, rdi_two _ _ _ _ rfl rfl (by simp), (by repeat (first | exact Below.refl _ _ | assumption | refine bel_al ?_ _ | refine bel_dr ?_ | refine below_drewN ?_ _ | refine bel_then ?_ (by assumption)))⟩
  · by_cases h1 : s = 1
    · subst h1
      go_enter Tryz.func64, Tryz.ntmps64
      go_wp2
      go_ret
      exact ⟨_, rfl, rdi_two _ _ _ _ rfl rfl (by simp), (by repeat (first | exact Below.refl _ _ | assumption | refine bel_al ?_ _ | refine bel_dr ?_ | refine below_drewN ?_ _ | refine bel_then ?_ (by assumption)))⟩
    · by_cases h2 : s = 2
      · subst h2
        go_enter Tryz.func64, Tryz.ntmps64
        go_wp2
        go_ret
        exact ⟨_, rfl, rdi_two _ _ _ _ rfl rfl (by simp), (by repeat (first | exact Below.refl _ _ | assumption | refine bel_al ?_ _ | refine bel_dr ?_ | refine below_drewN ?_ _ | refine bel_then ?_ (by assumption)))⟩
      · by_cases h3 : s = 3
        · subst h3
          go_enter Tryz.func64, Tryz.ntmps64
          go_wp2
          go_ret
          exact ⟨_, rfl, rdi_two _ _ _ _ rfl rfl (by simp), (by repeat (first | exact Below.refl _ _ | assumption | refine bel_al ?_ _ | refine bel_dr ?_ | refine below_drewN ?_ _ | refine bel_then ?_ (by assumption)))⟩
        · by_cases h4 : s = 4
          · subst h4
            go_enter Tryz.func64, Tryz.ntmps64
            go_wp2
            go_ret
            exact ⟨_, rfl, rdi_two _ _ _ _ rfl rfl (by simp), (by repeat (first | exact Below.refl _ _ | assumption | refine bel_al ?_ _ | refine bel_dr ?_ | refine below_drewN ?_ _ | refine bel_then ?_ (by assumption)))⟩
          · rw [if_neg h0, if_neg h1, if_neg h2, if_neg h3, if_neg h4]
            go_enter Tryz.func64, Tryz.ntmps64
            go_wp2
            go_ret
            exact ⟨_, rfl, rdi_two _ _ _ _ rfl rfl (by simp), (by repeat (first | exact Below.refl _ _ | assumption | refine bel_al ?_ _ | refine bel_dr ?_ | refine below_drewN ?_ _ | refine bel_then ?_ (by assumption)))⟩
set_option maxHeartbeats 1000000 in
theorem apMay_c (s t : Int) (w : World) : Calls Tryz.prog 37 #[.int .i64 s, .int .i64 t] w fun e w' => e = .returned (.bool (mayB s t)) ∧ Below w.heap.size w w' := by
  go_enter Tryz.func37, Tryz.ntmps37
  go_wp2_with fail
  refine (apNext_c s _).mono ?_; rintro e w1 ⟨v, rfl, hr, hb⟩
  have HR := Lib.hid hr
  have HB := Lib.hid hb
  clear hr hb
  go_wp2_with fail
  refine (l1Has_c _ t _ _ HR.out).mono ?_; rw [may_s]; rintro e w2 ⟨rfl, rfl⟩
  go_wp2
  go_ret
  exact ⟨rfl, HB.out⟩
set_option maxHeartbeats 1000000 in
theorem mayChange_c (s t : Int) (hs : inB s 0 5 = true) (ht : inB t 0 5 = true) (w : World) : Calls Tryz.prog 11 #[.int .i64 s, .int .i64 t] w fun e w' => e = .returned (.tuple #[.bool (mayB s t), .bool true]) ∧ Below w.heap.size w w' := by
  go_enter Tryz.func11, Tryz.ntmps11
  go_wp2_with fail
  refine (isState_c s _).mono ?_; rw [hs]; rintro e w1 ⟨rfl, rfl⟩
  go_wp2_with fail
  refine (isState_c t _).mono ?_; rw [ht]; rintro e w1 ⟨rfl, rfl⟩
  go_wp2_with fail
  refine (following_c s _).mono ?_; rintro e w1 ⟨v, rfl, hr, hb⟩
  have HR := Lib.hid hr
  have HB := Lib.hid hb
  clear hr hb
  go_wp2_with fail
  refine (contains_c _ t _ _ HR.out).mono ?_; rintro e w2 ⟨rfl, rfl⟩
  go_wp2
  go_ret2
  exact ⟨rfl, HB.out⟩
set_option maxRecDepth 100000 in
set_option maxHeartbeats 1000000 in
theorem findApplianceI_c (v : Value) (f : List Ap) (nm : ByteArray) (w : World) (hz : ∀ x ∈ f, x.nm.size ≤ 9223372036854775807) (hf : Rd w v f.length (f.flatMap Ap.cells)) :
    Calls Tryz.prog 8 #[v, .string nm] w fun e w' => e = .returned (.tuple #[.int .i64 (findV nm f).1, .bool (findV nm f).2]) ∧ Below w.heap.size w w' := by
  have HF := Lib.hid hf
  have HZ := Lib.hid hz
  clear hf hz
  obtain ⟨K, hK⟩ : ∃ K, findA nm f = K := ⟨_, rfl⟩
  have hK1 : -1 ≤ K := by rw [← hK]; exact (idxG_any _ f).2
  have HK := Lib.hid hK
  have HV : Hid (findV nm f = if goodFl f = true ∧ 0 ≤ K then (K, true) else (0, false)) := Lib.hid (by unfold findV; rw [hK])
  clear hK
  go_enter Tryz.func8, Tryz.ntmps8
  go_wp2_with fail
  refine (isFleet_c _ f _ HZ.out HF.out).mono ?_; rintro e w1 ⟨rfl, hb⟩
  have HB := Lib.hid hb
  clear hb
  cases hg : goodFl f with
  | false =>
    have HG := Lib.hid hg
    clear hg
    go_wp2
    go_ret2
    rw [HV.out, if_neg (by rw [HG.out]; simp)]
    exact ⟨rfl, HB.out⟩
  | true =>
    have HG := Lib.hid hg
    clear hg
    go_wp2_with fail
    refine (findI_c _ f nm _ (rd_below HF.out HB.out)).mono ?_; rw [HK.out]; rintro e w2 ⟨rfl, hb⟩
    have HB2 := Lib.hid (bel_then HB.out hb)
    clear hb
    by_cases hk : K < 0
    · have hk0 : max K 0 = 0 := by omega
      have hk1 : ¬ (K ≥ 0) := by omega
      go_wp2
      go_ret2
      rw [HV.out, if_neg (by omega)]
      exact ⟨by simp [hk], HB2.out⟩
    · have hk0 : max K 0 = K := by omega
      have hk1 : K ≥ 0 := by omega
      go_wp2
      go_ret2
      rw [HV.out, if_pos ⟨HG.out, by omega⟩]
      exact ⟨by simp [hk1], HB2.out⟩
end Go.Proofs.YtgcdgcidjjdhmaaGreatDoor

namespace Go.Proofs.YtgcdgcidjjdhmaaGreatDoor
set_option linter.unusedVariables false
set_option linter.unusedSimpArgs false
open Go.RowKit

theorem put_one {F : List Ap} {i j : Nat} {a b : Ap} {u : Value} (h : F[i]? = some a) (hj : j < 5) (hb : a.cells.set j u = b.cells) : (F.flatMap Ap.cells).set (i * 5 + j) u = (F.set i b).flatMap Ap.cells := by
  have hi := (List.getElem?_eq_some_iff.1 h).1
  have ha := (List.getElem?_eq_some_iff.1 h).2
  have hd : F = F.take i ++ (a :: F.drop (i + 1)) := by rw [← ha, ← List.drop_eq_getElem_cons hi, List.take_append_drop]
  have hl : (F.take i).length = i := by rw [List.length_take]; omega
  have h2 : F.set i b = F.take i ++ (b :: F.drop (i + 1)) := by
    conv => lhs; rw [hd]
    rw [List.set_append_right _ _ (by omega), hl, Nat.sub_self]; rfl
  rw [h2]
  conv => lhs; rw [hd]
  rw [List.flatMap_append, List.flatMap_append, List.set_append_right _ _ (by rw [len_flat Ap.cells_len, hl]; omega), len_flat Ap.cells_len, hl]
  have e : i * 5 + j - i * 5 = j := by omega
  rw [e, List.flatMap_cons, List.flatMap_cons, List.set_append_left _ _ (by rw [Ap.cells_len]; exact hj), hb]
theorem flR_own {F : List Ap} {r : List Ap × Bool} {w w' : World} {base n cap g : Nat} (h : w'.ownsRow base 35 5 (.slice (some ⟨g, 0, none⟩) n cap) n (F.flatMap Ap.cells)) (hn : F.length = n) (hr : r = (F, true)) (hb : Below w.heap.size w w') : FlR r w (.returned (.tuple #[.slice (some ⟨g, 0, none⟩) n cap, .bool true])) w' := by
  subst hr; subst hn
  exact ⟨_, rfl, own_rd h, hb⟩
set_option maxRecDepth 100000 in
set_option maxHeartbeats 2000000 in
theorem changeI_c (v : Value) (f : List Ap) (nm : ByteArray) (s : Int) (w : World) (hz : ∀ x ∈ f, x.nm.size ≤ 9223372036854775807) (hf : Rd w v f.length (f.flatMap Ap.cells)) :
    Calls Tryz.prog 6 #[v, .string nm, .int .i64 s] w (FlR (chV nm s f) w) := by
  have HR := Lib.hid hf
  have HZ := Lib.hid hz
  clear hz
  obtain ⟨A, cA, rfl, hcA, hmA, hcell⟩ := hf
  rw [maxLen_eq] at hmA
  have HCELL := Lib.hid hcell
  clear hcell
  obtain ⟨K, hK⟩ : ∃ K, findA nm f = K := ⟨_, rfl⟩
  have HK := Lib.hid hK
  clear hK
  go_enter Tryz.func6, Tryz.ntmps6
  go_wp2_with fail
  refine (findI_c _ f nm _ HR.out).mono ?_; rw [HK.out]; rintro e w1 ⟨rfl, hb⟩
  have HB1 := Lib.hid hb
  clear hb
  go_wp2_with fail
  refine (isFleet_c _ f _ HZ.out (rd_below HR.out HB1.out)).mono ?_; rintro e w2 ⟨rfl, hb⟩
  have HB2 := Lib.hid (bel_then HB1.out hb)
  clear hb
  cases hg : goodFl f with
  | false =>
    have HG := Lib.hid hg
    clear hg
    go_wp2
    go_ret2
    exact flR_no (chV_no1 HG.out) HB2.out
  | true =>
    have HG := Lib.hid hg
    have h12 := (goodFl_true hg).1
    clear hg
    by_cases hk : K < 0
    · go_wp2
      go_ret2
      exact flR_no (chV_no2 (by rw [HK.out]; exact hk)) HB2.out
    · obtain ⟨i, rfl⟩ : ∃ i : Nat, K = (i : Int) := ⟨K.toNat, by omega⟩
      obtain ⟨a, ha, hnm, hif⟩ := find_some HK.out
      clear hnm
      have i0 : (0 : Int) ≤ (i : Int) := by omega
      have i1 : (i : Int) < (f.length : Int) := by omega
      clear hk
      obtain ⟨b, off, rfl, hbl, hcell⟩ : ∃ b off, A = some ⟨b, off, none⟩ ∧ b < w.heap.size ∧ ∀ j u, (f.flatMap Ap.cells)[j]? = some u → w.cell? ⟨b, off + j, none⟩ = some u := HCELL.out (by omega)
      obtain ⟨nm0, kd, nd, cr, sv⟩ := a
      obtain ⟨d0, d1, d2, d3, d4⟩ := ap_at hcell HB2.out hbl ha
      dsimp only at d0 d1 d2 d3 d4
      clear hcell
      cases hs : inB s 0 5 with
      | false =>
        go_wp2_with (go_at_call 30; refine (isState_c s _).mono ?_; rw [hs]; rintro e w3 ⟨rfl, rfl⟩)
        go_ret2
        exact flR_no (chV_no3 hs) HB2.out
      | true =>
        go_wp2_with (go_at_call 30; refine (isState_c s _).mono ?_; rw [hs]; rintro e w3 ⟨rfl, rfl⟩)
        refine (following_c sv _).mono ?_; rintro e w4 ⟨vn, rfl, hrn, hb⟩
        have HRN := Lib.hid hrn
        have HB4 := Lib.hid (bel_then HB2.out hb)
        clear hb hrn
        cases hm : mayB sv s with
        | false =>
          go_wp2_with (go_at_call 31; refine (contains_c _ s _ _ HRN.out).mono ?_; rw [show decide (s ∈ nxI sv) = false from hm]; rintro e w5 ⟨rfl, rfl⟩)
          go_ret2
          exact flR_no (chV_no4 HK.out ha hm) HB4.out
        | true =>
          go_wp2_with (go_at_call 31; refine (contains_c _ s _ _ HRN.out).mono ?_; rw [show decide (s ∈ nxI sv) = true from hm]; rintro e w5 ⟨rfl, rfl⟩)
          refine (cloneA_c _ f _ (rd_below HR.out HB4.out) (by omega)).mono ?_; rintro e w6 ⟨vc, rfl, hc, hb⟩
          have HB6 := Lib.hid (bel_then HB4.out hb)
          have hsz := HB4.out.size
          clear hb
          obtain ⟨gc, cc, rfl, hgc, hgcA, _, _⟩ := own_shape hc (by omega)
          have cc1 := (hc.cellAt (i * 5 + 4) (by omega)).trans (flat_get Ap.cells_len _ i _ ha 4 (by omega))
          have ff1 := hc.frozenAt (i * 5 + 4)
          have hst := (hc.stored (i * 5 + 4) (.int .i64 s)).1
          rw [put_one (b := stAp ⟨nm0, kd, nd, cr, sv⟩ s) ha (by omega) rfl] at hst
          have HST := Lib.hid hst
          have HA := Lib.hid ha
          clear hst hc ha
          go_wp2
          go_ret2
          exact flR_own HST.out (by rw [List.length_set]) (chV_yes HG.out HK.out HA.out hs hm) (Below.setCell (p := ⟨gc, i * 5 + 4, none⟩) HB6.out (by show w.heap.size ≤ gc; omega) (.int .i64 s))
set_option maxRecDepth 100000 in
set_option maxHeartbeats 2000000 in
theorem moveI_c (v : Value) (f : List Ap) (nm : ByteArray) (s : Int) (w : World) (hz : ∀ x ∈ f, x.nm.size ≤ 9223372036854775807) (hf : Rd w v f.length (f.flatMap Ap.cells)) :
    Calls Tryz.prog 14 #[v, .string nm, .int .i64 s] w (FlR (mvV nm s f) w) := by
  have HR := Lib.hid hf
  have HZ := Lib.hid hz
  clear hz
  obtain ⟨A, cA, rfl, hcA, hmA, hcell⟩ := hf
  rw [maxLen_eq] at hmA
  have HCELL := Lib.hid hcell
  clear hcell
  obtain ⟨K, hK⟩ : ∃ K, findA nm f = K := ⟨_, rfl⟩
  have HK := Lib.hid hK
  clear hK
  go_enter Tryz.func14, Tryz.ntmps14
  go_wp2_with fail
  refine (findI_c _ f nm _ HR.out).mono ?_; rw [HK.out]; rintro e w1 ⟨rfl, hb⟩
  have HB1 := Lib.hid hb
  clear hb
  go_wp2_with fail
  refine (isFleet_c _ f _ HZ.out (rd_below HR.out HB1.out)).mono ?_; rintro e w2 ⟨rfl, hb⟩
  have HB2 := Lib.hid (bel_then HB1.out hb)
  clear hb
  cases hg : goodFl f with
  | false =>
    have HG := Lib.hid hg
    clear hg
    go_wp2
    go_ret2
    exact flR_no (mvV_no1 HG.out) HB2.out
  | true =>
    have HG := Lib.hid hg
    have h12 := (goodFl_true hg).1
    clear hg
    by_cases hk : K < 0
    · go_wp2
      go_ret2
      exact flR_no (mvV_no2 (by rw [HK.out]; exact hk)) HB2.out
    · obtain ⟨i, rfl⟩ : ∃ i : Nat, K = (i : Int) := ⟨K.toNat, by omega⟩
      obtain ⟨a, ha, hnm, hif⟩ := find_some HK.out
      clear hnm
      have i0 : (0 : Int) ≤ (i : Int) := by omega
      have i1 : (i : Int) < (f.length : Int) := by omega
      clear hk
      obtain ⟨b, off, rfl, hbl, hcell⟩ : ∃ b off, A = some ⟨b, off, none⟩ ∧ b < w.heap.size ∧ ∀ j u, (f.flatMap Ap.cells)[j]? = some u → w.cell? ⟨b, off + j, none⟩ = some u := HCELL.out (by omega)
      obtain ⟨nm0, kd, nd, cr, sv⟩ := a
      obtain ⟨d0, d1, d2, d3, d4⟩ := ap_at hcell HB2.out hbl ha
      dsimp only at d0 d1 d2 d3 d4
      clear hcell
      cases hs : inB s 0 13 with
      | false =>
        go_wp2_with (go_at_call 40; refine (inside_c s 0 13 _).mono ?_; rw [hs]; rintro e w3 ⟨rfl, rfl⟩)
        go_ret2
        exact flR_no (mvV_no3 hs) HB2.out
      | true =>
        by_cases h2 : sv = 2
        · subst h2
          go_wp2_with (go_at_call 40; refine (inside_c s 0 13 _).mono ?_; rw [hs]; rintro e w3 ⟨rfl, rfl⟩)
          refine (cloneA_c _ f _ (rd_below HR.out HB2.out) (by omega)).mono ?_; rintro e w6 ⟨vc, rfl, hc, hb⟩
          have HB6 := Lib.hid (bel_then HB2.out hb)
          have hsz := HB2.out.size
          clear hb
          obtain ⟨gc, cc, rfl, hgc, hgcA, _, _⟩ := own_shape hc (by omega)
          have cc1 := (hc.cellAt (i * 5 + 2) (by omega)).trans (flat_get Ap.cells_len _ i _ ha 2 (by omega))
          have ff1 := hc.frozenAt (i * 5 + 2)
          have hst := (hc.stored (i * 5 + 2) (.int .i64 s)).1
          rw [put_one (b := ndAp ⟨nm0, kd, nd, cr, 2⟩ s) ha (by omega) rfl] at hst
          have HST := Lib.hid hst
          have HA := Lib.hid ha
          clear hst hc ha
          go_wp2
          go_ret2
          exact flR_own HST.out (by rw [List.length_set]) (mvV_yes HG.out HK.out HA.out hs (.inl rfl)) (Below.setCell (p := ⟨gc, i * 5 + 2, none⟩) HB6.out (by show w.heap.size ≤ gc; omega) (.int .i64 s))
        · by_cases h4 : sv = 4
          · subst h4
            go_wp2_with (go_at_call 40; refine (inside_c s 0 13 _).mono ?_; rw [hs]; rintro e w3 ⟨rfl, rfl⟩)
            refine (cloneA_c _ f _ (rd_below HR.out HB2.out) (by omega)).mono ?_; rintro e w6 ⟨vc, rfl, hc, hb⟩
            have HB6 := Lib.hid (bel_then HB2.out hb)
            have hsz := HB2.out.size
            clear hb
            obtain ⟨gc, cc, rfl, hgc, hgcA, _, _⟩ := own_shape hc (by omega)
            have cc1 := (hc.cellAt (i * 5 + 2) (by omega)).trans (flat_get Ap.cells_len _ i _ ha 2 (by omega))
            have ff1 := hc.frozenAt (i * 5 + 2)
            have hst := (hc.stored (i * 5 + 2) (.int .i64 s)).1
            rw [put_one (b := ndAp ⟨nm0, kd, nd, cr, 4⟩ s) ha (by omega) rfl] at hst
            have HST := Lib.hid hst
            have HA := Lib.hid ha
            clear hst hc ha
            go_wp2
            go_ret2
            exact flR_own HST.out (by rw [List.length_set]) (mvV_yes HG.out HK.out HA.out hs (.inr rfl)) (Below.setCell (p := ⟨gc, i * 5 + 2, none⟩) HB6.out (by show w.heap.size ≤ gc; omega) (.int .i64 s))
          · go_wp2_with (go_at_call 40; refine (inside_c s 0 13 _).mono ?_; rw [hs]; rintro e w3 ⟨rfl, rfl⟩)
            go_ret2
            exact flR_no (mvV_no4 HK.out ha h2 h4) HB2.out
end Go.Proofs.YtgcdgcidjjdhmaaGreatDoor

namespace Go.Proofs.YtgcdgcidjjdhmaaGreatDoor
set_option linter.unusedVariables false
set_option linter.unusedSimpArgs false
open Go.RowKit

set_option maxRecDepth 100000 in
set_option maxHeartbeats 2000000 in
theorem apWith_c (v : Value) (f : List Ap) (i : Nat) (nm : ByteArray) (kd nd cr sv : Int) (w : World) (h12 : f.length ≤ 12) (hif : i < f.length) (hf : Rd w v f.length (f.flatMap Ap.cells)) :
    Calls Tryz.prog 38 #[v, .int .i64 i, .agg #[.string nm, .int .i64 kd, .int .i64 nd, .int .i64 cr, .int .i64 sv]] w fun e w' => ∃ g cap, e = .returned (.slice (some ⟨g, 0, none⟩) f.length cap) ∧ w'.ownsRow w.heap.size 35 5 (.slice (some ⟨g, 0, none⟩) f.length cap) f.length ((f.set i ⟨nm, kd, nd, cr, sv⟩).flatMap Ap.cells) ∧ Below w.heap.size w w' := by
  have HR := Lib.hid hf
  obtain ⟨A, cA, rfl, hcA, hmA, hcell⟩ := hf
  rw [maxLen_eq] at hmA
  clear hcell
  obtain ⟨a, ha⟩ : ∃ a, f[i]? = some a := ⟨_, List.getElem?_eq_getElem hif⟩
  obtain ⟨i0, hi, hz0, hz1, hz2⟩ := info_parts Tryz.infoAp
  go_enter Tryz.func38, Tryz.ntmps38
  go_upto_region 1 with fail
  (generalize hw1 : World.alloc w _ = w1; have k0 : w1.cell? ⟨w.heap.size, 0, none⟩ = some (.string nm) := (by subst hw1; simp [go_sem]); have k1 : w1.cell? ⟨w.heap.size, 1, none⟩ = some (.int .i64 kd) := (by subst hw1; simp [go_sem]); have k2 : w1.cell? ⟨w.heap.size, 2, none⟩ = some (.int .i64 nd) := (by subst hw1; simp [go_sem]); have k3 : w1.cell? ⟨w.heap.size, 3, none⟩ = some (.int .i64 cr) := (by subst hw1; simp [go_sem]); have k4 : w1.cell? ⟨w.heap.size, 4, none⟩ = some (.int .i64 sv) := (by subst hw1; simp [go_sem]); have hb0 : Below w.heap.size w w1 := (by subst hw1; exact bel_al (Below.refl _ _) _); have hsz1 : w.heap.size < w1.heap.size := (by subst hw1; simp); clear hw1)
  have HB0 := Lib.hid hb0
  clear hb0
  go_upto_region 2 with (at_builtin; go_must (refine wpList_app_rd _ rfl _ _ 24 rfl w1.heap.size 35 i0 _ 5 48 Tryz.underlying24 hi hz0 hz1 hz2 rfl (by decide) _ _ _ rfl (World.ownsRow_made (size := 5) w1 #[] 0 (Nat.le_refl _) (Nat.zero_le _) rfl) _ f.length (f.flatMap Ap.cells) rfl (rd_below HR.out (bel_al HB0.out _)) (by rw [len_flat Ap.cells_len]) (ap_one f) (by rw [maxLen_eq]; omega) (by omega) (by simp) ?_); intro vc w5 hown' hgrow _)
  have hg5 := hgrow.size
  have hsA : (w1.alloc (.cells #[] 35)).heap.size = w1.heap.size + 1 := by simp
  have hB5 : Below w.heap.size w w5 := bel_grown (bel_al HB0.out _) hgrow (fun q e => by
    have h : w1.heap.size = q := Option.some.inj e
    omega)
  have hC : w5.ownsRow w1.heap.size 35 5 vc f.length (f.flatMap Ap.cells) := by simpa using hown'
  obtain ⟨gc, cc, rfl, hgc, hgcA, hcc, hcm⟩ := own_shape hC (by omega)
  have e0 := (gro_cell (o := 0) hgrow (x := w.heap.size) (by show w.heap.size < _; omega) (by show w.heap.size ≠ w1.heap.size; omega)).trans ((World.cell?_alloc_lt _ _ _ (by show w.heap.size < _; omega)).trans k0)
  have e1 := (gro_cell (o := 1) hgrow (x := w.heap.size) (by show w.heap.size < _; omega) (by show w.heap.size ≠ w1.heap.size; omega)).trans ((World.cell?_alloc_lt _ _ _ (by show w.heap.size < _; omega)).trans k1)
  have e2 := (gro_cell (o := 2) hgrow (x := w.heap.size) (by show w.heap.size < _; omega) (by show w.heap.size ≠ w1.heap.size; omega)).trans ((World.cell?_alloc_lt _ _ _ (by show w.heap.size < _; omega)).trans k2)
  have e3 := (gro_cell (o := 3) hgrow (x := w.heap.size) (by show w.heap.size < _; omega) (by show w.heap.size ≠ w1.heap.size; omega)).trans ((World.cell?_alloc_lt _ _ _ (by show w.heap.size < _; omega)).trans k3)
  have e4 := (gro_cell (o := 4) hgrow (x := w.heap.size) (by show w.heap.size < _; omega) (by show w.heap.size ≠ w1.heap.size; omega)).trans ((World.cell?_alloc_lt _ _ _ (by show w.heap.size < _; omega)).trans k4)
  have c0 := (hC.cellAt (i * 5) (by omega)).trans (show _ = some _ by exact flat_get Ap.cells_len _ i a ha 0 (by omega))
  have f0 := hC.frozenAt (i * 5)
  have hC0 := (hC.stored (i * 5) (.string nm)).1
  have c1 := (hC0.cellAt (i * 5 + 1) (by omega)).trans (show _ = some _ by rw [List.getElem?_set_ne (by omega)]; exact flat_get Ap.cells_len _ i a ha 1 (by omega))
  have f1 := hC0.frozenAt (i * 5 + 1)
  have hC1 := (hC0.stored (i * 5 + 1) (.int .i64 kd)).1
  have c2 := (hC1.cellAt (i * 5 + 2) (by omega)).trans (show _ = some _ by rw [List.getElem?_set_ne (by omega)]; rw [List.getElem?_set_ne (by omega)]; exact flat_get Ap.cells_len _ i a ha 2 (by omega))
  have f2 := hC1.frozenAt (i * 5 + 2)
  have hC2 := (hC1.stored (i * 5 + 2) (.int .i64 nd)).1
  have c3 := (hC2.cellAt (i * 5 + 3) (by omega)).trans (show _ = some _ by rw [List.getElem?_set_ne (by omega)]; rw [List.getElem?_set_ne (by omega)]; rw [List.getElem?_set_ne (by omega)]; exact flat_get Ap.cells_len _ i a ha 3 (by omega))
  have f3 := hC2.frozenAt (i * 5 + 3)
  have hC3 := (hC2.stored (i * 5 + 3) (.int .i64 cr)).1
  have c4 := (hC3.cellAt (i * 5 + 4) (by omega)).trans (show _ = some _ by rw [List.getElem?_set_ne (by omega)]; rw [List.getElem?_set_ne (by omega)]; rw [List.getElem?_set_ne (by omega)]; rw [List.getElem?_set_ne (by omega)]; exact flat_get Ap.cells_len _ i a ha 4 (by omega))
  have f4 := hC3.frozenAt (i * 5 + 4)
  have hC4 := (hC3.stored (i * 5 + 4) (.int .i64 sv)).1
  have hF : ((((((w5.setCell ⟨gc, i * 5, none⟩ (.string nm)).setCell ⟨gc, i * 5 + 1, none⟩ (.int .i64 kd)).setCell ⟨gc, i * 5 + 2, none⟩ (.int .i64 nd)).setCell ⟨gc, i * 5 + 3, none⟩ (.int .i64 cr)).setCell ⟨gc, i * 5 + 4, none⟩ (.int .i64 sv))).ownsRow w1.heap.size 35 5 (.slice (some ⟨gc, 0, none⟩) f.length cc) f.length ((f.set i ⟨nm, kd, nd, cr, sv⟩).flatMap Ap.cells) := by
    rw [← put_ap ha]
    exact hC4
  have HF := Lib.hid hF
  have HB5 := Lib.hid hB5
  have hw1 := HB0.out.size
  clear hC hC0 hC1 hC2 hC3 hC4 hF hB5 hown' hgrow ha k0 k1 k2 k3 k4
  have i0' : (0 : Int) ≤ (i : Int) := by omega
  have i1 : (i : Int) < (f.length : Int) := by omega
  go_wp2
  go_ret
  exact ⟨gc, cc, rfl, own_base HF.out (by omega), bel_put (g := gc) (by omega) (Ap.cells ⟨nm, kd, nd, cr, sv⟩) w5 (i * 5) HB5.out⟩
set_option maxRecDepth 100000 in
set_option maxHeartbeats 2000000 in
theorem changeS_c (v : Value) (f : List Ap) (nm : ByteArray) (s : Int) (w : World) (hz : ∀ x ∈ f, x.nm.size ≤ 9223372036854775807) (hf : Rd w v f.length (f.flatMap Ap.cells)) :
    Calls Tryz.prog 7 #[v, .string nm, .int .i64 s] w (FlR (chV nm s f) w) := by
  have HR := Lib.hid hf
  have HZ := Lib.hid hz
  clear hz
  obtain ⟨A, cA, rfl, hcA, hmA, hcell⟩ := hf
  rw [maxLen_eq] at hmA
  have HCELL := Lib.hid hcell
  clear hcell
  obtain ⟨K, hK⟩ : ∃ K, findA nm f = K := ⟨_, rfl⟩
  have HK := Lib.hid hK
  clear hK
  go_enter Tryz.func7, Tryz.ntmps7
  go_wp2_with fail
  refine (apFind_c _ f nm _ HR.out).mono ?_; rw [HK.out]; rintro e w1 ⟨rfl, hb⟩
  have HB1 := Lib.hid hb
  clear hb
  go_wp2_with fail
  refine (apFleet_c _ f _ HZ.out (rd_below HR.out HB1.out)).mono ?_; rintro e w2 ⟨rfl, hb⟩
  have HB2 := Lib.hid (bel_then HB1.out hb)
  clear hb
  cases hg : goodFl f with
  | false =>
    have HG := Lib.hid hg
    clear hg
    go_wp2
    go_ret2
    exact flR_no (chV_no1 HG.out) HB2.out
  | true =>
    have HG := Lib.hid hg
    have h12 := (goodFl_true hg).1
    clear hg
    by_cases hk : K < 0
    · go_wp2
      go_ret2
      exact flR_no (chV_no2 (by rw [HK.out]; exact hk)) HB2.out
    · obtain ⟨i, rfl⟩ : ∃ i : Nat, K = (i : Int) := ⟨K.toNat, by omega⟩
      obtain ⟨a, ha, hnm, hif⟩ := find_some HK.out
      clear hnm
      have i0 : (0 : Int) ≤ (i : Int) := by omega
      have i1 : (i : Int) < (f.length : Int) := by omega
      clear hk
      obtain ⟨b, off, rfl, hbl, hcell⟩ : ∃ b off, A = some ⟨b, off, none⟩ ∧ b < w.heap.size ∧ ∀ j u, (f.flatMap Ap.cells)[j]? = some u → w.cell? ⟨b, off + j, none⟩ = some u := HCELL.out (by omega)
      obtain ⟨nm0, kd, nd, cr, sv⟩ := a
      obtain ⟨d0, d1, d2, d3, d4⟩ := ap_at hcell HB2.out hbl ha
      dsimp only at d0 d1 d2 d3 d4
      have HD : Hid (∀ W, Below w.heap.size w W → W.cell? ⟨b, off + i * 5, none⟩ = some (.string nm0) ∧ W.cell? ⟨b, off + i * 5 + 1, none⟩ = some (.int .i64 kd) ∧ W.cell? ⟨b, off + i * 5 + 2, none⟩ = some (.int .i64 nd) ∧ W.cell? ⟨b, off + i * 5 + 3, none⟩ = some (.int .i64 cr) ∧ W.cell? ⟨b, off + i * 5 + 4, none⟩ = some (.int .i64 sv)) := Lib.hid (fun W hW => ap_at hcell hW hbl ha)
      clear hcell
      cases hs : inB s 0 5 with
      | false =>
        go_wp2_with (go_at_call 36; refine (apState_c s _).mono ?_; rw [hs]; rintro e w3 ⟨rfl, rfl⟩)
        go_ret2
        exact flR_no (chV_no3 hs) HB2.out
      | true =>
        go_wp2_with (go_at_call 36; refine (apState_c s _).mono ?_; rw [hs]; rintro e w3 ⟨rfl, rfl⟩)
        cases hm : mayB sv s with
        | false =>
          refine (apMay_c sv s _).mono ?_; rw [hm]; rintro e w5 ⟨rfl, hb⟩
          have HB5 := Lib.hid (bel_then HB2.out hb)
          clear hb
          go_wp2
          go_ret2
          exact flR_no (chV_no4 HK.out ha hm) HB5.out
        | true =>
          refine (apMay_c sv s _).mono ?_; rw [hm]; rintro e w4 ⟨rfl, hb⟩
          have HB4 := Lib.hid (bel_then HB2.out hb)
          clear hb
          obtain ⟨d0, d1, d2, d3, d4⟩ : w4.cell? ⟨b, off + i * 5, none⟩ = some (.string nm0) ∧ w4.cell? ⟨b, off + i * 5 + 1, none⟩ = some (.int .i64 kd) ∧ w4.cell? ⟨b, off + i * 5 + 2, none⟩ = some (.int .i64 nd) ∧ w4.cell? ⟨b, off + i * 5 + 3, none⟩ = some (.int .i64 cr) ∧ w4.cell? ⟨b, off + i * 5 + 4, none⟩ = some (.int .i64 sv) := HD.out w4 HB4.out
          go_wp2_with fail
          have HA := Lib.hid ha
          clear ha d0 d1 d2 d3 d4
          generalize hW : World.alloc _ _ = w5
          have hB5 : Below w.heap.size w w5 := by subst hW; exact bel_al HB4.out _
          have HB5 := Lib.hid hB5
          clear hW hB5
          refine (apWith_c _ f i _ _ _ _ _ _ h12 hif (rd_below HR.out HB5.out)).mono ?_; rintro e w6 ⟨g, cap, rfl, ho, hb⟩
          have HO := Lib.hid ho
          have HB6 := Lib.hid (bel_then HB5.out hb)
          clear ho hb
          go_wp2
          go_ret2
          exact flR_own HO.out (by rw [List.length_set]) (chV_yes (a := ⟨nm0, kd, nd, cr, sv⟩) HG.out HK.out HA.out hs hm) HB6.out
set_option maxRecDepth 100000 in
set_option maxHeartbeats 2000000 in
theorem moveS_c (v : Value) (f : List Ap) (nm : ByteArray) (s : Int) (w : World) (hz : ∀ x ∈ f, x.nm.size ≤ 9223372036854775807) (hf : Rd w v f.length (f.flatMap Ap.cells)) :
    Calls Tryz.prog 15 #[v, .string nm, .int .i64 s] w (FlR (mvV nm s f) w) := by
  have HR := Lib.hid hf
  have HZ := Lib.hid hz
  clear hz
  obtain ⟨A, cA, rfl, hcA, hmA, hcell⟩ := hf
  rw [maxLen_eq] at hmA
  have HCELL := Lib.hid hcell
  clear hcell
  obtain ⟨K, hK⟩ : ∃ K, findA nm f = K := ⟨_, rfl⟩
  have HK := Lib.hid hK
  clear hK
  go_enter Tryz.func15, Tryz.ntmps15
  go_wp2_with fail
  refine (apFind_c _ f nm _ HR.out).mono ?_; rw [HK.out]; rintro e w1 ⟨rfl, hb⟩
  have HB1 := Lib.hid hb
  clear hb
  go_wp2_with fail
  refine (apFleet_c _ f _ HZ.out (rd_below HR.out HB1.out)).mono ?_; rintro e w2 ⟨rfl, hb⟩
  have HB2 := Lib.hid (bel_then HB1.out hb)
  clear hb
  cases hg : goodFl f with
  | false =>
    have HG := Lib.hid hg
    clear hg
    go_wp2
    go_ret2
    exact flR_no (mvV_no1 HG.out) HB2.out
  | true =>
    have HG := Lib.hid hg
    have h12 := (goodFl_true hg).1
    clear hg
    by_cases hk : K < 0
    · go_wp2
      go_ret2
      exact flR_no (mvV_no2 (by rw [HK.out]; exact hk)) HB2.out
    · obtain ⟨i, rfl⟩ : ∃ i : Nat, K = (i : Int) := ⟨K.toNat, by omega⟩
      obtain ⟨a, ha, hnm, hif⟩ := find_some HK.out
      clear hnm
      have i0 : (0 : Int) ≤ (i : Int) := by omega
      have i1 : (i : Int) < (f.length : Int) := by omega
      clear hk
      obtain ⟨b, off, rfl, hbl, hcell⟩ : ∃ b off, A = some ⟨b, off, none⟩ ∧ b < w.heap.size ∧ ∀ j u, (f.flatMap Ap.cells)[j]? = some u → w.cell? ⟨b, off + j, none⟩ = some u := HCELL.out (by omega)
      obtain ⟨nm0, kd, nd, cr, sv⟩ := a
      obtain ⟨d0, d1, d2, d3, d4⟩ := ap_at hcell HB2.out hbl ha
      dsimp only at d0 d1 d2 d3 d4
      clear hcell
      cases hs : inB s 0 13 with
      | false =>
        go_wp2_with (go_at_call 41; refine (apNode_c s _).mono ?_; rw [hs]; rintro e w3 ⟨rfl, rfl⟩)
        go_ret2
        exact flR_no (mvV_no3 hs) HB2.out
      | true =>
        by_cases h2 : sv = 2
        · subst h2
          go_wp2_with (go_at_call 41; refine (apNode_c s _).mono ?_; rw [hs]; rintro e w3 ⟨rfl, rfl⟩)
          have HA := Lib.hid ha
          clear ha d0 d1 d2 d3 d4
          generalize hW : World.alloc _ _ = w5
          have hB5 : Below w.heap.size w w5 := by subst hW; exact bel_al HB2.out _
          have HB5 := Lib.hid hB5
          clear hW hB5
          refine (apWith_c _ f i _ _ _ _ _ _ h12 hif (rd_below HR.out HB5.out)).mono ?_; rintro e w6 ⟨g, cap, rfl, ho, hb⟩
          have HO := Lib.hid ho
          have HB6 := Lib.hid (bel_then HB5.out hb)
          clear ho hb
          go_wp2
          go_ret2
          exact flR_own HO.out (by rw [List.length_set]) (mvV_yes (a := ⟨nm0, kd, nd, cr, 2⟩) HG.out HK.out HA.out hs (.inl rfl)) HB6.out
        · by_cases h4 : sv = 4
          · subst h4
            go_wp2_with (go_at_call 41; refine (apNode_c s _).mono ?_; rw [hs]; rintro e w3 ⟨rfl, rfl⟩)
            have HA := Lib.hid ha
            clear ha d0 d1 d2 d3 d4
            generalize hW : World.alloc _ _ = w5
            have hB5 : Below w.heap.size w w5 := by subst hW; exact bel_al HB2.out _
            have HB5 := Lib.hid hB5
            clear hW hB5
            refine (apWith_c _ f i _ _ _ _ _ _ h12 hif (rd_below HR.out HB5.out)).mono ?_; rintro e w6 ⟨g, cap, rfl, ho, hb⟩
            have HO := Lib.hid ho
            have HB6 := Lib.hid (bel_then HB5.out hb)
            clear ho hb
            go_wp2
            go_ret2
            exact flR_own HO.out (by rw [List.length_set]) (mvV_yes (a := ⟨nm0, kd, nd, cr, 4⟩) HG.out HK.out HA.out hs (.inr rfl)) HB6.out
          · go_wp2_with (go_at_call 41; refine (apNode_c s _).mono ?_; rw [hs]; rintro e w3 ⟨rfl, rfl⟩)
            go_ret2
            exact flR_no (mvV_no4 HK.out ha h2 h4) HB2.out
end Go.Proofs.YtgcdgcidjjdhmaaGreatDoor

namespace Go.Proofs.YtgcdgcidjjdhmaaGreatDoor
set_option linter.unusedVariables false
set_option linter.unusedSimpArgs false
open Go.RowKit

theorem shF_nm {f : List Ap} {i k : Nat} {a b : Ap} {n : Int} (hz : ∀ x ∈ f, x.nm.size ≤ 9223372036854775807) (ha : f[i]? = some a) (hb : f[k]? = some b) : ∀ x ∈ shF i k a b n f, x.nm.size ≤ 9223372036854775807 := by
  intro x hx
  unfold shF at hx
  rcases List.mem_or_eq_of_mem_set hx with h | h
  · rcases List.mem_or_eq_of_mem_set h with h | h
    · exact hz x h
    · subst h; exact hz a (List.mem_of_getElem? ha)
  · subst h; exact hz b (List.mem_of_getElem? hb)
set_option maxRecDepth 100000 in
set_option maxHeartbeats 4000000 in
theorem shareI_c (v : Value) (f : List Ap) (nm nm' : ByteArray) (n : Int) (w : World) (hz : ∀ x ∈ f, x.nm.size ≤ 9223372036854775807) (hf : Rd w v f.length (f.flatMap Ap.cells)) :
    Calls Tryz.prog 17 #[v, .string nm, .string nm', .int .i64 n] w (FlR (shV nm nm' n f) w) := by
  have HR := Lib.hid hf
  have HZ := Lib.hid hz
  clear hz
  obtain ⟨A, cA, rfl, hcA, hmA, hcell⟩ := hf
  rw [maxLen_eq] at hmA
  have HCELL := Lib.hid hcell
  clear hcell
  obtain ⟨K, hK⟩ : ∃ K, findA nm f = K := ⟨_, rfl⟩
  obtain ⟨M, hM⟩ : ∃ M, findA nm' f = M := ⟨_, rfl⟩
  have HK := Lib.hid hK
  have HM := Lib.hid hM
  clear hK hM
  go_enter Tryz.func17, Tryz.ntmps17
  go_wp2_with fail
  refine (findI_c _ f nm _ HR.out).mono ?_; rw [HK.out]; rintro e w1 ⟨rfl, hb⟩
  have HB1 := Lib.hid hb
  clear hb
  go_wp2_with fail
  refine (findI_c _ f nm' _ (rd_below HR.out HB1.out)).mono ?_; rw [HM.out]; rintro e w1 ⟨rfl, hb⟩
  have HB1 := Lib.hid (bel_then HB1.out hb)
  clear hb
  go_upto_region 2 with fail
  cases hg : goodFl f with
  | false =>
    ((refine wp_region_held_drew (S := fun w' => Hid (Below w.heap.size w w')) (by kernel_rfl) (by (try dsimp only); exact Lib.hid (bel_dr HB1.out)) (fun hHeld => ?_)); (refine wpAnyH_take (i := 0) (v := ?_) (arr_get g_z) (by kernel_rfl) (by kernel_rfl) (by kernel_rfl) (fun _ _ _ h => h) (Or.inl ⟨by rfl, ?_⟩) hHeld ?_; rotate_left; (focus (intro w hSw; clear hSw; go_simp; try (first | (with_reducible rfl) | (rw [if_neg (by (try simp only [ByteArray.size_append]); omega)])))); try simp only [Act.put, List.setIfInBounds_toArray, List.set_cons_zero, List.set_cons_succ]); (refine wpAnyH_ready (rs := [1]) (by kernel_rfl) (by simp) ?_); (refine AllReadyH.cons (i := 1) (arr_get (g_s g_z)) (fun K hK => ?_) AllReadyH.nil); (go_simp); ((go_at_call 29; refine (isFleet_c _ f _ HZ.out (rd_below HR.out (bel_dr HB1.out))).mono ?_; rw [hg]; rintro e w2 ⟨rfl, hb1⟩; have hb0 := hb1; have hs2 : w1.heap.size ≤ w2.heap.size := hb1.size)); (try (go_wp2_with fail)); (refine hK.out _ _ (by (try dsimp only); exact Lib.hid (bel_then hHeld.out hb1)) (fun hHeld2 => ?_)); (clear hHeld hK); (clear K); (have hHeld := hHeld2); (clear hHeld2); (try simp only [Act.put, List.setIfInBounds_toArray, List.set_cons_zero, List.set_cons_succ]); (refine wpAnyH_take (i := 2) (v := ?_) (arr_get (g_s (g_s g_z))) (by kernel_rfl) (by kernel_rfl) (by kernel_rfl) (fun _ _ _ h => h) (Or.inl ⟨by rfl, ?_⟩) hHeld ?_; rotate_left; (focus (intro w hSw; clear hSw; go_simp; try (first | (with_reducible rfl) | (rw [if_neg (by (try simp only [ByteArray.size_append]); omega)])))); try simp only [Act.put, List.setIfInBounds_toArray, List.set_cons_zero, List.set_cons_succ]); (refine wpAnyH_take (i := 3) (v := ?_) (arr_get (g_s (g_s (g_s g_z)))) (by kernel_rfl) (by kernel_rfl) (by kernel_rfl) (fun _ _ _ h => h) (Or.inl ⟨by rfl, ?_⟩) hHeld ?_; rotate_left; (focus (intro w hSw; clear hSw; go_simp; try (first | (with_reducible rfl) | (rw [if_neg (by (try simp only [ByteArray.size_append]); omega)])))); try simp only [Act.put, List.setIfInBounds_toArray, List.set_cons_zero, List.set_cons_succ]); (refine wpAnyH_take (i := 4) (v := _) (arr_get (g_s (g_s (g_s (g_s g_z))))) (by kernel_rfl) (by kernel_rfl) (by kernel_rfl) (fun _ _ _ h => h) (Or.inr ⟨by rfl, rfl⟩) hHeld ?_; try simp only [Act.put, List.setIfInBounds_toArray, List.set_cons_zero, List.set_cons_succ]); (refine wpAnyH_take (i := 5) (v := _) (arr_get (g_s (g_s (g_s (g_s (g_s g_z)))))) (by kernel_rfl) (by kernel_rfl) (by kernel_rfl) (fun _ _ _ h => h) (Or.inr ⟨by rfl, rfl⟩) hHeld ?_; try simp only [Act.put, List.setIfInBounds_toArray, List.set_cons_zero, List.set_cons_succ]); (refine wpAnyH_take (i := 6) (v := ?_) (arr_get (g_s (g_s (g_s (g_s (g_s (g_s g_z))))))) (by kernel_rfl) (by kernel_rfl) (by kernel_rfl) (fun _ _ _ h => h) (Or.inl ⟨by rfl, ?_⟩) hHeld ?_; rotate_left; (focus (intro w hSw; clear hSw; go_simp; try (first | (with_reducible rfl) | (rw [if_neg (by (try simp only [ByteArray.size_append]); omega)])))); try simp only [Act.put, List.setIfInBounds_toArray, List.set_cons_zero, List.set_cons_succ]); (refine wpAnyH_take (i := 7) (v := ?_) (arr_get (g_s (g_s (g_s (g_s (g_s (g_s (g_s g_z)))))))) (by kernel_rfl) (by kernel_rfl) (by kernel_rfl) (fun _ _ _ h => h) (Or.inl ⟨by rfl, ?_⟩) hHeld ?_; rotate_left; (focus (intro w hSw; clear hSw; go_simp; try (first | (with_reducible rfl) | (rw [if_neg (by (try simp only [ByteArray.size_append]); omega)])))); try simp only [Act.put, List.setIfInBounds_toArray, List.set_cons_zero, List.set_cons_succ]); (refine wpAnyH_take (i := 8) (v := _) (arr_get (g_s (g_s (g_s (g_s (g_s (g_s (g_s (g_s g_z))))))))) (by kernel_rfl) (by kernel_rfl) (by kernel_rfl) (fun _ _ _ h => h) (Or.inr ⟨by rfl, rfl⟩) hHeld ?_; try simp only [Act.put, List.setIfInBounds_toArray, List.set_cons_zero, List.set_cons_succ]); (refine wpAnyH_take (i := 9) (v := _) (arr_get (g_s (g_s (g_s (g_s (g_s (g_s (g_s (g_s (g_s g_z)))))))))) (by kernel_rfl) (by kernel_rfl) (by kernel_rfl) (fun _ _ _ h => h) (Or.inr ⟨by rfl, rfl⟩) hHeld ?_; try simp only [Act.put, List.setIfInBounds_toArray, List.set_cons_zero, List.set_cons_succ]); (refine wpAnyH_take (i := 10) (v := ?_) (arr_get (g_s (g_s (g_s (g_s (g_s (g_s (g_s (g_s (g_s (g_s g_z))))))))))) (by kernel_rfl) (by kernel_rfl) (by kernel_rfl) (fun _ _ _ h => h) (Or.inl ⟨by rfl, ?_⟩) hHeld ?_; rotate_left; (focus (intro w hSw; clear hSw; go_simp; try (first | (with_reducible rfl) | (rw [if_neg (by (try simp only [ByteArray.size_append]); omega)])))); try simp only [Act.put, List.setIfInBounds_toArray, List.set_cons_zero, List.set_cons_succ]); (refine wpAnyH_take (i := 11) (v := ?_) (arr_get (g_s (g_s (g_s (g_s (g_s (g_s (g_s (g_s (g_s (g_s (g_s g_z)))))))))))) (by kernel_rfl) (by kernel_rfl) (by kernel_rfl) (fun _ _ _ h => h) (Or.inl ⟨by rfl, ?_⟩) hHeld ?_; rotate_left; (focus (intro w hSw; clear hSw; go_simp; try (first | (with_reducible rfl) | (rw [if_neg (by (try simp only [ByteArray.size_append]); omega)])))); try simp only [Act.put, List.setIfInBounds_toArray, List.set_cons_zero, List.set_cons_succ]); (refine wpAnyH_take (i := 12) (v := _) (arr_get (g_s (g_s (g_s (g_s (g_s (g_s (g_s (g_s (g_s (g_s (g_s (g_s g_z))))))))))))) (by kernel_rfl) (by kernel_rfl) (by kernel_rfl) (fun _ _ _ h => h) (Or.inr ⟨by rfl, rfl⟩) hHeld ?_; try simp only [Act.put, List.setIfInBounds_toArray, List.set_cons_zero, List.set_cons_succ]); (refine wpAnyH_take (i := 13) (v := _) (arr_get (g_s (g_s (g_s (g_s (g_s (g_s (g_s (g_s (g_s (g_s (g_s (g_s (g_s g_z)))))))))))))) (by kernel_rfl) (by kernel_rfl) (by kernel_rfl) (fun _ _ _ h => h) (Or.inr ⟨by rfl, rfl⟩) hHeld ?_; try simp only [Act.put, List.setIfInBounds_toArray, List.set_cons_zero, List.set_cons_succ]); (refine wpAnyH_take (i := 14) (v := _) (arr_get (g_s (g_s (g_s (g_s (g_s (g_s (g_s (g_s (g_s (g_s (g_s (g_s (g_s (g_s g_z))))))))))))))) (by kernel_rfl) (by kernel_rfl) (by kernel_rfl) (fun _ _ _ h => h) (Or.inr ⟨by rfl, rfl⟩) hHeld ?_; try simp only [Act.put, List.setIfInBounds_toArray, List.set_cons_zero, List.set_cons_succ]); (refine wpAnyH_take (i := 15) (v := ?_) (arr_get (g_s (g_s (g_s (g_s (g_s (g_s (g_s (g_s (g_s (g_s (g_s (g_s (g_s (g_s (g_s g_z)))))))))))))))) (by kernel_rfl) (by kernel_rfl) (by kernel_rfl) (fun _ _ _ h => h) (Or.inl ⟨by rfl, ?_⟩) hHeld ?_; rotate_left; (focus (intro w hSw; clear hSw; go_simp; try (first | (with_reducible rfl) | (rw [if_neg (by (try simp only [ByteArray.size_append]); omega)])))); try simp only [Act.put, List.setIfInBounds_toArray, List.set_cons_zero, List.set_cons_succ]); (refine wpAnyH_take (i := 16) (v := ?_) (arr_get (g_s (g_s (g_s (g_s (g_s (g_s (g_s (g_s (g_s (g_s (g_s (g_s (g_s (g_s (g_s (g_s g_z))))))))))))))))) (by kernel_rfl) (by kernel_rfl) (by kernel_rfl) (fun _ _ _ h => h) (Or.inl ⟨by rfl, ?_⟩) hHeld ?_; rotate_left; (focus (intro w hSw; clear hSw; go_simp; try (first | (with_reducible rfl) | (rw [if_neg (by (try simp only [ByteArray.size_append]); omega)])))); try simp only [Act.put, List.setIfInBounds_toArray, List.set_cons_zero, List.set_cons_succ]); (refine wpAnyH_take (i := 17) (v := _) (arr_get (g_s (g_s (g_s (g_s (g_s (g_s (g_s (g_s (g_s (g_s (g_s (g_s (g_s (g_s (g_s (g_s (g_s g_z)))))))))))))))))) (by kernel_rfl) (by kernel_rfl) (by kernel_rfl) (fun _ _ _ h => h) (Or.inr ⟨by rfl, rfl⟩) hHeld ?_; try simp only [Act.put, List.setIfInBounds_toArray, List.set_cons_zero, List.set_cons_succ]); (refine wpAnyH_take (i := 18) (v := _) (arr_get (g_s (g_s (g_s (g_s (g_s (g_s (g_s (g_s (g_s (g_s (g_s (g_s (g_s (g_s (g_s (g_s (g_s (g_s g_z))))))))))))))))))) (by kernel_rfl) (by kernel_rfl) (by kernel_rfl) (fun _ _ _ h => h) (Or.inr ⟨by rfl, rfl⟩) hHeld ?_; try simp only [Act.put, List.setIfInBounds_toArray, List.set_cons_zero, List.set_cons_succ]); (refine wpAnyH_take (i := 19) (v := _) (arr_get (g_s (g_s (g_s (g_s (g_s (g_s (g_s (g_s (g_s (g_s (g_s (g_s (g_s (g_s (g_s (g_s (g_s (g_s (g_s g_z)))))))))))))))))))) (by kernel_rfl) (by kernel_rfl) (by kernel_rfl) (fun _ _ _ h => h) (Or.inr ⟨by rfl, rfl⟩) hHeld ?_; try simp only [Act.put, List.setIfInBounds_toArray, List.set_cons_zero, List.set_cons_succ]); (refine wpAnyH_take (i := 20) (v := ?_) (arr_get (g_s (g_s (g_s (g_s (g_s (g_s (g_s (g_s (g_s (g_s (g_s (g_s (g_s (g_s (g_s (g_s (g_s (g_s (g_s (g_s g_z))))))))))))))))))))) (by kernel_rfl) (by kernel_rfl) (by kernel_rfl) (fun _ _ _ h => h) (Or.inl ⟨by rfl, ?_⟩) hHeld ?_; rotate_left; (focus (intro w hSw; clear hSw; go_simp; try (first | (with_reducible rfl) | (rw [if_neg (by (try simp only [ByteArray.size_append]); omega)])))); try simp only [Act.put, List.setIfInBounds_toArray, List.set_cons_zero, List.set_cons_succ]); (refine wpAnyH_take (i := 21) (v := ?_) (arr_get (g_s (g_s (g_s (g_s (g_s (g_s (g_s (g_s (g_s (g_s (g_s (g_s (g_s (g_s (g_s (g_s (g_s (g_s (g_s (g_s (g_s g_z)))))))))))))))))))))) (by kernel_rfl) (by kernel_rfl) (by kernel_rfl) (fun _ _ _ h => h) (Or.inl ⟨by rfl, ?_⟩) hHeld ?_; rotate_left; (focus (intro w hSw; clear hSw; go_simp; try (first | (with_reducible rfl) | (rw [if_neg (by (try simp only [ByteArray.size_append]); omega)])))); try simp only [Act.put, List.setIfInBounds_toArray, List.set_cons_zero, List.set_cons_succ]); (refine wpAnyH_take (i := 22) (v := _) (arr_get (g_s (g_s (g_s (g_s (g_s (g_s (g_s (g_s (g_s (g_s (g_s (g_s (g_s (g_s (g_s (g_s (g_s (g_s (g_s (g_s (g_s (g_s g_z))))))))))))))))))))))) (by kernel_rfl) (by kernel_rfl) (by kernel_rfl) (fun _ _ _ h => h) (Or.inr ⟨by rfl, rfl⟩) hHeld ?_; try simp only [Act.put, List.setIfInBounds_toArray, List.set_cons_zero, List.set_cons_succ]); (refine wpAnyH_take (i := 23) (v := _) (arr_get (g_s (g_s (g_s (g_s (g_s (g_s (g_s (g_s (g_s (g_s (g_s (g_s (g_s (g_s (g_s (g_s (g_s (g_s (g_s (g_s (g_s (g_s (g_s g_z)))))))))))))))))))))))) (by kernel_rfl) (by kernel_rfl) (by kernel_rfl) (fun _ _ _ h => h) (Or.inr ⟨by rfl, rfl⟩) hHeld ?_; try simp only [Act.put, List.setIfInBounds_toArray, List.set_cons_zero, List.set_cons_succ]); (refine wpAnyH_take (i := 24) (v := _) (arr_get (g_s (g_s (g_s (g_s (g_s (g_s (g_s (g_s (g_s (g_s (g_s (g_s (g_s (g_s (g_s (g_s (g_s (g_s (g_s (g_s (g_s (g_s (g_s (g_s g_z))))))))))))))))))))))))) (by kernel_rfl) (by kernel_rfl) (by kernel_rfl) (fun _ _ _ h => h) (Or.inr ⟨by rfl, rfl⟩) hHeld ?_; try simp only [Act.put, List.setIfInBounds_toArray, List.set_cons_zero, List.set_cons_succ]); (refine wpAnyH_take (i := 25) (v := _) (arr_get (g_s (g_s (g_s (g_s (g_s (g_s (g_s (g_s (g_s (g_s (g_s (g_s (g_s (g_s (g_s (g_s (g_s (g_s (g_s (g_s (g_s (g_s (g_s (g_s (g_s g_z)))))))))))))))))))))))))) (by kernel_rfl) (by kernel_rfl) (by kernel_rfl) (fun _ _ _ h => h) (Or.inr ⟨by rfl, rfl⟩) hHeld ?_; try simp only [Act.put, List.setIfInBounds_toArray, List.set_cons_zero, List.set_cons_succ]); (refine wpAnyH_take (i := 26) (v := _) (arr_get (g_s (g_s (g_s (g_s (g_s (g_s (g_s (g_s (g_s (g_s (g_s (g_s (g_s (g_s (g_s (g_s (g_s (g_s (g_s (g_s (g_s (g_s (g_s (g_s (g_s (g_s g_z))))))))))))))))))))))))))) (by kernel_rfl) (by kernel_rfl) (by kernel_rfl) (fun _ _ _ h => h) (Or.inr ⟨by rfl, rfl⟩) hHeld ?_; try simp only [Act.put, List.setIfInBounds_toArray, List.set_cons_zero, List.set_cons_succ]); (refine wpAnyH_take (i := 27) (v := _) (arr_get (g_s (g_s (g_s (g_s (g_s (g_s (g_s (g_s (g_s (g_s (g_s (g_s (g_s (g_s (g_s (g_s (g_s (g_s (g_s (g_s (g_s (g_s (g_s (g_s (g_s (g_s (g_s g_z)))))))))))))))))))))))))))) (by kernel_rfl) (by kernel_rfl) (by kernel_rfl) (fun _ _ _ h => h) (Or.inr ⟨by rfl, rfl⟩) hHeld ?_; try simp only [Act.put, List.setIfInBounds_toArray, List.set_cons_zero, List.set_cons_succ]); (refine wpAnyH_take (i := 28) (v := _) (arr_get (g_s (g_s (g_s (g_s (g_s (g_s (g_s (g_s (g_s (g_s (g_s (g_s (g_s (g_s (g_s (g_s (g_s (g_s (g_s (g_s (g_s (g_s (g_s (g_s (g_s (g_s (g_s (g_s g_z))))))))))))))))))))))))))))) (by kernel_rfl) (by kernel_rfl) (by kernel_rfl) (fun _ _ _ h => h) (Or.inr ⟨by rfl, rfl⟩) hHeld ?_; try simp only [Act.put, List.setIfInBounds_toArray, List.set_cons_zero, List.set_cons_succ]); (refine wpAnyH_take (i := 29) (v := _) (arr_get (g_s (g_s (g_s (g_s (g_s (g_s (g_s (g_s (g_s (g_s (g_s (g_s (g_s (g_s (g_s (g_s (g_s (g_s (g_s (g_s (g_s (g_s (g_s (g_s (g_s (g_s (g_s (g_s (g_s g_z)))))))))))))))))))))))))))))) (by kernel_rfl) (by kernel_rfl) (by kernel_rfl) (fun _ _ _ h => h) (Or.inr ⟨by rfl, rfl⟩) hHeld ?_; try simp only [Act.put, List.setIfInBounds_toArray, List.set_cons_zero, List.set_cons_succ]); (refine wpAnyH_take (i := 30) (v := _) (arr_get (g_s (g_s (g_s (g_s (g_s (g_s (g_s (g_s (g_s (g_s (g_s (g_s (g_s (g_s (g_s (g_s (g_s (g_s (g_s (g_s (g_s (g_s (g_s (g_s (g_s (g_s (g_s (g_s (g_s (g_s g_z))))))))))))))))))))))))))))))) (by kernel_rfl) (by kernel_rfl) (by kernel_rfl) (fun _ _ _ h => h) (Or.inr ⟨by rfl, rfl⟩) hHeld ?_; try simp only [Act.put, List.setIfInBounds_toArray, List.set_cons_zero, List.set_cons_succ]); (refine wpAnyH_take (i := 31) (v := _) (arr_get (g_s (g_s (g_s (g_s (g_s (g_s (g_s (g_s (g_s (g_s (g_s (g_s (g_s (g_s (g_s (g_s (g_s (g_s (g_s (g_s (g_s (g_s (g_s (g_s (g_s (g_s (g_s (g_s (g_s (g_s (g_s g_z)))))))))))))))))))))))))))))))) (by kernel_rfl) (by kernel_rfl) (by kernel_rfl) (fun _ _ _ h => h) (Or.inr ⟨by rfl, rfl⟩) hHeld ?_; try simp only [Act.put, List.setIfInBounds_toArray, List.set_cons_zero, List.set_cons_succ]); (refine wpAnyH_take (i := 32) (v := _) (arr_get (g_s (g_s (g_s (g_s (g_s (g_s (g_s (g_s (g_s (g_s (g_s (g_s (g_s (g_s (g_s (g_s (g_s (g_s (g_s (g_s (g_s (g_s (g_s (g_s (g_s (g_s (g_s (g_s (g_s (g_s (g_s (g_s g_z))))))))))))))))))))))))))))))))) (by kernel_rfl) (by kernel_rfl) (by kernel_rfl) (fun _ _ _ h => h) (Or.inr ⟨by rfl, rfl⟩) hHeld ?_; try simp only [Act.put, List.setIfInBounds_toArray, List.set_cons_zero, List.set_cons_succ]); (refine wpAnyH_take (i := 33) (v := ?_) (arr_get (g_s (g_s (g_s (g_s (g_s (g_s (g_s (g_s (g_s (g_s (g_s (g_s (g_s (g_s (g_s (g_s (g_s (g_s (g_s (g_s (g_s (g_s (g_s (g_s (g_s (g_s (g_s (g_s (g_s (g_s (g_s (g_s (g_s g_z)))))))))))))))))))))))))))))))))) (by kernel_rfl) (by kernel_rfl) (by kernel_rfl) (fun _ _ _ h => h) (Or.inl ⟨by rfl, ?_⟩) hHeld ?_; rotate_left; (focus (intro w hSw; clear hSw; go_simp; try (first | (with_reducible rfl) | (rw [if_neg (by (try simp only [ByteArray.size_append]); omega)])))); try simp only [Act.put, List.setIfInBounds_toArray, List.set_cons_zero, List.set_cons_succ]); (refine wpAnyH_done (by kernel_rfl) ?_ _))
    have HB2 := Lib.hid (bel_then (bel_dr HB1.out) hb1)
    clear hb1
    go_wp2
    go_ret2
    exact flR_no (shV_no1 hg) HB2.out
  | true =>
    have h12 := (goodFl_true hg).1
    have HAll := Lib.hid (goodFl_true hg).2
    by_cases hk : K < 0
    · have hK0 : decide (K < 0) = true := decide_eq_true hk
      ((refine wp_region_held_drew (S := fun w' => Hid (Below w.heap.size w w')) (by kernel_rfl) (by (try dsimp only); exact Lib.hid (bel_dr HB1.out)) (fun hHeld => ?_)); (refine wpAnyH_take (i := 0) (v := ?_) (arr_get g_z) (by kernel_rfl) (by kernel_rfl) (by kernel_rfl) (fun _ _ _ h => h) (Or.inl ⟨by rfl, ?_⟩) hHeld ?_; rotate_left; (focus (intro w hSw; clear hSw; go_simp; try (first | (with_reducible rfl) | (rw [if_neg (by (try simp only [ByteArray.size_append]); omega)])))); try simp only [Act.put, List.setIfInBounds_toArray, List.set_cons_zero, List.set_cons_succ, hK0]); (refine wpAnyH_ready (rs := [1]) (by kernel_rfl) (by simp) ?_); (refine AllReadyH.cons (i := 1) (arr_get (g_s g_z)) (fun K hK => ?_) AllReadyH.nil); (go_simp); ((go_at_call 29; refine (isFleet_c _ f _ HZ.out (rd_below HR.out (bel_dr HB1.out))).mono ?_; rw [hg]; rintro e w2 ⟨rfl, hb1⟩; have hb0 := hb1; have hs2 : w1.heap.size ≤ w2.heap.size := hb1.size)); (try (go_wp2_with fail)); (refine hK.out _ _ (by (try dsimp only); exact Lib.hid (bel_then hHeld.out hb1)) (fun hHeld2 => ?_)); (clear hHeld hK); (clear K); (have hHeld := hHeld2); (clear hHeld2); (try simp only [Act.put, List.setIfInBounds_toArray, List.set_cons_zero, List.set_cons_succ, hK0]); (refine wpAnyH_take (i := 2) (v := ?_) (arr_get (g_s (g_s g_z))) (by kernel_rfl) (by kernel_rfl) (by kernel_rfl) (fun _ _ _ h => h) (Or.inl ⟨by rfl, ?_⟩) hHeld ?_; rotate_left; (focus (intro w hSw; clear hSw; go_simp; try (first | (with_reducible rfl) | (rw [if_neg (by (try simp only [ByteArray.size_append]); omega)])))); try simp only [Act.put, List.setIfInBounds_toArray, List.set_cons_zero, List.set_cons_succ, hK0]); (refine wpAnyH_take (i := 3) (v := ?_) (arr_get (g_s (g_s (g_s g_z)))) (by kernel_rfl) (by kernel_rfl) (by kernel_rfl) (fun _ _ _ h => h) (Or.inl ⟨by rfl, ?_⟩) hHeld ?_; rotate_left; (focus (intro w hSw; clear hSw; go_simp; try (first | (with_reducible rfl) | (rw [if_neg (by (try simp only [ByteArray.size_append]); omega)])))); try simp only [Act.put, List.setIfInBounds_toArray, List.set_cons_zero, List.set_cons_succ, hK0]); (refine wpAnyH_take (i := 4) (v := ?_) (arr_get (g_s (g_s (g_s (g_s g_z))))) (by kernel_rfl) (by kernel_rfl) (by kernel_rfl) (fun _ _ _ h => h) (Or.inl ⟨by rfl, ?_⟩) hHeld ?_; rotate_left; (focus (intro w hSw; clear hSw; go_simp; try (first | (with_reducible rfl) | (rw [if_neg (by (try simp only [ByteArray.size_append]); omega)])))); try simp only [Act.put, List.setIfInBounds_toArray, List.set_cons_zero, List.set_cons_succ, hK0]); (refine wpAnyH_take (i := 5) (v := ?_) (arr_get (g_s (g_s (g_s (g_s (g_s g_z)))))) (by kernel_rfl) (by kernel_rfl) (by kernel_rfl) (fun _ _ _ h => h) (Or.inl ⟨by rfl, ?_⟩) hHeld ?_; rotate_left; (focus (intro w hSw; clear hSw; go_simp; try (first | (with_reducible rfl) | (rw [if_neg (by (try simp only [ByteArray.size_append]); omega)])))); try simp only [Act.put, List.setIfInBounds_toArray, List.set_cons_zero, List.set_cons_succ, hK0]); (refine wpAnyH_take (i := 6) (v := ?_) (arr_get (g_s (g_s (g_s (g_s (g_s (g_s g_z))))))) (by kernel_rfl) (by kernel_rfl) (by kernel_rfl) (fun _ _ _ h => h) (Or.inl ⟨by rfl, ?_⟩) hHeld ?_; rotate_left; (focus (intro w hSw; clear hSw; go_simp; try (first | (with_reducible rfl) | (rw [if_neg (by (try simp only [ByteArray.size_append]); omega)])))); try simp only [Act.put, List.setIfInBounds_toArray, List.set_cons_zero, List.set_cons_succ, hK0]); (refine wpAnyH_take (i := 7) (v := ?_) (arr_get (g_s (g_s (g_s (g_s (g_s (g_s (g_s g_z)))))))) (by kernel_rfl) (by kernel_rfl) (by kernel_rfl) (fun _ _ _ h => h) (Or.inl ⟨by rfl, ?_⟩) hHeld ?_; rotate_left; (focus (intro w hSw; clear hSw; go_simp; try (first | (with_reducible rfl) | (rw [if_neg (by (try simp only [ByteArray.size_append]); omega)])))); try simp only [Act.put, List.setIfInBounds_toArray, List.set_cons_zero, List.set_cons_succ, hK0]); (refine wpAnyH_take (i := 8) (v := _) (arr_get (g_s (g_s (g_s (g_s (g_s (g_s (g_s (g_s g_z))))))))) (by kernel_rfl) (by kernel_rfl) (by kernel_rfl) (fun _ _ _ h => h) (Or.inr ⟨by rfl, rfl⟩) hHeld ?_; try simp only [Act.put, List.setIfInBounds_toArray, List.set_cons_zero, List.set_cons_succ, hK0]); (refine wpAnyH_take (i := 9) (v := _) (arr_get (g_s (g_s (g_s (g_s (g_s (g_s (g_s (g_s (g_s g_z)))))))))) (by kernel_rfl) (by kernel_rfl) (by kernel_rfl) (fun _ _ _ h => h) (Or.inr ⟨by rfl, rfl⟩) hHeld ?_; try simp only [Act.put, List.setIfInBounds_toArray, List.set_cons_zero, List.set_cons_succ, hK0]); (refine wpAnyH_take (i := 10) (v := ?_) (arr_get (g_s (g_s (g_s (g_s (g_s (g_s (g_s (g_s (g_s (g_s g_z))))))))))) (by kernel_rfl) (by kernel_rfl) (by kernel_rfl) (fun _ _ _ h => h) (Or.inl ⟨by rfl, ?_⟩) hHeld ?_; rotate_left; (focus (intro w hSw; clear hSw; go_simp; try (first | (with_reducible rfl) | (rw [if_neg (by (try simp only [ByteArray.size_append]); omega)])))); try simp only [Act.put, List.setIfInBounds_toArray, List.set_cons_zero, List.set_cons_succ, hK0]); (refine wpAnyH_take (i := 11) (v := ?_) (arr_get (g_s (g_s (g_s (g_s (g_s (g_s (g_s (g_s (g_s (g_s (g_s g_z)))))))))))) (by kernel_rfl) (by kernel_rfl) (by kernel_rfl) (fun _ _ _ h => h) (Or.inl ⟨by rfl, ?_⟩) hHeld ?_; rotate_left; (focus (intro w hSw; clear hSw; go_simp; try (first | (with_reducible rfl) | (rw [if_neg (by (try simp only [ByteArray.size_append]); omega)])))); try simp only [Act.put, List.setIfInBounds_toArray, List.set_cons_zero, List.set_cons_succ, hK0]); (refine wpAnyH_take (i := 12) (v := _) (arr_get (g_s (g_s (g_s (g_s (g_s (g_s (g_s (g_s (g_s (g_s (g_s (g_s g_z))))))))))))) (by kernel_rfl) (by kernel_rfl) (by kernel_rfl) (fun _ _ _ h => h) (Or.inr ⟨by rfl, rfl⟩) hHeld ?_; try simp only [Act.put, List.setIfInBounds_toArray, List.set_cons_zero, List.set_cons_succ, hK0]); (refine wpAnyH_take (i := 13) (v := _) (arr_get (g_s (g_s (g_s (g_s (g_s (g_s (g_s (g_s (g_s (g_s (g_s (g_s (g_s g_z)))))))))))))) (by kernel_rfl) (by kernel_rfl) (by kernel_rfl) (fun _ _ _ h => h) (Or.inr ⟨by rfl, rfl⟩) hHeld ?_; try simp only [Act.put, List.setIfInBounds_toArray, List.set_cons_zero, List.set_cons_succ, hK0]); (refine wpAnyH_take (i := 14) (v := _) (arr_get (g_s (g_s (g_s (g_s (g_s (g_s (g_s (g_s (g_s (g_s (g_s (g_s (g_s (g_s g_z))))))))))))))) (by kernel_rfl) (by kernel_rfl) (by kernel_rfl) (fun _ _ _ h => h) (Or.inr ⟨by rfl, rfl⟩) hHeld ?_; try simp only [Act.put, List.setIfInBounds_toArray, List.set_cons_zero, List.set_cons_succ, hK0]); (refine wpAnyH_take (i := 15) (v := ?_) (arr_get (g_s (g_s (g_s (g_s (g_s (g_s (g_s (g_s (g_s (g_s (g_s (g_s (g_s (g_s (g_s g_z)))))))))))))))) (by kernel_rfl) (by kernel_rfl) (by kernel_rfl) (fun _ _ _ h => h) (Or.inl ⟨by rfl, ?_⟩) hHeld ?_; rotate_left; (focus (intro w hSw; clear hSw; go_simp; try (first | (with_reducible rfl) | (rw [if_neg (by (try simp only [ByteArray.size_append]); omega)])))); try simp only [Act.put, List.setIfInBounds_toArray, List.set_cons_zero, List.set_cons_succ, hK0]); (refine wpAnyH_take (i := 16) (v := ?_) (arr_get (g_s (g_s (g_s (g_s (g_s (g_s (g_s (g_s (g_s (g_s (g_s (g_s (g_s (g_s (g_s (g_s g_z))))))))))))))))) (by kernel_rfl) (by kernel_rfl) (by kernel_rfl) (fun _ _ _ h => h) (Or.inl ⟨by rfl, ?_⟩) hHeld ?_; rotate_left; (focus (intro w hSw; clear hSw; go_simp; try (first | (with_reducible rfl) | (rw [if_neg (by (try simp only [ByteArray.size_append]); omega)])))); try simp only [Act.put, List.setIfInBounds_toArray, List.set_cons_zero, List.set_cons_succ, hK0]); (refine wpAnyH_take (i := 17) (v := _) (arr_get (g_s (g_s (g_s (g_s (g_s (g_s (g_s (g_s (g_s (g_s (g_s (g_s (g_s (g_s (g_s (g_s (g_s g_z)))))))))))))))))) (by kernel_rfl) (by kernel_rfl) (by kernel_rfl) (fun _ _ _ h => h) (Or.inr ⟨by rfl, rfl⟩) hHeld ?_; try simp only [Act.put, List.setIfInBounds_toArray, List.set_cons_zero, List.set_cons_succ, hK0]); (refine wpAnyH_take (i := 18) (v := _) (arr_get (g_s (g_s (g_s (g_s (g_s (g_s (g_s (g_s (g_s (g_s (g_s (g_s (g_s (g_s (g_s (g_s (g_s (g_s g_z))))))))))))))))))) (by kernel_rfl) (by kernel_rfl) (by kernel_rfl) (fun _ _ _ h => h) (Or.inr ⟨by rfl, rfl⟩) hHeld ?_; try simp only [Act.put, List.setIfInBounds_toArray, List.set_cons_zero, List.set_cons_succ, hK0]); (refine wpAnyH_take (i := 19) (v := _) (arr_get (g_s (g_s (g_s (g_s (g_s (g_s (g_s (g_s (g_s (g_s (g_s (g_s (g_s (g_s (g_s (g_s (g_s (g_s (g_s g_z)))))))))))))))))))) (by kernel_rfl) (by kernel_rfl) (by kernel_rfl) (fun _ _ _ h => h) (Or.inr ⟨by rfl, rfl⟩) hHeld ?_; try simp only [Act.put, List.setIfInBounds_toArray, List.set_cons_zero, List.set_cons_succ, hK0]); (refine wpAnyH_take (i := 20) (v := ?_) (arr_get (g_s (g_s (g_s (g_s (g_s (g_s (g_s (g_s (g_s (g_s (g_s (g_s (g_s (g_s (g_s (g_s (g_s (g_s (g_s (g_s g_z))))))))))))))))))))) (by kernel_rfl) (by kernel_rfl) (by kernel_rfl) (fun _ _ _ h => h) (Or.inl ⟨by rfl, ?_⟩) hHeld ?_; rotate_left; (focus (intro w hSw; clear hSw; go_simp; try (first | (with_reducible rfl) | (rw [if_neg (by (try simp only [ByteArray.size_append]); omega)])))); try simp only [Act.put, List.setIfInBounds_toArray, List.set_cons_zero, List.set_cons_succ, hK0]); (refine wpAnyH_take (i := 21) (v := ?_) (arr_get (g_s (g_s (g_s (g_s (g_s (g_s (g_s (g_s (g_s (g_s (g_s (g_s (g_s (g_s (g_s (g_s (g_s (g_s (g_s (g_s (g_s g_z)))))))))))))))))))))) (by kernel_rfl) (by kernel_rfl) (by kernel_rfl) (fun _ _ _ h => h) (Or.inl ⟨by rfl, ?_⟩) hHeld ?_; rotate_left; (focus (intro w hSw; clear hSw; go_simp; try (first | (with_reducible rfl) | (rw [if_neg (by (try simp only [ByteArray.size_append]); omega)])))); try simp only [Act.put, List.setIfInBounds_toArray, List.set_cons_zero, List.set_cons_succ, hK0]); (refine wpAnyH_take (i := 22) (v := _) (arr_get (g_s (g_s (g_s (g_s (g_s (g_s (g_s (g_s (g_s (g_s (g_s (g_s (g_s (g_s (g_s (g_s (g_s (g_s (g_s (g_s (g_s (g_s g_z))))))))))))))))))))))) (by kernel_rfl) (by kernel_rfl) (by kernel_rfl) (fun _ _ _ h => h) (Or.inr ⟨by rfl, rfl⟩) hHeld ?_; try simp only [Act.put, List.setIfInBounds_toArray, List.set_cons_zero, List.set_cons_succ, hK0]); (refine wpAnyH_take (i := 23) (v := _) (arr_get (g_s (g_s (g_s (g_s (g_s (g_s (g_s (g_s (g_s (g_s (g_s (g_s (g_s (g_s (g_s (g_s (g_s (g_s (g_s (g_s (g_s (g_s (g_s g_z)))))))))))))))))))))))) (by kernel_rfl) (by kernel_rfl) (by kernel_rfl) (fun _ _ _ h => h) (Or.inr ⟨by rfl, rfl⟩) hHeld ?_; try simp only [Act.put, List.setIfInBounds_toArray, List.set_cons_zero, List.set_cons_succ, hK0]); (refine wpAnyH_take (i := 24) (v := _) (arr_get (g_s (g_s (g_s (g_s (g_s (g_s (g_s (g_s (g_s (g_s (g_s (g_s (g_s (g_s (g_s (g_s (g_s (g_s (g_s (g_s (g_s (g_s (g_s (g_s g_z))))))))))))))))))))))))) (by kernel_rfl) (by kernel_rfl) (by kernel_rfl) (fun _ _ _ h => h) (Or.inr ⟨by rfl, rfl⟩) hHeld ?_; try simp only [Act.put, List.setIfInBounds_toArray, List.set_cons_zero, List.set_cons_succ, hK0]); (refine wpAnyH_take (i := 25) (v := _) (arr_get (g_s (g_s (g_s (g_s (g_s (g_s (g_s (g_s (g_s (g_s (g_s (g_s (g_s (g_s (g_s (g_s (g_s (g_s (g_s (g_s (g_s (g_s (g_s (g_s (g_s g_z)))))))))))))))))))))))))) (by kernel_rfl) (by kernel_rfl) (by kernel_rfl) (fun _ _ _ h => h) (Or.inr ⟨by rfl, rfl⟩) hHeld ?_; try simp only [Act.put, List.setIfInBounds_toArray, List.set_cons_zero, List.set_cons_succ, hK0]); (refine wpAnyH_take (i := 26) (v := _) (arr_get (g_s (g_s (g_s (g_s (g_s (g_s (g_s (g_s (g_s (g_s (g_s (g_s (g_s (g_s (g_s (g_s (g_s (g_s (g_s (g_s (g_s (g_s (g_s (g_s (g_s (g_s g_z))))))))))))))))))))))))))) (by kernel_rfl) (by kernel_rfl) (by kernel_rfl) (fun _ _ _ h => h) (Or.inr ⟨by rfl, rfl⟩) hHeld ?_; try simp only [Act.put, List.setIfInBounds_toArray, List.set_cons_zero, List.set_cons_succ, hK0]); (refine wpAnyH_take (i := 27) (v := _) (arr_get (g_s (g_s (g_s (g_s (g_s (g_s (g_s (g_s (g_s (g_s (g_s (g_s (g_s (g_s (g_s (g_s (g_s (g_s (g_s (g_s (g_s (g_s (g_s (g_s (g_s (g_s (g_s g_z)))))))))))))))))))))))))))) (by kernel_rfl) (by kernel_rfl) (by kernel_rfl) (fun _ _ _ h => h) (Or.inr ⟨by rfl, rfl⟩) hHeld ?_; try simp only [Act.put, List.setIfInBounds_toArray, List.set_cons_zero, List.set_cons_succ, hK0]); (refine wpAnyH_take (i := 28) (v := _) (arr_get (g_s (g_s (g_s (g_s (g_s (g_s (g_s (g_s (g_s (g_s (g_s (g_s (g_s (g_s (g_s (g_s (g_s (g_s (g_s (g_s (g_s (g_s (g_s (g_s (g_s (g_s (g_s (g_s g_z))))))))))))))))))))))))))))) (by kernel_rfl) (by kernel_rfl) (by kernel_rfl) (fun _ _ _ h => h) (Or.inr ⟨by rfl, rfl⟩) hHeld ?_; try simp only [Act.put, List.setIfInBounds_toArray, List.set_cons_zero, List.set_cons_succ, hK0]); (refine wpAnyH_take (i := 29) (v := _) (arr_get (g_s (g_s (g_s (g_s (g_s (g_s (g_s (g_s (g_s (g_s (g_s (g_s (g_s (g_s (g_s (g_s (g_s (g_s (g_s (g_s (g_s (g_s (g_s (g_s (g_s (g_s (g_s (g_s (g_s g_z)))))))))))))))))))))))))))))) (by kernel_rfl) (by kernel_rfl) (by kernel_rfl) (fun _ _ _ h => h) (Or.inr ⟨by rfl, rfl⟩) hHeld ?_; try simp only [Act.put, List.setIfInBounds_toArray, List.set_cons_zero, List.set_cons_succ, hK0]); (refine wpAnyH_take (i := 30) (v := _) (arr_get (g_s (g_s (g_s (g_s (g_s (g_s (g_s (g_s (g_s (g_s (g_s (g_s (g_s (g_s (g_s (g_s (g_s (g_s (g_s (g_s (g_s (g_s (g_s (g_s (g_s (g_s (g_s (g_s (g_s (g_s g_z))))))))))))))))))))))))))))))) (by kernel_rfl) (by kernel_rfl) (by kernel_rfl) (fun _ _ _ h => h) (Or.inr ⟨by rfl, rfl⟩) hHeld ?_; try simp only [Act.put, List.setIfInBounds_toArray, List.set_cons_zero, List.set_cons_succ, hK0]); (refine wpAnyH_take (i := 31) (v := _) (arr_get (g_s (g_s (g_s (g_s (g_s (g_s (g_s (g_s (g_s (g_s (g_s (g_s (g_s (g_s (g_s (g_s (g_s (g_s (g_s (g_s (g_s (g_s (g_s (g_s (g_s (g_s (g_s (g_s (g_s (g_s (g_s g_z)))))))))))))))))))))))))))))))) (by kernel_rfl) (by kernel_rfl) (by kernel_rfl) (fun _ _ _ h => h) (Or.inr ⟨by rfl, rfl⟩) hHeld ?_; try simp only [Act.put, List.setIfInBounds_toArray, List.set_cons_zero, List.set_cons_succ, hK0]); (refine wpAnyH_take (i := 32) (v := _) (arr_get (g_s (g_s (g_s (g_s (g_s (g_s (g_s (g_s (g_s (g_s (g_s (g_s (g_s (g_s (g_s (g_s (g_s (g_s (g_s (g_s (g_s (g_s (g_s (g_s (g_s (g_s (g_s (g_s (g_s (g_s (g_s (g_s g_z))))))))))))))))))))))))))))))))) (by kernel_rfl) (by kernel_rfl) (by kernel_rfl) (fun _ _ _ h => h) (Or.inr ⟨by rfl, rfl⟩) hHeld ?_; try simp only [Act.put, List.setIfInBounds_toArray, List.set_cons_zero, List.set_cons_succ, hK0]); (refine wpAnyH_take (i := 33) (v := ?_) (arr_get (g_s (g_s (g_s (g_s (g_s (g_s (g_s (g_s (g_s (g_s (g_s (g_s (g_s (g_s (g_s (g_s (g_s (g_s (g_s (g_s (g_s (g_s (g_s (g_s (g_s (g_s (g_s (g_s (g_s (g_s (g_s (g_s (g_s g_z)))))))))))))))))))))))))))))))))) (by kernel_rfl) (by kernel_rfl) (by kernel_rfl) (fun _ _ _ h => h) (Or.inl ⟨by rfl, ?_⟩) hHeld ?_; rotate_left; (focus (intro w hSw; clear hSw; go_simp; try (first | (with_reducible rfl) | (rw [if_neg (by (try simp only [ByteArray.size_append]); omega)])))); try simp only [Act.put, List.setIfInBounds_toArray, List.set_cons_zero, List.set_cons_succ, hK0]); (refine wpAnyH_done (by kernel_rfl) ?_ _))
      have HB2 := Lib.hid (bel_then (bel_dr HB1.out) hb1)
      clear hb1 hg
      go_wp2
      go_ret2
      exact flR_no (shV_no2 (by rw [HK.out]; exact hk)) HB2.out
    · have hk0 : 0 ≤ K := by omega
      have hK0 : decide (K < 0) = false := decide_eq_false hk
      clear hk
      by_cases hm : M < 0
      · have hM0 : decide (M < 0) = true := decide_eq_true hm
        ((refine wp_region_held_drew (S := fun w' => Hid (Below w.heap.size w w')) (by kernel_rfl) (by (try dsimp only); exact Lib.hid (bel_dr HB1.out)) (fun hHeld => ?_)); (refine wpAnyH_take (i := 0) (v := ?_) (arr_get g_z) (by kernel_rfl) (by kernel_rfl) (by kernel_rfl) (fun _ _ _ h => h) (Or.inl ⟨by rfl, ?_⟩) hHeld ?_; rotate_left; (focus (intro w hSw; clear hSw; go_simp; try (first | (with_reducible rfl) | (rw [if_neg (by (try simp only [ByteArray.size_append]); omega)])))); try simp only [Act.put, List.setIfInBounds_toArray, List.set_cons_zero, List.set_cons_succ, hK0, hM0]); (refine wpAnyH_ready (rs := [1]) (by kernel_rfl) (by simp) ?_); (refine AllReadyH.cons (i := 1) (arr_get (g_s g_z)) (fun K hK => ?_) AllReadyH.nil); (go_simp); ((go_at_call 29; refine (isFleet_c _ f _ HZ.out (rd_below HR.out (bel_dr HB1.out))).mono ?_; rw [hg]; rintro e w2 ⟨rfl, hb1⟩; have hb0 := hb1; have hs2 : w1.heap.size ≤ w2.heap.size := hb1.size)); (try (go_wp2_with fail)); (refine hK.out _ _ (by (try dsimp only); exact Lib.hid (bel_then hHeld.out hb1)) (fun hHeld2 => ?_)); (clear hHeld hK); (clear K); (have hHeld := hHeld2); (clear hHeld2); (try simp only [Act.put, List.setIfInBounds_toArray, List.set_cons_zero, List.set_cons_succ, hK0, hM0]); (refine wpAnyH_take (i := 2) (v := ?_) (arr_get (g_s (g_s g_z))) (by kernel_rfl) (by kernel_rfl) (by kernel_rfl) (fun _ _ _ h => h) (Or.inl ⟨by rfl, ?_⟩) hHeld ?_; rotate_left; (focus (intro w hSw; clear hSw; go_simp; try (first | (with_reducible rfl) | (rw [if_neg (by (try simp only [ByteArray.size_append]); omega)])))); try simp only [Act.put, List.setIfInBounds_toArray, List.set_cons_zero, List.set_cons_succ, hK0, hM0]); (refine wpAnyH_take (i := 3) (v := ?_) (arr_get (g_s (g_s (g_s g_z)))) (by kernel_rfl) (by kernel_rfl) (by kernel_rfl) (fun _ _ _ h => h) (Or.inl ⟨by rfl, ?_⟩) hHeld ?_; rotate_left; (focus (intro w hSw; clear hSw; go_simp; try (first | (with_reducible rfl) | (rw [if_neg (by (try simp only [ByteArray.size_append]); omega)])))); try simp only [Act.put, List.setIfInBounds_toArray, List.set_cons_zero, List.set_cons_succ, hK0, hM0]); (refine wpAnyH_take (i := 4) (v := ?_) (arr_get (g_s (g_s (g_s (g_s g_z))))) (by kernel_rfl) (by kernel_rfl) (by kernel_rfl) (fun _ _ _ h => h) (Or.inl ⟨by rfl, ?_⟩) hHeld ?_; rotate_left; (focus (intro w hSw; clear hSw; go_simp; try (first | (with_reducible rfl) | (rw [if_neg (by (try simp only [ByteArray.size_append]); omega)])))); try simp only [Act.put, List.setIfInBounds_toArray, List.set_cons_zero, List.set_cons_succ, hK0, hM0]); (refine wpAnyH_take (i := 5) (v := ?_) (arr_get (g_s (g_s (g_s (g_s (g_s g_z)))))) (by kernel_rfl) (by kernel_rfl) (by kernel_rfl) (fun _ _ _ h => h) (Or.inl ⟨by rfl, ?_⟩) hHeld ?_; rotate_left; (focus (intro w hSw; clear hSw; go_simp; try (first | (with_reducible rfl) | (rw [if_neg (by (try simp only [ByteArray.size_append]); omega)])))); try simp only [Act.put, List.setIfInBounds_toArray, List.set_cons_zero, List.set_cons_succ, hK0, hM0]); (refine wpAnyH_take (i := 6) (v := ?_) (arr_get (g_s (g_s (g_s (g_s (g_s (g_s g_z))))))) (by kernel_rfl) (by kernel_rfl) (by kernel_rfl) (fun _ _ _ h => h) (Or.inl ⟨by rfl, ?_⟩) hHeld ?_; rotate_left; (focus (intro w hSw; clear hSw; go_simp; try (first | (with_reducible rfl) | (rw [if_neg (by (try simp only [ByteArray.size_append]); omega)])))); try simp only [Act.put, List.setIfInBounds_toArray, List.set_cons_zero, List.set_cons_succ, hK0, hM0]); (refine wpAnyH_take (i := 7) (v := ?_) (arr_get (g_s (g_s (g_s (g_s (g_s (g_s (g_s g_z)))))))) (by kernel_rfl) (by kernel_rfl) (by kernel_rfl) (fun _ _ _ h => h) (Or.inl ⟨by rfl, ?_⟩) hHeld ?_; rotate_left; (focus (intro w hSw; clear hSw; go_simp; try (first | (with_reducible rfl) | (rw [if_neg (by (try simp only [ByteArray.size_append]); omega)])))); try simp only [Act.put, List.setIfInBounds_toArray, List.set_cons_zero, List.set_cons_succ, hK0, hM0]); (refine wpAnyH_take (i := 8) (v := ?_) (arr_get (g_s (g_s (g_s (g_s (g_s (g_s (g_s (g_s g_z))))))))) (by kernel_rfl) (by kernel_rfl) (by kernel_rfl) (fun _ _ _ h => h) (Or.inl ⟨by rfl, ?_⟩) hHeld ?_; rotate_left; (focus (intro w hSw; clear hSw; go_simp; try (first | (with_reducible rfl) | (rw [if_neg (by (try simp only [ByteArray.size_append]); omega)])))); try simp only [Act.put, List.setIfInBounds_toArray, List.set_cons_zero, List.set_cons_succ, hK0, hM0]); (refine wpAnyH_take (i := 9) (v := ?_) (arr_get (g_s (g_s (g_s (g_s (g_s (g_s (g_s (g_s (g_s g_z)))))))))) (by kernel_rfl) (by kernel_rfl) (by kernel_rfl) (fun _ _ _ h => h) (Or.inl ⟨by rfl, ?_⟩) hHeld ?_; rotate_left; (focus (intro w hSw; clear hSw; go_simp; try (first | (with_reducible rfl) | (rw [if_neg (by (try simp only [ByteArray.size_append]); omega)])))); try simp only [Act.put, List.setIfInBounds_toArray, List.set_cons_zero, List.set_cons_succ, hK0, hM0]); (refine wpAnyH_take (i := 10) (v := ?_) (arr_get (g_s (g_s (g_s (g_s (g_s (g_s (g_s (g_s (g_s (g_s g_z))))))))))) (by kernel_rfl) (by kernel_rfl) (by kernel_rfl) (fun _ _ _ h => h) (Or.inl ⟨by rfl, ?_⟩) hHeld ?_; rotate_left; (focus (intro w hSw; clear hSw; go_simp; try (first | (with_reducible rfl) | (rw [if_neg (by (try simp only [ByteArray.size_append]); omega)])))); try simp only [Act.put, List.setIfInBounds_toArray, List.set_cons_zero, List.set_cons_succ, hK0, hM0]); (refine wpAnyH_take (i := 11) (v := ?_) (arr_get (g_s (g_s (g_s (g_s (g_s (g_s (g_s (g_s (g_s (g_s (g_s g_z)))))))))))) (by kernel_rfl) (by kernel_rfl) (by kernel_rfl) (fun _ _ _ h => h) (Or.inl ⟨by rfl, ?_⟩) hHeld ?_; rotate_left; (focus (intro w hSw; clear hSw; go_simp; try (first | (with_reducible rfl) | (rw [if_neg (by (try simp only [ByteArray.size_append]); omega)])))); try simp only [Act.put, List.setIfInBounds_toArray, List.set_cons_zero, List.set_cons_succ, hK0, hM0]); (refine wpAnyH_take (i := 12) (v := _) (arr_get (g_s (g_s (g_s (g_s (g_s (g_s (g_s (g_s (g_s (g_s (g_s (g_s g_z))))))))))))) (by kernel_rfl) (by kernel_rfl) (by kernel_rfl) (fun _ _ _ h => h) (Or.inr ⟨by rfl, rfl⟩) hHeld ?_; try simp only [Act.put, List.setIfInBounds_toArray, List.set_cons_zero, List.set_cons_succ, hK0, hM0]); (refine wpAnyH_take (i := 13) (v := _) (arr_get (g_s (g_s (g_s (g_s (g_s (g_s (g_s (g_s (g_s (g_s (g_s (g_s (g_s g_z)))))))))))))) (by kernel_rfl) (by kernel_rfl) (by kernel_rfl) (fun _ _ _ h => h) (Or.inr ⟨by rfl, rfl⟩) hHeld ?_; try simp only [Act.put, List.setIfInBounds_toArray, List.set_cons_zero, List.set_cons_succ, hK0, hM0]); (refine wpAnyH_take (i := 14) (v := _) (arr_get (g_s (g_s (g_s (g_s (g_s (g_s (g_s (g_s (g_s (g_s (g_s (g_s (g_s (g_s g_z))))))))))))))) (by kernel_rfl) (by kernel_rfl) (by kernel_rfl) (fun _ _ _ h => h) (Or.inr ⟨by rfl, rfl⟩) hHeld ?_; try simp only [Act.put, List.setIfInBounds_toArray, List.set_cons_zero, List.set_cons_succ, hK0, hM0]); (refine wpAnyH_take (i := 15) (v := ?_) (arr_get (g_s (g_s (g_s (g_s (g_s (g_s (g_s (g_s (g_s (g_s (g_s (g_s (g_s (g_s (g_s g_z)))))))))))))))) (by kernel_rfl) (by kernel_rfl) (by kernel_rfl) (fun _ _ _ h => h) (Or.inl ⟨by rfl, ?_⟩) hHeld ?_; rotate_left; (focus (intro w hSw; clear hSw; go_simp; try (first | (with_reducible rfl) | (rw [if_neg (by (try simp only [ByteArray.size_append]); omega)])))); try simp only [Act.put, List.setIfInBounds_toArray, List.set_cons_zero, List.set_cons_succ, hK0, hM0]); (refine wpAnyH_take (i := 16) (v := ?_) (arr_get (g_s (g_s (g_s (g_s (g_s (g_s (g_s (g_s (g_s (g_s (g_s (g_s (g_s (g_s (g_s (g_s g_z))))))))))))))))) (by kernel_rfl) (by kernel_rfl) (by kernel_rfl) (fun _ _ _ h => h) (Or.inl ⟨by rfl, ?_⟩) hHeld ?_; rotate_left; (focus (intro w hSw; clear hSw; go_simp; try (first | (with_reducible rfl) | (rw [if_neg (by (try simp only [ByteArray.size_append]); omega)])))); try simp only [Act.put, List.setIfInBounds_toArray, List.set_cons_zero, List.set_cons_succ, hK0, hM0]); (refine wpAnyH_take (i := 17) (v := _) (arr_get (g_s (g_s (g_s (g_s (g_s (g_s (g_s (g_s (g_s (g_s (g_s (g_s (g_s (g_s (g_s (g_s (g_s g_z)))))))))))))))))) (by kernel_rfl) (by kernel_rfl) (by kernel_rfl) (fun _ _ _ h => h) (Or.inr ⟨by rfl, rfl⟩) hHeld ?_; try simp only [Act.put, List.setIfInBounds_toArray, List.set_cons_zero, List.set_cons_succ, hK0, hM0]); (refine wpAnyH_take (i := 18) (v := _) (arr_get (g_s (g_s (g_s (g_s (g_s (g_s (g_s (g_s (g_s (g_s (g_s (g_s (g_s (g_s (g_s (g_s (g_s (g_s g_z))))))))))))))))))) (by kernel_rfl) (by kernel_rfl) (by kernel_rfl) (fun _ _ _ h => h) (Or.inr ⟨by rfl, rfl⟩) hHeld ?_; try simp only [Act.put, List.setIfInBounds_toArray, List.set_cons_zero, List.set_cons_succ, hK0, hM0]); (refine wpAnyH_take (i := 19) (v := _) (arr_get (g_s (g_s (g_s (g_s (g_s (g_s (g_s (g_s (g_s (g_s (g_s (g_s (g_s (g_s (g_s (g_s (g_s (g_s (g_s g_z)))))))))))))))))))) (by kernel_rfl) (by kernel_rfl) (by kernel_rfl) (fun _ _ _ h => h) (Or.inr ⟨by rfl, rfl⟩) hHeld ?_; try simp only [Act.put, List.setIfInBounds_toArray, List.set_cons_zero, List.set_cons_succ, hK0, hM0]); (refine wpAnyH_take (i := 20) (v := ?_) (arr_get (g_s (g_s (g_s (g_s (g_s (g_s (g_s (g_s (g_s (g_s (g_s (g_s (g_s (g_s (g_s (g_s (g_s (g_s (g_s (g_s g_z))))))))))))))))))))) (by kernel_rfl) (by kernel_rfl) (by kernel_rfl) (fun _ _ _ h => h) (Or.inl ⟨by rfl, ?_⟩) hHeld ?_; rotate_left; (focus (intro w hSw; clear hSw; go_simp; try (first | (with_reducible rfl) | (rw [if_neg (by (try simp only [ByteArray.size_append]); omega)])))); try simp only [Act.put, List.setIfInBounds_toArray, List.set_cons_zero, List.set_cons_succ, hK0, hM0]); (refine wpAnyH_take (i := 21) (v := ?_) (arr_get (g_s (g_s (g_s (g_s (g_s (g_s (g_s (g_s (g_s (g_s (g_s (g_s (g_s (g_s (g_s (g_s (g_s (g_s (g_s (g_s (g_s g_z)))))))))))))))))))))) (by kernel_rfl) (by kernel_rfl) (by kernel_rfl) (fun _ _ _ h => h) (Or.inl ⟨by rfl, ?_⟩) hHeld ?_; rotate_left; (focus (intro w hSw; clear hSw; go_simp; try (first | (with_reducible rfl) | (rw [if_neg (by (try simp only [ByteArray.size_append]); omega)])))); try simp only [Act.put, List.setIfInBounds_toArray, List.set_cons_zero, List.set_cons_succ, hK0, hM0]); (refine wpAnyH_take (i := 22) (v := _) (arr_get (g_s (g_s (g_s (g_s (g_s (g_s (g_s (g_s (g_s (g_s (g_s (g_s (g_s (g_s (g_s (g_s (g_s (g_s (g_s (g_s (g_s (g_s g_z))))))))))))))))))))))) (by kernel_rfl) (by kernel_rfl) (by kernel_rfl) (fun _ _ _ h => h) (Or.inr ⟨by rfl, rfl⟩) hHeld ?_; try simp only [Act.put, List.setIfInBounds_toArray, List.set_cons_zero, List.set_cons_succ, hK0, hM0]); (refine wpAnyH_take (i := 23) (v := _) (arr_get (g_s (g_s (g_s (g_s (g_s (g_s (g_s (g_s (g_s (g_s (g_s (g_s (g_s (g_s (g_s (g_s (g_s (g_s (g_s (g_s (g_s (g_s (g_s g_z)))))))))))))))))))))))) (by kernel_rfl) (by kernel_rfl) (by kernel_rfl) (fun _ _ _ h => h) (Or.inr ⟨by rfl, rfl⟩) hHeld ?_; try simp only [Act.put, List.setIfInBounds_toArray, List.set_cons_zero, List.set_cons_succ, hK0, hM0]); (refine wpAnyH_take (i := 24) (v := _) (arr_get (g_s (g_s (g_s (g_s (g_s (g_s (g_s (g_s (g_s (g_s (g_s (g_s (g_s (g_s (g_s (g_s (g_s (g_s (g_s (g_s (g_s (g_s (g_s (g_s g_z))))))))))))))))))))))))) (by kernel_rfl) (by kernel_rfl) (by kernel_rfl) (fun _ _ _ h => h) (Or.inr ⟨by rfl, rfl⟩) hHeld ?_; try simp only [Act.put, List.setIfInBounds_toArray, List.set_cons_zero, List.set_cons_succ, hK0, hM0]); (refine wpAnyH_take (i := 25) (v := _) (arr_get (g_s (g_s (g_s (g_s (g_s (g_s (g_s (g_s (g_s (g_s (g_s (g_s (g_s (g_s (g_s (g_s (g_s (g_s (g_s (g_s (g_s (g_s (g_s (g_s (g_s g_z)))))))))))))))))))))))))) (by kernel_rfl) (by kernel_rfl) (by kernel_rfl) (fun _ _ _ h => h) (Or.inr ⟨by rfl, rfl⟩) hHeld ?_; try simp only [Act.put, List.setIfInBounds_toArray, List.set_cons_zero, List.set_cons_succ, hK0, hM0]); (refine wpAnyH_take (i := 26) (v := _) (arr_get (g_s (g_s (g_s (g_s (g_s (g_s (g_s (g_s (g_s (g_s (g_s (g_s (g_s (g_s (g_s (g_s (g_s (g_s (g_s (g_s (g_s (g_s (g_s (g_s (g_s (g_s g_z))))))))))))))))))))))))))) (by kernel_rfl) (by kernel_rfl) (by kernel_rfl) (fun _ _ _ h => h) (Or.inr ⟨by rfl, rfl⟩) hHeld ?_; try simp only [Act.put, List.setIfInBounds_toArray, List.set_cons_zero, List.set_cons_succ, hK0, hM0]); (refine wpAnyH_take (i := 27) (v := _) (arr_get (g_s (g_s (g_s (g_s (g_s (g_s (g_s (g_s (g_s (g_s (g_s (g_s (g_s (g_s (g_s (g_s (g_s (g_s (g_s (g_s (g_s (g_s (g_s (g_s (g_s (g_s (g_s g_z)))))))))))))))))))))))))))) (by kernel_rfl) (by kernel_rfl) (by kernel_rfl) (fun _ _ _ h => h) (Or.inr ⟨by rfl, rfl⟩) hHeld ?_; try simp only [Act.put, List.setIfInBounds_toArray, List.set_cons_zero, List.set_cons_succ, hK0, hM0]); (refine wpAnyH_take (i := 28) (v := _) (arr_get (g_s (g_s (g_s (g_s (g_s (g_s (g_s (g_s (g_s (g_s (g_s (g_s (g_s (g_s (g_s (g_s (g_s (g_s (g_s (g_s (g_s (g_s (g_s (g_s (g_s (g_s (g_s (g_s g_z))))))))))))))))))))))))))))) (by kernel_rfl) (by kernel_rfl) (by kernel_rfl) (fun _ _ _ h => h) (Or.inr ⟨by rfl, rfl⟩) hHeld ?_; try simp only [Act.put, List.setIfInBounds_toArray, List.set_cons_zero, List.set_cons_succ, hK0, hM0]); (refine wpAnyH_take (i := 29) (v := _) (arr_get (g_s (g_s (g_s (g_s (g_s (g_s (g_s (g_s (g_s (g_s (g_s (g_s (g_s (g_s (g_s (g_s (g_s (g_s (g_s (g_s (g_s (g_s (g_s (g_s (g_s (g_s (g_s (g_s (g_s g_z)))))))))))))))))))))))))))))) (by kernel_rfl) (by kernel_rfl) (by kernel_rfl) (fun _ _ _ h => h) (Or.inr ⟨by rfl, rfl⟩) hHeld ?_; try simp only [Act.put, List.setIfInBounds_toArray, List.set_cons_zero, List.set_cons_succ, hK0, hM0]); (refine wpAnyH_take (i := 30) (v := _) (arr_get (g_s (g_s (g_s (g_s (g_s (g_s (g_s (g_s (g_s (g_s (g_s (g_s (g_s (g_s (g_s (g_s (g_s (g_s (g_s (g_s (g_s (g_s (g_s (g_s (g_s (g_s (g_s (g_s (g_s (g_s g_z))))))))))))))))))))))))))))))) (by kernel_rfl) (by kernel_rfl) (by kernel_rfl) (fun _ _ _ h => h) (Or.inr ⟨by rfl, rfl⟩) hHeld ?_; try simp only [Act.put, List.setIfInBounds_toArray, List.set_cons_zero, List.set_cons_succ, hK0, hM0]); (refine wpAnyH_take (i := 31) (v := _) (arr_get (g_s (g_s (g_s (g_s (g_s (g_s (g_s (g_s (g_s (g_s (g_s (g_s (g_s (g_s (g_s (g_s (g_s (g_s (g_s (g_s (g_s (g_s (g_s (g_s (g_s (g_s (g_s (g_s (g_s (g_s (g_s g_z)))))))))))))))))))))))))))))))) (by kernel_rfl) (by kernel_rfl) (by kernel_rfl) (fun _ _ _ h => h) (Or.inr ⟨by rfl, rfl⟩) hHeld ?_; try simp only [Act.put, List.setIfInBounds_toArray, List.set_cons_zero, List.set_cons_succ, hK0, hM0]); (refine wpAnyH_take (i := 32) (v := _) (arr_get (g_s (g_s (g_s (g_s (g_s (g_s (g_s (g_s (g_s (g_s (g_s (g_s (g_s (g_s (g_s (g_s (g_s (g_s (g_s (g_s (g_s (g_s (g_s (g_s (g_s (g_s (g_s (g_s (g_s (g_s (g_s (g_s g_z))))))))))))))))))))))))))))))))) (by kernel_rfl) (by kernel_rfl) (by kernel_rfl) (fun _ _ _ h => h) (Or.inr ⟨by rfl, rfl⟩) hHeld ?_; try simp only [Act.put, List.setIfInBounds_toArray, List.set_cons_zero, List.set_cons_succ, hK0, hM0]); (refine wpAnyH_take (i := 33) (v := ?_) (arr_get (g_s (g_s (g_s (g_s (g_s (g_s (g_s (g_s (g_s (g_s (g_s (g_s (g_s (g_s (g_s (g_s (g_s (g_s (g_s (g_s (g_s (g_s (g_s (g_s (g_s (g_s (g_s (g_s (g_s (g_s (g_s (g_s (g_s g_z)))))))))))))))))))))))))))))))))) (by kernel_rfl) (by kernel_rfl) (by kernel_rfl) (fun _ _ _ h => h) (Or.inl ⟨by rfl, ?_⟩) hHeld ?_; rotate_left; (focus (intro w hSw; clear hSw; go_simp; try (first | (with_reducible rfl) | (rw [if_neg (by (try simp only [ByteArray.size_append]); omega)])))); try simp only [Act.put, List.setIfInBounds_toArray, List.set_cons_zero, List.set_cons_succ, hK0, hM0]); (refine wpAnyH_done (by kernel_rfl) ?_ _))
        have HB2 := Lib.hid (bel_then (bel_dr HB1.out) hb1)
        clear hb1 hg
        go_wp2
        go_ret2
        exact flR_no (shV_no3 (by rw [HM.out]; exact hm)) HB2.out
      · have hm0 : 0 ≤ M := by omega
        have hM0 : decide (M < 0) = false := decide_eq_false hm
        clear hm
        by_cases hkm : K = M
        · subst hkm
          have hE : (K == K) = true := beq_self_eq_true K
          ((refine wp_region_held_drew (S := fun w' => Hid (Below w.heap.size w w')) (by kernel_rfl) (by (try dsimp only); exact Lib.hid (bel_dr HB1.out)) (fun hHeld => ?_)); (refine wpAnyH_take (i := 0) (v := ?_) (arr_get g_z) (by kernel_rfl) (by kernel_rfl) (by kernel_rfl) (fun _ _ _ h => h) (Or.inl ⟨by rfl, ?_⟩) hHeld ?_; rotate_left; (focus (intro w hSw; clear hSw; go_simp; try (first | (with_reducible rfl) | (rw [if_neg (by (try simp only [ByteArray.size_append]); omega)])))); try simp only [Act.put, List.setIfInBounds_toArray, List.set_cons_zero, List.set_cons_succ, hK0, hE]); (refine wpAnyH_ready (rs := [1]) (by kernel_rfl) (by simp) ?_); (refine AllReadyH.cons (i := 1) (arr_get (g_s g_z)) (fun K hK => ?_) AllReadyH.nil); (go_simp); ((go_at_call 29; refine (isFleet_c _ f _ HZ.out (rd_below HR.out (bel_dr HB1.out))).mono ?_; rw [hg]; rintro e w2 ⟨rfl, hb1⟩; have hb0 := hb1; have hs2 : w1.heap.size ≤ w2.heap.size := hb1.size)); (try (go_wp2_with fail)); (refine hK.out _ _ (by (try dsimp only); exact Lib.hid (bel_then hHeld.out hb1)) (fun hHeld2 => ?_)); (clear hHeld hK); (clear K); (have hHeld := hHeld2); (clear hHeld2); (try simp only [Act.put, List.setIfInBounds_toArray, List.set_cons_zero, List.set_cons_succ, hK0, hE]); (refine wpAnyH_take (i := 2) (v := ?_) (arr_get (g_s (g_s g_z))) (by kernel_rfl) (by kernel_rfl) (by kernel_rfl) (fun _ _ _ h => h) (Or.inl ⟨by rfl, ?_⟩) hHeld ?_; rotate_left; (focus (intro w hSw; clear hSw; go_simp; try (first | (with_reducible rfl) | (rw [if_neg (by (try simp only [ByteArray.size_append]); omega)])))); try simp only [Act.put, List.setIfInBounds_toArray, List.set_cons_zero, List.set_cons_succ, hK0, hE]); (refine wpAnyH_take (i := 3) (v := ?_) (arr_get (g_s (g_s (g_s g_z)))) (by kernel_rfl) (by kernel_rfl) (by kernel_rfl) (fun _ _ _ h => h) (Or.inl ⟨by rfl, ?_⟩) hHeld ?_; rotate_left; (focus (intro w hSw; clear hSw; go_simp; try (first | (with_reducible rfl) | (rw [if_neg (by (try simp only [ByteArray.size_append]); omega)])))); try simp only [Act.put, List.setIfInBounds_toArray, List.set_cons_zero, List.set_cons_succ, hK0, hE]); (refine wpAnyH_take (i := 4) (v := ?_) (arr_get (g_s (g_s (g_s (g_s g_z))))) (by kernel_rfl) (by kernel_rfl) (by kernel_rfl) (fun _ _ _ h => h) (Or.inl ⟨by rfl, ?_⟩) hHeld ?_; rotate_left; (focus (intro w hSw; clear hSw; go_simp; try (first | (with_reducible rfl) | (rw [if_neg (by (try simp only [ByteArray.size_append]); omega)])))); try simp only [Act.put, List.setIfInBounds_toArray, List.set_cons_zero, List.set_cons_succ, hK0, hE]); (refine wpAnyH_take (i := 5) (v := ?_) (arr_get (g_s (g_s (g_s (g_s (g_s g_z)))))) (by kernel_rfl) (by kernel_rfl) (by kernel_rfl) (fun _ _ _ h => h) (Or.inl ⟨by rfl, ?_⟩) hHeld ?_; rotate_left; (focus (intro w hSw; clear hSw; go_simp; try (first | (with_reducible rfl) | (rw [if_neg (by (try simp only [ByteArray.size_append]); omega)])))); try simp only [Act.put, List.setIfInBounds_toArray, List.set_cons_zero, List.set_cons_succ, hK0, hE]); (refine wpAnyH_take (i := 6) (v := ?_) (arr_get (g_s (g_s (g_s (g_s (g_s (g_s g_z))))))) (by kernel_rfl) (by kernel_rfl) (by kernel_rfl) (fun _ _ _ h => h) (Or.inl ⟨by rfl, ?_⟩) hHeld ?_; rotate_left; (focus (intro w hSw; clear hSw; go_simp; try (first | (with_reducible rfl) | (rw [if_neg (by (try simp only [ByteArray.size_append]); omega)])))); try simp only [Act.put, List.setIfInBounds_toArray, List.set_cons_zero, List.set_cons_succ, hK0, hE]); (refine wpAnyH_take (i := 7) (v := ?_) (arr_get (g_s (g_s (g_s (g_s (g_s (g_s (g_s g_z)))))))) (by kernel_rfl) (by kernel_rfl) (by kernel_rfl) (fun _ _ _ h => h) (Or.inl ⟨by rfl, ?_⟩) hHeld ?_; rotate_left; (focus (intro w hSw; clear hSw; go_simp; try (first | (with_reducible rfl) | (rw [if_neg (by (try simp only [ByteArray.size_append]); omega)])))); try simp only [Act.put, List.setIfInBounds_toArray, List.set_cons_zero, List.set_cons_succ, hK0, hE]); (refine wpAnyH_take (i := 8) (v := ?_) (arr_get (g_s (g_s (g_s (g_s (g_s (g_s (g_s (g_s g_z))))))))) (by kernel_rfl) (by kernel_rfl) (by kernel_rfl) (fun _ _ _ h => h) (Or.inl ⟨by rfl, ?_⟩) hHeld ?_; rotate_left; (focus (intro w hSw; clear hSw; go_simp; try (first | (with_reducible rfl) | (rw [if_neg (by (try simp only [ByteArray.size_append]); omega)])))); try simp only [Act.put, List.setIfInBounds_toArray, List.set_cons_zero, List.set_cons_succ, hK0, hE]); (refine wpAnyH_take (i := 9) (v := ?_) (arr_get (g_s (g_s (g_s (g_s (g_s (g_s (g_s (g_s (g_s g_z)))))))))) (by kernel_rfl) (by kernel_rfl) (by kernel_rfl) (fun _ _ _ h => h) (Or.inl ⟨by rfl, ?_⟩) hHeld ?_; rotate_left; (focus (intro w hSw; clear hSw; go_simp; try (first | (with_reducible rfl) | (rw [if_neg (by (try simp only [ByteArray.size_append]); omega)])))); try simp only [Act.put, List.setIfInBounds_toArray, List.set_cons_zero, List.set_cons_succ, hK0, hE]); (refine wpAnyH_take (i := 10) (v := ?_) (arr_get (g_s (g_s (g_s (g_s (g_s (g_s (g_s (g_s (g_s (g_s g_z))))))))))) (by kernel_rfl) (by kernel_rfl) (by kernel_rfl) (fun _ _ _ h => h) (Or.inl ⟨by rfl, ?_⟩) hHeld ?_; rotate_left; (focus (intro w hSw; clear hSw; go_simp; try (first | (with_reducible rfl) | (rw [if_neg (by (try simp only [ByteArray.size_append]); omega)])))); try simp only [Act.put, List.setIfInBounds_toArray, List.set_cons_zero, List.set_cons_succ, hK0, hE]); (refine wpAnyH_take (i := 11) (v := ?_) (arr_get (g_s (g_s (g_s (g_s (g_s (g_s (g_s (g_s (g_s (g_s (g_s g_z)))))))))))) (by kernel_rfl) (by kernel_rfl) (by kernel_rfl) (fun _ _ _ h => h) (Or.inl ⟨by rfl, ?_⟩) hHeld ?_; rotate_left; (focus (intro w hSw; clear hSw; go_simp; try (first | (with_reducible rfl) | (rw [if_neg (by (try simp only [ByteArray.size_append]); omega)])))); try simp only [Act.put, List.setIfInBounds_toArray, List.set_cons_zero, List.set_cons_succ, hK0, hE]); (refine wpAnyH_take (i := 12) (v := ?_) (arr_get (g_s (g_s (g_s (g_s (g_s (g_s (g_s (g_s (g_s (g_s (g_s (g_s g_z))))))))))))) (by kernel_rfl) (by kernel_rfl) (by kernel_rfl) (fun _ _ _ h => h) (Or.inl ⟨by rfl, ?_⟩) hHeld ?_; rotate_left; (focus (intro w hSw; clear hSw; go_simp; try (first | (with_reducible rfl) | (rw [if_neg (by (try simp only [ByteArray.size_append]); omega)])))); try simp only [Act.put, List.setIfInBounds_toArray, List.set_cons_zero, List.set_cons_succ, hK0, hE]); (refine wpAnyH_take (i := 13) (v := ?_) (arr_get (g_s (g_s (g_s (g_s (g_s (g_s (g_s (g_s (g_s (g_s (g_s (g_s (g_s g_z)))))))))))))) (by kernel_rfl) (by kernel_rfl) (by kernel_rfl) (fun _ _ _ h => h) (Or.inl ⟨by rfl, ?_⟩) hHeld ?_; rotate_left; (focus (intro w hSw; clear hSw; go_simp; try (first | (with_reducible rfl) | (rw [if_neg (by (try simp only [ByteArray.size_append]); omega)])))); try simp only [Act.put, List.setIfInBounds_toArray, List.set_cons_zero, List.set_cons_succ, hK0, hE]); (refine wpAnyH_take (i := 14) (v := ?_) (arr_get (g_s (g_s (g_s (g_s (g_s (g_s (g_s (g_s (g_s (g_s (g_s (g_s (g_s (g_s g_z))))))))))))))) (by kernel_rfl) (by kernel_rfl) (by kernel_rfl) (fun _ _ _ h => h) (Or.inl ⟨by rfl, ?_⟩) hHeld ?_; rotate_left; (focus (intro w hSw; clear hSw; go_simp; try (first | (with_reducible rfl) | (rw [if_neg (by (try simp only [ByteArray.size_append]); omega)])))); try simp only [Act.put, List.setIfInBounds_toArray, List.set_cons_zero, List.set_cons_succ, hK0, hE]); (refine wpAnyH_take (i := 15) (v := ?_) (arr_get (g_s (g_s (g_s (g_s (g_s (g_s (g_s (g_s (g_s (g_s (g_s (g_s (g_s (g_s (g_s g_z)))))))))))))))) (by kernel_rfl) (by kernel_rfl) (by kernel_rfl) (fun _ _ _ h => h) (Or.inl ⟨by rfl, ?_⟩) hHeld ?_; rotate_left; (focus (intro w hSw; clear hSw; go_simp; try (first | (with_reducible rfl) | (rw [if_neg (by (try simp only [ByteArray.size_append]); omega)])))); try simp only [Act.put, List.setIfInBounds_toArray, List.set_cons_zero, List.set_cons_succ, hK0, hE]); (refine wpAnyH_take (i := 16) (v := ?_) (arr_get (g_s (g_s (g_s (g_s (g_s (g_s (g_s (g_s (g_s (g_s (g_s (g_s (g_s (g_s (g_s (g_s g_z))))))))))))))))) (by kernel_rfl) (by kernel_rfl) (by kernel_rfl) (fun _ _ _ h => h) (Or.inl ⟨by rfl, ?_⟩) hHeld ?_; rotate_left; (focus (intro w hSw; clear hSw; go_simp; try (first | (with_reducible rfl) | (rw [if_neg (by (try simp only [ByteArray.size_append]); omega)])))); try simp only [Act.put, List.setIfInBounds_toArray, List.set_cons_zero, List.set_cons_succ, hK0, hE]); (refine wpAnyH_take (i := 17) (v := _) (arr_get (g_s (g_s (g_s (g_s (g_s (g_s (g_s (g_s (g_s (g_s (g_s (g_s (g_s (g_s (g_s (g_s (g_s g_z)))))))))))))))))) (by kernel_rfl) (by kernel_rfl) (by kernel_rfl) (fun _ _ _ h => h) (Or.inr ⟨by rfl, rfl⟩) hHeld ?_; try simp only [Act.put, List.setIfInBounds_toArray, List.set_cons_zero, List.set_cons_succ, hK0, hE]); (refine wpAnyH_take (i := 18) (v := _) (arr_get (g_s (g_s (g_s (g_s (g_s (g_s (g_s (g_s (g_s (g_s (g_s (g_s (g_s (g_s (g_s (g_s (g_s (g_s g_z))))))))))))))))))) (by kernel_rfl) (by kernel_rfl) (by kernel_rfl) (fun _ _ _ h => h) (Or.inr ⟨by rfl, rfl⟩) hHeld ?_; try simp only [Act.put, List.setIfInBounds_toArray, List.set_cons_zero, List.set_cons_succ, hK0, hE]); (refine wpAnyH_take (i := 19) (v := _) (arr_get (g_s (g_s (g_s (g_s (g_s (g_s (g_s (g_s (g_s (g_s (g_s (g_s (g_s (g_s (g_s (g_s (g_s (g_s (g_s g_z)))))))))))))))))))) (by kernel_rfl) (by kernel_rfl) (by kernel_rfl) (fun _ _ _ h => h) (Or.inr ⟨by rfl, rfl⟩) hHeld ?_; try simp only [Act.put, List.setIfInBounds_toArray, List.set_cons_zero, List.set_cons_succ, hK0, hE]); (refine wpAnyH_take (i := 20) (v := ?_) (arr_get (g_s (g_s (g_s (g_s (g_s (g_s (g_s (g_s (g_s (g_s (g_s (g_s (g_s (g_s (g_s (g_s (g_s (g_s (g_s (g_s g_z))))))))))))))))))))) (by kernel_rfl) (by kernel_rfl) (by kernel_rfl) (fun _ _ _ h => h) (Or.inl ⟨by rfl, ?_⟩) hHeld ?_; rotate_left; (focus (intro w hSw; clear hSw; go_simp; try (first | (with_reducible rfl) | (rw [if_neg (by (try simp only [ByteArray.size_append]); omega)])))); try simp only [Act.put, List.setIfInBounds_toArray, List.set_cons_zero, List.set_cons_succ, hK0, hE]); (refine wpAnyH_take (i := 21) (v := ?_) (arr_get (g_s (g_s (g_s (g_s (g_s (g_s (g_s (g_s (g_s (g_s (g_s (g_s (g_s (g_s (g_s (g_s (g_s (g_s (g_s (g_s (g_s g_z)))))))))))))))))))))) (by kernel_rfl) (by kernel_rfl) (by kernel_rfl) (fun _ _ _ h => h) (Or.inl ⟨by rfl, ?_⟩) hHeld ?_; rotate_left; (focus (intro w hSw; clear hSw; go_simp; try (first | (with_reducible rfl) | (rw [if_neg (by (try simp only [ByteArray.size_append]); omega)])))); try simp only [Act.put, List.setIfInBounds_toArray, List.set_cons_zero, List.set_cons_succ, hK0, hE]); (refine wpAnyH_take (i := 22) (v := _) (arr_get (g_s (g_s (g_s (g_s (g_s (g_s (g_s (g_s (g_s (g_s (g_s (g_s (g_s (g_s (g_s (g_s (g_s (g_s (g_s (g_s (g_s (g_s g_z))))))))))))))))))))))) (by kernel_rfl) (by kernel_rfl) (by kernel_rfl) (fun _ _ _ h => h) (Or.inr ⟨by rfl, rfl⟩) hHeld ?_; try simp only [Act.put, List.setIfInBounds_toArray, List.set_cons_zero, List.set_cons_succ, hK0, hE]); (refine wpAnyH_take (i := 23) (v := _) (arr_get (g_s (g_s (g_s (g_s (g_s (g_s (g_s (g_s (g_s (g_s (g_s (g_s (g_s (g_s (g_s (g_s (g_s (g_s (g_s (g_s (g_s (g_s (g_s g_z)))))))))))))))))))))))) (by kernel_rfl) (by kernel_rfl) (by kernel_rfl) (fun _ _ _ h => h) (Or.inr ⟨by rfl, rfl⟩) hHeld ?_; try simp only [Act.put, List.setIfInBounds_toArray, List.set_cons_zero, List.set_cons_succ, hK0, hE]); (refine wpAnyH_take (i := 24) (v := _) (arr_get (g_s (g_s (g_s (g_s (g_s (g_s (g_s (g_s (g_s (g_s (g_s (g_s (g_s (g_s (g_s (g_s (g_s (g_s (g_s (g_s (g_s (g_s (g_s (g_s g_z))))))))))))))))))))))))) (by kernel_rfl) (by kernel_rfl) (by kernel_rfl) (fun _ _ _ h => h) (Or.inr ⟨by rfl, rfl⟩) hHeld ?_; try simp only [Act.put, List.setIfInBounds_toArray, List.set_cons_zero, List.set_cons_succ, hK0, hE]); (refine wpAnyH_take (i := 25) (v := _) (arr_get (g_s (g_s (g_s (g_s (g_s (g_s (g_s (g_s (g_s (g_s (g_s (g_s (g_s (g_s (g_s (g_s (g_s (g_s (g_s (g_s (g_s (g_s (g_s (g_s (g_s g_z)))))))))))))))))))))))))) (by kernel_rfl) (by kernel_rfl) (by kernel_rfl) (fun _ _ _ h => h) (Or.inr ⟨by rfl, rfl⟩) hHeld ?_; try simp only [Act.put, List.setIfInBounds_toArray, List.set_cons_zero, List.set_cons_succ, hK0, hE]); (refine wpAnyH_take (i := 26) (v := _) (arr_get (g_s (g_s (g_s (g_s (g_s (g_s (g_s (g_s (g_s (g_s (g_s (g_s (g_s (g_s (g_s (g_s (g_s (g_s (g_s (g_s (g_s (g_s (g_s (g_s (g_s (g_s g_z))))))))))))))))))))))))))) (by kernel_rfl) (by kernel_rfl) (by kernel_rfl) (fun _ _ _ h => h) (Or.inr ⟨by rfl, rfl⟩) hHeld ?_; try simp only [Act.put, List.setIfInBounds_toArray, List.set_cons_zero, List.set_cons_succ, hK0, hE]); (refine wpAnyH_take (i := 27) (v := _) (arr_get (g_s (g_s (g_s (g_s (g_s (g_s (g_s (g_s (g_s (g_s (g_s (g_s (g_s (g_s (g_s (g_s (g_s (g_s (g_s (g_s (g_s (g_s (g_s (g_s (g_s (g_s (g_s g_z)))))))))))))))))))))))))))) (by kernel_rfl) (by kernel_rfl) (by kernel_rfl) (fun _ _ _ h => h) (Or.inr ⟨by rfl, rfl⟩) hHeld ?_; try simp only [Act.put, List.setIfInBounds_toArray, List.set_cons_zero, List.set_cons_succ, hK0, hE]); (refine wpAnyH_take (i := 28) (v := _) (arr_get (g_s (g_s (g_s (g_s (g_s (g_s (g_s (g_s (g_s (g_s (g_s (g_s (g_s (g_s (g_s (g_s (g_s (g_s (g_s (g_s (g_s (g_s (g_s (g_s (g_s (g_s (g_s (g_s g_z))))))))))))))))))))))))))))) (by kernel_rfl) (by kernel_rfl) (by kernel_rfl) (fun _ _ _ h => h) (Or.inr ⟨by rfl, rfl⟩) hHeld ?_; try simp only [Act.put, List.setIfInBounds_toArray, List.set_cons_zero, List.set_cons_succ, hK0, hE]); (refine wpAnyH_take (i := 29) (v := _) (arr_get (g_s (g_s (g_s (g_s (g_s (g_s (g_s (g_s (g_s (g_s (g_s (g_s (g_s (g_s (g_s (g_s (g_s (g_s (g_s (g_s (g_s (g_s (g_s (g_s (g_s (g_s (g_s (g_s (g_s g_z)))))))))))))))))))))))))))))) (by kernel_rfl) (by kernel_rfl) (by kernel_rfl) (fun _ _ _ h => h) (Or.inr ⟨by rfl, rfl⟩) hHeld ?_; try simp only [Act.put, List.setIfInBounds_toArray, List.set_cons_zero, List.set_cons_succ, hK0, hE]); (refine wpAnyH_take (i := 30) (v := _) (arr_get (g_s (g_s (g_s (g_s (g_s (g_s (g_s (g_s (g_s (g_s (g_s (g_s (g_s (g_s (g_s (g_s (g_s (g_s (g_s (g_s (g_s (g_s (g_s (g_s (g_s (g_s (g_s (g_s (g_s (g_s g_z))))))))))))))))))))))))))))))) (by kernel_rfl) (by kernel_rfl) (by kernel_rfl) (fun _ _ _ h => h) (Or.inr ⟨by rfl, rfl⟩) hHeld ?_; try simp only [Act.put, List.setIfInBounds_toArray, List.set_cons_zero, List.set_cons_succ, hK0, hE]); (refine wpAnyH_take (i := 31) (v := _) (arr_get (g_s (g_s (g_s (g_s (g_s (g_s (g_s (g_s (g_s (g_s (g_s (g_s (g_s (g_s (g_s (g_s (g_s (g_s (g_s (g_s (g_s (g_s (g_s (g_s (g_s (g_s (g_s (g_s (g_s (g_s (g_s g_z)))))))))))))))))))))))))))))))) (by kernel_rfl) (by kernel_rfl) (by kernel_rfl) (fun _ _ _ h => h) (Or.inr ⟨by rfl, rfl⟩) hHeld ?_; try simp only [Act.put, List.setIfInBounds_toArray, List.set_cons_zero, List.set_cons_succ, hK0, hE]); (refine wpAnyH_take (i := 32) (v := _) (arr_get (g_s (g_s (g_s (g_s (g_s (g_s (g_s (g_s (g_s (g_s (g_s (g_s (g_s (g_s (g_s (g_s (g_s (g_s (g_s (g_s (g_s (g_s (g_s (g_s (g_s (g_s (g_s (g_s (g_s (g_s (g_s (g_s g_z))))))))))))))))))))))))))))))))) (by kernel_rfl) (by kernel_rfl) (by kernel_rfl) (fun _ _ _ h => h) (Or.inr ⟨by rfl, rfl⟩) hHeld ?_; try simp only [Act.put, List.setIfInBounds_toArray, List.set_cons_zero, List.set_cons_succ, hK0, hE]); (refine wpAnyH_take (i := 33) (v := ?_) (arr_get (g_s (g_s (g_s (g_s (g_s (g_s (g_s (g_s (g_s (g_s (g_s (g_s (g_s (g_s (g_s (g_s (g_s (g_s (g_s (g_s (g_s (g_s (g_s (g_s (g_s (g_s (g_s (g_s (g_s (g_s (g_s (g_s (g_s g_z)))))))))))))))))))))))))))))))))) (by kernel_rfl) (by kernel_rfl) (by kernel_rfl) (fun _ _ _ h => h) (Or.inl ⟨by rfl, ?_⟩) hHeld ?_; rotate_left; (focus (intro w hSw; clear hSw; go_simp; try (first | (with_reducible rfl) | (rw [if_neg (by (try simp only [ByteArray.size_append]); omega)])))); try simp only [Act.put, List.setIfInBounds_toArray, List.set_cons_zero, List.set_cons_succ, hK0, hE]); (refine wpAnyH_done (by kernel_rfl) ?_ _))
          have HB2 := Lib.hid (bel_then (bel_dr HB1.out) hb1)
          clear hb1 hg
          go_wp2
          go_ret2
          exact flR_no (shV_no4 (by rw [HK.out, HM.out])) HB2.out
        · have hkm0 : (K == M) = false := beq_false_of_ne hkm
          cases hs : inB n 1 8 with
          | false =>
            ((refine wp_region_held_drew (S := fun w' => Hid (Below w.heap.size w w')) (by kernel_rfl) (by (try dsimp only); exact Lib.hid (bel_dr HB1.out)) (fun hHeld => ?_)); (refine wpAnyH_take (i := 0) (v := ?_) (arr_get g_z) (by kernel_rfl) (by kernel_rfl) (by kernel_rfl) (fun _ _ _ h => h) (Or.inl ⟨by rfl, ?_⟩) hHeld ?_; rotate_left; (focus (intro w hSw; clear hSw; go_simp; try (first | (with_reducible rfl) | (rw [if_neg (by (try simp only [ByteArray.size_append]); omega)])))); try simp only [Act.put, List.setIfInBounds_toArray, List.set_cons_zero, List.set_cons_succ, hK0, hM0, hkm0]); (refine wpAnyH_ready (rs := [1]) (by kernel_rfl) (by simp) ?_); (refine AllReadyH.cons (i := 1) (arr_get (g_s g_z)) (fun K hK => ?_) AllReadyH.nil); (go_simp); ((go_at_call 29; refine (isFleet_c _ f _ HZ.out (rd_below HR.out (bel_dr HB1.out))).mono ?_; rw [hg]; rintro e w2 ⟨rfl, hb1⟩; have hb0 := hb1; have hs2 : w1.heap.size ≤ w2.heap.size := hb1.size)); (try (go_wp2_with fail)); (refine hK.out _ _ (by (try dsimp only); exact Lib.hid (bel_then hHeld.out hb1)) (fun hHeld2 => ?_)); (clear hHeld hK); (clear K); (have hHeld := hHeld2); (clear hHeld2); (try simp only [Act.put, List.setIfInBounds_toArray, List.set_cons_zero, List.set_cons_succ, hK0, hM0, hkm0]); (refine wpAnyH_take (i := 2) (v := ?_) (arr_get (g_s (g_s g_z))) (by kernel_rfl) (by kernel_rfl) (by kernel_rfl) (fun _ _ _ h => h) (Or.inl ⟨by rfl, ?_⟩) hHeld ?_; rotate_left; (focus (intro w hSw; clear hSw; go_simp; try (first | (with_reducible rfl) | (rw [if_neg (by (try simp only [ByteArray.size_append]); omega)])))); try simp only [Act.put, List.setIfInBounds_toArray, List.set_cons_zero, List.set_cons_succ, hK0, hM0, hkm0]); (refine wpAnyH_take (i := 3) (v := ?_) (arr_get (g_s (g_s (g_s g_z)))) (by kernel_rfl) (by kernel_rfl) (by kernel_rfl) (fun _ _ _ h => h) (Or.inl ⟨by rfl, ?_⟩) hHeld ?_; rotate_left; (focus (intro w hSw; clear hSw; go_simp; try (first | (with_reducible rfl) | (rw [if_neg (by (try simp only [ByteArray.size_append]); omega)])))); try simp only [Act.put, List.setIfInBounds_toArray, List.set_cons_zero, List.set_cons_succ, hK0, hM0, hkm0]); (refine wpAnyH_take (i := 4) (v := ?_) (arr_get (g_s (g_s (g_s (g_s g_z))))) (by kernel_rfl) (by kernel_rfl) (by kernel_rfl) (fun _ _ _ h => h) (Or.inl ⟨by rfl, ?_⟩) hHeld ?_; rotate_left; (focus (intro w hSw; clear hSw; go_simp; try (first | (with_reducible rfl) | (rw [if_neg (by (try simp only [ByteArray.size_append]); omega)])))); try simp only [Act.put, List.setIfInBounds_toArray, List.set_cons_zero, List.set_cons_succ, hK0, hM0, hkm0]); (refine wpAnyH_take (i := 5) (v := ?_) (arr_get (g_s (g_s (g_s (g_s (g_s g_z)))))) (by kernel_rfl) (by kernel_rfl) (by kernel_rfl) (fun _ _ _ h => h) (Or.inl ⟨by rfl, ?_⟩) hHeld ?_; rotate_left; (focus (intro w hSw; clear hSw; go_simp; try (first | (with_reducible rfl) | (rw [if_neg (by (try simp only [ByteArray.size_append]); omega)])))); try simp only [Act.put, List.setIfInBounds_toArray, List.set_cons_zero, List.set_cons_succ, hK0, hM0, hkm0]); (refine wpAnyH_take (i := 6) (v := ?_) (arr_get (g_s (g_s (g_s (g_s (g_s (g_s g_z))))))) (by kernel_rfl) (by kernel_rfl) (by kernel_rfl) (fun _ _ _ h => h) (Or.inl ⟨by rfl, ?_⟩) hHeld ?_; rotate_left; (focus (intro w hSw; clear hSw; go_simp; try (first | (with_reducible rfl) | (rw [if_neg (by (try simp only [ByteArray.size_append]); omega)])))); try simp only [Act.put, List.setIfInBounds_toArray, List.set_cons_zero, List.set_cons_succ, hK0, hM0, hkm0]); (refine wpAnyH_take (i := 7) (v := ?_) (arr_get (g_s (g_s (g_s (g_s (g_s (g_s (g_s g_z)))))))) (by kernel_rfl) (by kernel_rfl) (by kernel_rfl) (fun _ _ _ h => h) (Or.inl ⟨by rfl, ?_⟩) hHeld ?_; rotate_left; (focus (intro w hSw; clear hSw; go_simp; try (first | (with_reducible rfl) | (rw [if_neg (by (try simp only [ByteArray.size_append]); omega)])))); try simp only [Act.put, List.setIfInBounds_toArray, List.set_cons_zero, List.set_cons_succ, hK0, hM0, hkm0]); (refine wpAnyH_take (i := 8) (v := ?_) (arr_get (g_s (g_s (g_s (g_s (g_s (g_s (g_s (g_s g_z))))))))) (by kernel_rfl) (by kernel_rfl) (by kernel_rfl) (fun _ _ _ h => h) (Or.inl ⟨by rfl, ?_⟩) hHeld ?_; rotate_left; (focus (intro w hSw; clear hSw; go_simp; try (first | (with_reducible rfl) | (rw [if_neg (by (try simp only [ByteArray.size_append]); omega)])))); try simp only [Act.put, List.setIfInBounds_toArray, List.set_cons_zero, List.set_cons_succ, hK0, hM0, hkm0]); (refine wpAnyH_take (i := 9) (v := ?_) (arr_get (g_s (g_s (g_s (g_s (g_s (g_s (g_s (g_s (g_s g_z)))))))))) (by kernel_rfl) (by kernel_rfl) (by kernel_rfl) (fun _ _ _ h => h) (Or.inl ⟨by rfl, ?_⟩) hHeld ?_; rotate_left; (focus (intro w hSw; clear hSw; go_simp; try (first | (with_reducible rfl) | (rw [if_neg (by (try simp only [ByteArray.size_append]); omega)])))); try simp only [Act.put, List.setIfInBounds_toArray, List.set_cons_zero, List.set_cons_succ, hK0, hM0, hkm0]); (refine wpAnyH_take (i := 10) (v := ?_) (arr_get (g_s (g_s (g_s (g_s (g_s (g_s (g_s (g_s (g_s (g_s g_z))))))))))) (by kernel_rfl) (by kernel_rfl) (by kernel_rfl) (fun _ _ _ h => h) (Or.inl ⟨by rfl, ?_⟩) hHeld ?_; rotate_left; (focus (intro w hSw; clear hSw; go_simp; try (first | (with_reducible rfl) | (rw [if_neg (by (try simp only [ByteArray.size_append]); omega)])))); try simp only [Act.put, List.setIfInBounds_toArray, List.set_cons_zero, List.set_cons_succ, hK0, hM0, hkm0]); (refine wpAnyH_take (i := 11) (v := ?_) (arr_get (g_s (g_s (g_s (g_s (g_s (g_s (g_s (g_s (g_s (g_s (g_s g_z)))))))))))) (by kernel_rfl) (by kernel_rfl) (by kernel_rfl) (fun _ _ _ h => h) (Or.inl ⟨by rfl, ?_⟩) hHeld ?_; rotate_left; (focus (intro w hSw; clear hSw; go_simp; try (first | (with_reducible rfl) | (rw [if_neg (by (try simp only [ByteArray.size_append]); omega)])))); try simp only [Act.put, List.setIfInBounds_toArray, List.set_cons_zero, List.set_cons_succ, hK0, hM0, hkm0]); (refine wpAnyH_take (i := 12) (v := ?_) (arr_get (g_s (g_s (g_s (g_s (g_s (g_s (g_s (g_s (g_s (g_s (g_s (g_s g_z))))))))))))) (by kernel_rfl) (by kernel_rfl) (by kernel_rfl) (fun _ _ _ h => h) (Or.inl ⟨by rfl, ?_⟩) hHeld ?_; rotate_left; (focus (intro w hSw; clear hSw; go_simp; try (first | (with_reducible rfl) | (rw [if_neg (by (try simp only [ByteArray.size_append]); omega)])))); try simp only [Act.put, List.setIfInBounds_toArray, List.set_cons_zero, List.set_cons_succ, hK0, hM0, hkm0]); (refine wpAnyH_take (i := 13) (v := ?_) (arr_get (g_s (g_s (g_s (g_s (g_s (g_s (g_s (g_s (g_s (g_s (g_s (g_s (g_s g_z)))))))))))))) (by kernel_rfl) (by kernel_rfl) (by kernel_rfl) (fun _ _ _ h => h) (Or.inl ⟨by rfl, ?_⟩) hHeld ?_; rotate_left; (focus (intro w hSw; clear hSw; go_simp; try (first | (with_reducible rfl) | (rw [if_neg (by (try simp only [ByteArray.size_append]); omega)])))); try simp only [Act.put, List.setIfInBounds_toArray, List.set_cons_zero, List.set_cons_succ, hK0, hM0, hkm0]); (refine wpAnyH_take (i := 14) (v := ?_) (arr_get (g_s (g_s (g_s (g_s (g_s (g_s (g_s (g_s (g_s (g_s (g_s (g_s (g_s (g_s g_z))))))))))))))) (by kernel_rfl) (by kernel_rfl) (by kernel_rfl) (fun _ _ _ h => h) (Or.inl ⟨by rfl, ?_⟩) hHeld ?_; rotate_left; (focus (intro w hSw; clear hSw; go_simp; try (first | (with_reducible rfl) | (rw [if_neg (by (try simp only [ByteArray.size_append]); omega)])))); try simp only [Act.put, List.setIfInBounds_toArray, List.set_cons_zero, List.set_cons_succ, hK0, hM0, hkm0]); (refine wpAnyH_take (i := 15) (v := ?_) (arr_get (g_s (g_s (g_s (g_s (g_s (g_s (g_s (g_s (g_s (g_s (g_s (g_s (g_s (g_s (g_s g_z)))))))))))))))) (by kernel_rfl) (by kernel_rfl) (by kernel_rfl) (fun _ _ _ h => h) (Or.inl ⟨by rfl, ?_⟩) hHeld ?_; rotate_left; (focus (intro w hSw; clear hSw; go_simp; try (first | (with_reducible rfl) | (rw [if_neg (by (try simp only [ByteArray.size_append]); omega)])))); try simp only [Act.put, List.setIfInBounds_toArray, List.set_cons_zero, List.set_cons_succ, hK0, hM0, hkm0]); (refine wpAnyH_take (i := 16) (v := ?_) (arr_get (g_s (g_s (g_s (g_s (g_s (g_s (g_s (g_s (g_s (g_s (g_s (g_s (g_s (g_s (g_s (g_s g_z))))))))))))))))) (by kernel_rfl) (by kernel_rfl) (by kernel_rfl) (fun _ _ _ h => h) (Or.inl ⟨by rfl, ?_⟩) hHeld ?_; rotate_left; (focus (intro w hSw; clear hSw; go_simp; try (first | (with_reducible rfl) | (rw [if_neg (by (try simp only [ByteArray.size_append]); omega)])))); try simp only [Act.put, List.setIfInBounds_toArray, List.set_cons_zero, List.set_cons_succ, hK0, hM0, hkm0]); (refine wpAnyH_take (i := 17) (v := ?_) (arr_get (g_s (g_s (g_s (g_s (g_s (g_s (g_s (g_s (g_s (g_s (g_s (g_s (g_s (g_s (g_s (g_s (g_s g_z)))))))))))))))))) (by kernel_rfl) (by kernel_rfl) (by kernel_rfl) (fun _ _ _ h => h) (Or.inl ⟨by rfl, ?_⟩) hHeld ?_; rotate_left; (focus (intro w hSw; clear hSw; go_simp; try (first | (with_reducible rfl) | (rw [if_neg (by (try simp only [ByteArray.size_append]); omega)])))); try simp only [Act.put, List.setIfInBounds_toArray, List.set_cons_zero, List.set_cons_succ, hK0, hM0, hkm0]); (refine wpAnyH_ready (rs := [18]) (by kernel_rfl) (by simp) ?_); (refine AllReadyH.cons (i := 18) (arr_get (g_s (g_s (g_s (g_s (g_s (g_s (g_s (g_s (g_s (g_s (g_s (g_s (g_s (g_s (g_s (g_s (g_s (g_s g_z))))))))))))))))))) (fun K hK => ?_) AllReadyH.nil); (go_simp); ((go_at_call 40; refine (inside_c n 1 8 _).mono ?_; rw [hs]; rintro e w3 ⟨rfl, hw3⟩; have hb1 : Below w2.heap.size w2 w3 := (by rw [hw3]; exact Below.refl _ _); clear hw3)); (try (go_wp2_with fail)); (refine hK.out _ _ (by (try dsimp only); exact Lib.hid (bel_then hHeld.out hb1)) (fun hHeld2 => ?_)); (clear hHeld hK); (clear K); (have hHeld := hHeld2); (clear hHeld2); (try simp only [Act.put, List.setIfInBounds_toArray, List.set_cons_zero, List.set_cons_succ, hK0, hM0, hkm0]); (refine wpAnyH_take (i := 19) (v := ?_) (arr_get (g_s (g_s (g_s (g_s (g_s (g_s (g_s (g_s (g_s (g_s (g_s (g_s (g_s (g_s (g_s (g_s (g_s (g_s (g_s g_z)))))))))))))))))))) (by kernel_rfl) (by kernel_rfl) (by kernel_rfl) (fun _ _ _ h => h) (Or.inl ⟨by rfl, ?_⟩) hHeld ?_; rotate_left; (focus (intro w hSw; clear hSw; go_simp; try (first | (with_reducible rfl) | (rw [if_neg (by (try simp only [ByteArray.size_append]); omega)])))); try simp only [Act.put, List.setIfInBounds_toArray, List.set_cons_zero, List.set_cons_succ, hK0, hM0, hkm0]); (refine wpAnyH_take (i := 20) (v := ?_) (arr_get (g_s (g_s (g_s (g_s (g_s (g_s (g_s (g_s (g_s (g_s (g_s (g_s (g_s (g_s (g_s (g_s (g_s (g_s (g_s (g_s g_z))))))))))))))))))))) (by kernel_rfl) (by kernel_rfl) (by kernel_rfl) (fun _ _ _ h => h) (Or.inl ⟨by rfl, ?_⟩) hHeld ?_; rotate_left; (focus (intro w hSw; clear hSw; go_simp; try (first | (with_reducible rfl) | (rw [if_neg (by (try simp only [ByteArray.size_append]); omega)])))); try simp only [Act.put, List.setIfInBounds_toArray, List.set_cons_zero, List.set_cons_succ, hK0, hM0, hkm0]); (refine wpAnyH_take (i := 21) (v := ?_) (arr_get (g_s (g_s (g_s (g_s (g_s (g_s (g_s (g_s (g_s (g_s (g_s (g_s (g_s (g_s (g_s (g_s (g_s (g_s (g_s (g_s (g_s g_z)))))))))))))))))))))) (by kernel_rfl) (by kernel_rfl) (by kernel_rfl) (fun _ _ _ h => h) (Or.inl ⟨by rfl, ?_⟩) hHeld ?_; rotate_left; (focus (intro w hSw; clear hSw; go_simp; try (first | (with_reducible rfl) | (rw [if_neg (by (try simp only [ByteArray.size_append]); omega)])))); try simp only [Act.put, List.setIfInBounds_toArray, List.set_cons_zero, List.set_cons_succ, hK0, hM0, hkm0]); (refine wpAnyH_take (i := 22) (v := _) (arr_get (g_s (g_s (g_s (g_s (g_s (g_s (g_s (g_s (g_s (g_s (g_s (g_s (g_s (g_s (g_s (g_s (g_s (g_s (g_s (g_s (g_s (g_s g_z))))))))))))))))))))))) (by kernel_rfl) (by kernel_rfl) (by kernel_rfl) (fun _ _ _ h => h) (Or.inr ⟨by rfl, rfl⟩) hHeld ?_; try simp only [Act.put, List.setIfInBounds_toArray, List.set_cons_zero, List.set_cons_succ, hK0, hM0, hkm0]); (refine wpAnyH_take (i := 23) (v := _) (arr_get (g_s (g_s (g_s (g_s (g_s (g_s (g_s (g_s (g_s (g_s (g_s (g_s (g_s (g_s (g_s (g_s (g_s (g_s (g_s (g_s (g_s (g_s (g_s g_z)))))))))))))))))))))))) (by kernel_rfl) (by kernel_rfl) (by kernel_rfl) (fun _ _ _ h => h) (Or.inr ⟨by rfl, rfl⟩) hHeld ?_; try simp only [Act.put, List.setIfInBounds_toArray, List.set_cons_zero, List.set_cons_succ, hK0, hM0, hkm0]); (refine wpAnyH_take (i := 24) (v := _) (arr_get (g_s (g_s (g_s (g_s (g_s (g_s (g_s (g_s (g_s (g_s (g_s (g_s (g_s (g_s (g_s (g_s (g_s (g_s (g_s (g_s (g_s (g_s (g_s (g_s g_z))))))))))))))))))))))))) (by kernel_rfl) (by kernel_rfl) (by kernel_rfl) (fun _ _ _ h => h) (Or.inr ⟨by rfl, rfl⟩) hHeld ?_; try simp only [Act.put, List.setIfInBounds_toArray, List.set_cons_zero, List.set_cons_succ, hK0, hM0, hkm0]); (refine wpAnyH_take (i := 25) (v := _) (arr_get (g_s (g_s (g_s (g_s (g_s (g_s (g_s (g_s (g_s (g_s (g_s (g_s (g_s (g_s (g_s (g_s (g_s (g_s (g_s (g_s (g_s (g_s (g_s (g_s (g_s g_z)))))))))))))))))))))))))) (by kernel_rfl) (by kernel_rfl) (by kernel_rfl) (fun _ _ _ h => h) (Or.inr ⟨by rfl, rfl⟩) hHeld ?_; try simp only [Act.put, List.setIfInBounds_toArray, List.set_cons_zero, List.set_cons_succ, hK0, hM0, hkm0]); (refine wpAnyH_take (i := 26) (v := _) (arr_get (g_s (g_s (g_s (g_s (g_s (g_s (g_s (g_s (g_s (g_s (g_s (g_s (g_s (g_s (g_s (g_s (g_s (g_s (g_s (g_s (g_s (g_s (g_s (g_s (g_s (g_s g_z))))))))))))))))))))))))))) (by kernel_rfl) (by kernel_rfl) (by kernel_rfl) (fun _ _ _ h => h) (Or.inr ⟨by rfl, rfl⟩) hHeld ?_; try simp only [Act.put, List.setIfInBounds_toArray, List.set_cons_zero, List.set_cons_succ, hK0, hM0, hkm0]); (refine wpAnyH_take (i := 27) (v := _) (arr_get (g_s (g_s (g_s (g_s (g_s (g_s (g_s (g_s (g_s (g_s (g_s (g_s (g_s (g_s (g_s (g_s (g_s (g_s (g_s (g_s (g_s (g_s (g_s (g_s (g_s (g_s (g_s g_z)))))))))))))))))))))))))))) (by kernel_rfl) (by kernel_rfl) (by kernel_rfl) (fun _ _ _ h => h) (Or.inr ⟨by rfl, rfl⟩) hHeld ?_; try simp only [Act.put, List.setIfInBounds_toArray, List.set_cons_zero, List.set_cons_succ, hK0, hM0, hkm0]); (refine wpAnyH_take (i := 28) (v := _) (arr_get (g_s (g_s (g_s (g_s (g_s (g_s (g_s (g_s (g_s (g_s (g_s (g_s (g_s (g_s (g_s (g_s (g_s (g_s (g_s (g_s (g_s (g_s (g_s (g_s (g_s (g_s (g_s (g_s g_z))))))))))))))))))))))))))))) (by kernel_rfl) (by kernel_rfl) (by kernel_rfl) (fun _ _ _ h => h) (Or.inr ⟨by rfl, rfl⟩) hHeld ?_; try simp only [Act.put, List.setIfInBounds_toArray, List.set_cons_zero, List.set_cons_succ, hK0, hM0, hkm0]); (refine wpAnyH_take (i := 29) (v := _) (arr_get (g_s (g_s (g_s (g_s (g_s (g_s (g_s (g_s (g_s (g_s (g_s (g_s (g_s (g_s (g_s (g_s (g_s (g_s (g_s (g_s (g_s (g_s (g_s (g_s (g_s (g_s (g_s (g_s (g_s g_z)))))))))))))))))))))))))))))) (by kernel_rfl) (by kernel_rfl) (by kernel_rfl) (fun _ _ _ h => h) (Or.inr ⟨by rfl, rfl⟩) hHeld ?_; try simp only [Act.put, List.setIfInBounds_toArray, List.set_cons_zero, List.set_cons_succ, hK0, hM0, hkm0]); (refine wpAnyH_take (i := 30) (v := _) (arr_get (g_s (g_s (g_s (g_s (g_s (g_s (g_s (g_s (g_s (g_s (g_s (g_s (g_s (g_s (g_s (g_s (g_s (g_s (g_s (g_s (g_s (g_s (g_s (g_s (g_s (g_s (g_s (g_s (g_s (g_s g_z))))))))))))))))))))))))))))))) (by kernel_rfl) (by kernel_rfl) (by kernel_rfl) (fun _ _ _ h => h) (Or.inr ⟨by rfl, rfl⟩) hHeld ?_; try simp only [Act.put, List.setIfInBounds_toArray, List.set_cons_zero, List.set_cons_succ, hK0, hM0, hkm0]); (refine wpAnyH_take (i := 31) (v := _) (arr_get (g_s (g_s (g_s (g_s (g_s (g_s (g_s (g_s (g_s (g_s (g_s (g_s (g_s (g_s (g_s (g_s (g_s (g_s (g_s (g_s (g_s (g_s (g_s (g_s (g_s (g_s (g_s (g_s (g_s (g_s (g_s g_z)))))))))))))))))))))))))))))))) (by kernel_rfl) (by kernel_rfl) (by kernel_rfl) (fun _ _ _ h => h) (Or.inr ⟨by rfl, rfl⟩) hHeld ?_; try simp only [Act.put, List.setIfInBounds_toArray, List.set_cons_zero, List.set_cons_succ, hK0, hM0, hkm0]); (refine wpAnyH_take (i := 32) (v := _) (arr_get (g_s (g_s (g_s (g_s (g_s (g_s (g_s (g_s (g_s (g_s (g_s (g_s (g_s (g_s (g_s (g_s (g_s (g_s (g_s (g_s (g_s (g_s (g_s (g_s (g_s (g_s (g_s (g_s (g_s (g_s (g_s (g_s g_z))))))))))))))))))))))))))))))))) (by kernel_rfl) (by kernel_rfl) (by kernel_rfl) (fun _ _ _ h => h) (Or.inr ⟨by rfl, rfl⟩) hHeld ?_; try simp only [Act.put, List.setIfInBounds_toArray, List.set_cons_zero, List.set_cons_succ, hK0, hM0, hkm0]); (refine wpAnyH_take (i := 33) (v := ?_) (arr_get (g_s (g_s (g_s (g_s (g_s (g_s (g_s (g_s (g_s (g_s (g_s (g_s (g_s (g_s (g_s (g_s (g_s (g_s (g_s (g_s (g_s (g_s (g_s (g_s (g_s (g_s (g_s (g_s (g_s (g_s (g_s (g_s (g_s g_z)))))))))))))))))))))))))))))))))) (by kernel_rfl) (by kernel_rfl) (by kernel_rfl) (fun _ _ _ h => h) (Or.inl ⟨by rfl, ?_⟩) hHeld ?_; rotate_left; (focus (intro w hSw; clear hSw; go_simp; try (first | (with_reducible rfl) | (rw [if_neg (by (try simp only [ByteArray.size_append]); omega)])))); try simp only [Act.put, List.setIfInBounds_toArray, List.set_cons_zero, List.set_cons_succ, hK0, hM0, hkm0]); (refine wpAnyH_done (by kernel_rfl) ?_ _))
            have HB2 := Lib.hid (bel_then (bel_then (bel_dr HB1.out) hb0) hb1)
            clear hb1 hb0 hg
            go_wp2
            go_ret2
            exact flR_no (shV_no5 hs) HB2.out
          | true =>
            obtain ⟨hn1, hn8⟩ := inB_true hs
            obtain ⟨i, rfl⟩ : ∃ i : Nat, K = (i : Int) := ⟨K.toNat, by omega⟩
            obtain ⟨k, rfl⟩ : ∃ k : Nat, M = (k : Int) := ⟨M.toNat, by omega⟩
            obtain ⟨a, ha, hnm, hif⟩ := find_some HK.out
            obtain ⟨a', ha', hnm', hkf⟩ := find_some HM.out
            have hik : i ≠ k := by omega
            clear hnm hnm' hk0 hm0 hkm
            have i0 : (0 : Int) ≤ (i : Int) := by omega
            have i1 : (i : Int) < (f.length : Int) := by omega
            have j0 : (0 : Int) ≤ (k : Int) := by omega
            have j1 : (k : Int) < (f.length : Int) := by omega
            obtain ⟨b, off, rfl, hbl, hcell⟩ : ∃ b off, A = some ⟨b, off, none⟩ ∧ b < w.heap.size ∧ ∀ j u, (f.flatMap Ap.cells)[j]? = some u → w.cell? ⟨b, off + j, none⟩ = some u := HCELL.out (by omega)
            obtain ⟨nm0, kd, nd, cr, sv⟩ := a
            obtain ⟨nm1, kd', nd', cr', sv'⟩ := a'
            obtain ⟨d0, d1, d2, d3, d4⟩ := ap_at hcell (bel_dr HB1.out) hbl ha
            obtain ⟨e0, e1, e2, e3, e4⟩ := ap_at hcell (bel_dr HB1.out) hbl ha'
            dsimp only at d0 d1 d2 d3 d4 e0 e1 e2 e3 e4
            have HD : Hid (∀ W, Below w.heap.size w W → W.cell? ⟨b, off + i * 5, none⟩ = some (.string nm0) ∧ W.cell? ⟨b, off + i * 5 + 1, none⟩ = some (.int .i64 kd) ∧ W.cell? ⟨b, off + i * 5 + 2, none⟩ = some (.int .i64 nd) ∧ W.cell? ⟨b, off + i * 5 + 3, none⟩ = some (.int .i64 cr) ∧ W.cell? ⟨b, off + i * 5 + 4, none⟩ = some (.int .i64 sv)) := Lib.hid (fun W hW => ap_at hcell hW hbl ha)
            have HE : Hid (∀ W, Below w.heap.size w W → W.cell? ⟨b, off + k * 5, none⟩ = some (.string nm1) ∧ W.cell? ⟨b, off + k * 5 + 1, none⟩ = some (.int .i64 kd') ∧ W.cell? ⟨b, off + k * 5 + 2, none⟩ = some (.int .i64 nd') ∧ W.cell? ⟨b, off + k * 5 + 3, none⟩ = some (.int .i64 cr') ∧ W.cell? ⟨b, off + k * 5 + 4, none⟩ = some (.int .i64 sv')) := Lib.hid (fun W hW => ap_at hcell hW hbl ha')
            obtain ⟨_, _, _, _, _, q1, q2, _, _⟩ := goodAp_true (HAll.out _ (List.mem_of_getElem? ha))
            obtain ⟨_, _, _, _, _, p1, p2, _, _⟩ := goodAp_true (HAll.out _ (List.mem_of_getElem? ha'))
            dsimp only at q1 q2 p1 p2
            have HA := Lib.hid ha
            have HA' := Lib.hid ha'
            have hw1 := HB1.out.size
            clear d0 d1 d3 d4 e0 e1 e3 e4 hcell ha ha'
            by_cases hnd : nd = nd'
            · subst hnd
              ((refine wp_region_held_drew (S := fun w' => w'.cell? ⟨b, off + i * 5 + 2, none⟩ = some (.int .i64 nd) ∧ w'.cell? ⟨b, off + k * 5 + 2, none⟩ = some (.int .i64 nd)) (by kernel_rfl) (by (try dsimp only); first | go_keep | (go_split_ands; refine ⟨?_, ?_⟩ <;> assumption)) (fun hHeld => ?_)); (refine wpAnyH_take (i := 0) (v := ?_) (arr_get g_z) (by kernel_rfl) (by kernel_rfl) (by kernel_rfl) (fun _ _ _ h => h) (Or.inl ⟨by rfl, ?_⟩) hHeld ?_; rotate_left; (focus (intro w hSw; (try dsimp only at hSw); go_simp; try (first | (with_reducible rfl) | (rw [if_neg (by (try simp only [ByteArray.size_append]); omega)])))); try simp only [Act.put, List.setIfInBounds_toArray, List.set_cons_zero, List.set_cons_succ, hK0, hM0, hkm0]); (refine wpAnyH_ready (rs := [1]) (by kernel_rfl) (by simp) ?_); (refine AllReadyH.cons (i := 1) (arr_get (g_s g_z)) (fun K hK => ?_) AllReadyH.nil); (go_simp); ((go_at_call 29; refine (isFleet_c _ f _ HZ.out (rd_below HR.out (bel_dr HB1.out))).mono ?_; rw [hg]; rintro e w2 ⟨rfl, hb1⟩; have hb0 := hb1; have hs2 : w1.heap.size ≤ w2.heap.size := hb1.size)); (try (go_wp2_with fail)); (refine hK.out _ _ (by (try dsimp only); (go_split_ands; refine ⟨?_, ?_⟩ <;> (rw [hb1.cell (by first | assumption | (simp; omega))]; assumption))) (fun hHeld2 => ?_)); (clear hHeld hK); (clear K); (have hHeld := hHeld2); (clear hHeld2); (try simp only [Act.put, List.setIfInBounds_toArray, List.set_cons_zero, List.set_cons_succ, hK0, hM0, hkm0]); (refine wpAnyH_take (i := 2) (v := ?_) (arr_get (g_s (g_s g_z))) (by kernel_rfl) (by kernel_rfl) (by kernel_rfl) (fun _ _ _ h => h) (Or.inl ⟨by rfl, ?_⟩) hHeld ?_; rotate_left; (focus (intro w hSw; (try dsimp only at hSw); go_simp; try (first | (with_reducible rfl) | (rw [if_neg (by (try simp only [ByteArray.size_append]); omega)])))); try simp only [Act.put, List.setIfInBounds_toArray, List.set_cons_zero, List.set_cons_succ, hK0, hM0, hkm0]); (refine wpAnyH_take (i := 3) (v := ?_) (arr_get (g_s (g_s (g_s g_z)))) (by kernel_rfl) (by kernel_rfl) (by kernel_rfl) (fun _ _ _ h => h) (Or.inl ⟨by rfl, ?_⟩) hHeld ?_; rotate_left; (focus (intro w hSw; (try dsimp only at hSw); go_simp; try (first | (with_reducible rfl) | (rw [if_neg (by (try simp only [ByteArray.size_append]); omega)])))); try simp only [Act.put, List.setIfInBounds_toArray, List.set_cons_zero, List.set_cons_succ, hK0, hM0, hkm0]); (refine wpAnyH_take (i := 4) (v := ?_) (arr_get (g_s (g_s (g_s (g_s g_z))))) (by kernel_rfl) (by kernel_rfl) (by kernel_rfl) (fun _ _ _ h => h) (Or.inl ⟨by rfl, ?_⟩) hHeld ?_; rotate_left; (focus (intro w hSw; (try dsimp only at hSw); go_simp; try (first | (with_reducible rfl) | (rw [if_neg (by (try simp only [ByteArray.size_append]); omega)])))); try simp only [Act.put, List.setIfInBounds_toArray, List.set_cons_zero, List.set_cons_succ, hK0, hM0, hkm0]); (refine wpAnyH_take (i := 5) (v := ?_) (arr_get (g_s (g_s (g_s (g_s (g_s g_z)))))) (by kernel_rfl) (by kernel_rfl) (by kernel_rfl) (fun _ _ _ h => h) (Or.inl ⟨by rfl, ?_⟩) hHeld ?_; rotate_left; (focus (intro w hSw; (try dsimp only at hSw); go_simp; try (first | (with_reducible rfl) | (rw [if_neg (by (try simp only [ByteArray.size_append]); omega)])))); try simp only [Act.put, List.setIfInBounds_toArray, List.set_cons_zero, List.set_cons_succ, hK0, hM0, hkm0]); (refine wpAnyH_take (i := 6) (v := ?_) (arr_get (g_s (g_s (g_s (g_s (g_s (g_s g_z))))))) (by kernel_rfl) (by kernel_rfl) (by kernel_rfl) (fun _ _ _ h => h) (Or.inl ⟨by rfl, ?_⟩) hHeld ?_; rotate_left; (focus (intro w hSw; (try dsimp only at hSw); go_simp; try (first | (with_reducible rfl) | (rw [if_neg (by (try simp only [ByteArray.size_append]); omega)])))); try simp only [Act.put, List.setIfInBounds_toArray, List.set_cons_zero, List.set_cons_succ, hK0, hM0, hkm0]); (refine wpAnyH_take (i := 7) (v := ?_) (arr_get (g_s (g_s (g_s (g_s (g_s (g_s (g_s g_z)))))))) (by kernel_rfl) (by kernel_rfl) (by kernel_rfl) (fun _ _ _ h => h) (Or.inl ⟨by rfl, ?_⟩) hHeld ?_; rotate_left; (focus (intro w hSw; (try dsimp only at hSw); go_simp; try (first | (with_reducible rfl) | (rw [if_neg (by (try simp only [ByteArray.size_append]); omega)])))); try simp only [Act.put, List.setIfInBounds_toArray, List.set_cons_zero, List.set_cons_succ, hK0, hM0, hkm0]); (refine wpAnyH_take (i := 8) (v := ?_) (arr_get (g_s (g_s (g_s (g_s (g_s (g_s (g_s (g_s g_z))))))))) (by kernel_rfl) (by kernel_rfl) (by kernel_rfl) (fun _ _ _ h => h) (Or.inl ⟨by rfl, ?_⟩) hHeld ?_; rotate_left; (focus (intro w hSw; (try dsimp only at hSw); go_simp; try (first | (with_reducible rfl) | (rw [if_neg (by (try simp only [ByteArray.size_append]); omega)])))); try simp only [Act.put, List.setIfInBounds_toArray, List.set_cons_zero, List.set_cons_succ, hK0, hM0, hkm0]); (refine wpAnyH_take (i := 9) (v := ?_) (arr_get (g_s (g_s (g_s (g_s (g_s (g_s (g_s (g_s (g_s g_z)))))))))) (by kernel_rfl) (by kernel_rfl) (by kernel_rfl) (fun _ _ _ h => h) (Or.inl ⟨by rfl, ?_⟩) hHeld ?_; rotate_left; (focus (intro w hSw; (try dsimp only at hSw); go_simp; try (first | (with_reducible rfl) | (rw [if_neg (by (try simp only [ByteArray.size_append]); omega)])))); try simp only [Act.put, List.setIfInBounds_toArray, List.set_cons_zero, List.set_cons_succ, hK0, hM0, hkm0]); (refine wpAnyH_take (i := 10) (v := ?_) (arr_get (g_s (g_s (g_s (g_s (g_s (g_s (g_s (g_s (g_s (g_s g_z))))))))))) (by kernel_rfl) (by kernel_rfl) (by kernel_rfl) (fun _ _ _ h => h) (Or.inl ⟨by rfl, ?_⟩) hHeld ?_; rotate_left; (focus (intro w hSw; (try dsimp only at hSw); go_simp; try (first | (with_reducible rfl) | (rw [if_neg (by (try simp only [ByteArray.size_append]); omega)])))); try simp only [Act.put, List.setIfInBounds_toArray, List.set_cons_zero, List.set_cons_succ, hK0, hM0, hkm0]); (refine wpAnyH_take (i := 11) (v := ?_) (arr_get (g_s (g_s (g_s (g_s (g_s (g_s (g_s (g_s (g_s (g_s (g_s g_z)))))))))))) (by kernel_rfl) (by kernel_rfl) (by kernel_rfl) (fun _ _ _ h => h) (Or.inl ⟨by rfl, ?_⟩) hHeld ?_; rotate_left; (focus (intro w hSw; (try dsimp only at hSw); go_simp; try (first | (with_reducible rfl) | (rw [if_neg (by (try simp only [ByteArray.size_append]); omega)])))); try simp only [Act.put, List.setIfInBounds_toArray, List.set_cons_zero, List.set_cons_succ, hK0, hM0, hkm0]); (refine wpAnyH_take (i := 12) (v := ?_) (arr_get (g_s (g_s (g_s (g_s (g_s (g_s (g_s (g_s (g_s (g_s (g_s (g_s g_z))))))))))))) (by kernel_rfl) (by kernel_rfl) (by kernel_rfl) (fun _ _ _ h => h) (Or.inl ⟨by rfl, ?_⟩) hHeld ?_; rotate_left; (focus (intro w hSw; (try dsimp only at hSw); go_simp; try (first | (with_reducible rfl) | (rw [if_neg (by (try simp only [ByteArray.size_append]); omega)])))); try simp only [Act.put, List.setIfInBounds_toArray, List.set_cons_zero, List.set_cons_succ, hK0, hM0, hkm0]); (refine wpAnyH_take (i := 13) (v := ?_) (arr_get (g_s (g_s (g_s (g_s (g_s (g_s (g_s (g_s (g_s (g_s (g_s (g_s (g_s g_z)))))))))))))) (by kernel_rfl) (by kernel_rfl) (by kernel_rfl) (fun _ _ _ h => h) (Or.inl ⟨by rfl, ?_⟩) hHeld ?_; rotate_left; (focus (intro w hSw; (try dsimp only at hSw); go_simp; try (first | (with_reducible rfl) | (rw [if_neg (by (try simp only [ByteArray.size_append]); omega)])))); try simp only [Act.put, List.setIfInBounds_toArray, List.set_cons_zero, List.set_cons_succ, hK0, hM0, hkm0]); (refine wpAnyH_take (i := 14) (v := ?_) (arr_get (g_s (g_s (g_s (g_s (g_s (g_s (g_s (g_s (g_s (g_s (g_s (g_s (g_s (g_s g_z))))))))))))))) (by kernel_rfl) (by kernel_rfl) (by kernel_rfl) (fun _ _ _ h => h) (Or.inl ⟨by rfl, ?_⟩) hHeld ?_; rotate_left; (focus (intro w hSw; (try dsimp only at hSw); go_simp; try (first | (with_reducible rfl) | (rw [if_neg (by (try simp only [ByteArray.size_append]); omega)])))); try simp only [Act.put, List.setIfInBounds_toArray, List.set_cons_zero, List.set_cons_succ, hK0, hM0, hkm0]); (refine wpAnyH_take (i := 15) (v := ?_) (arr_get (g_s (g_s (g_s (g_s (g_s (g_s (g_s (g_s (g_s (g_s (g_s (g_s (g_s (g_s (g_s g_z)))))))))))))))) (by kernel_rfl) (by kernel_rfl) (by kernel_rfl) (fun _ _ _ h => h) (Or.inl ⟨by rfl, ?_⟩) hHeld ?_; rotate_left; (focus (intro w hSw; (try dsimp only at hSw); go_simp; try (first | (with_reducible rfl) | (rw [if_neg (by (try simp only [ByteArray.size_append]); omega)])))); try simp only [Act.put, List.setIfInBounds_toArray, List.set_cons_zero, List.set_cons_succ, hK0, hM0, hkm0]); (refine wpAnyH_take (i := 16) (v := ?_) (arr_get (g_s (g_s (g_s (g_s (g_s (g_s (g_s (g_s (g_s (g_s (g_s (g_s (g_s (g_s (g_s (g_s g_z))))))))))))))))) (by kernel_rfl) (by kernel_rfl) (by kernel_rfl) (fun _ _ _ h => h) (Or.inl ⟨by rfl, ?_⟩) hHeld ?_; rotate_left; (focus (intro w hSw; (try dsimp only at hSw); go_simp; try (first | (with_reducible rfl) | (rw [if_neg (by (try simp only [ByteArray.size_append]); omega)])))); try simp only [Act.put, List.setIfInBounds_toArray, List.set_cons_zero, List.set_cons_succ, hK0, hM0, hkm0]); (refine wpAnyH_take (i := 17) (v := ?_) (arr_get (g_s (g_s (g_s (g_s (g_s (g_s (g_s (g_s (g_s (g_s (g_s (g_s (g_s (g_s (g_s (g_s (g_s g_z)))))))))))))))))) (by kernel_rfl) (by kernel_rfl) (by kernel_rfl) (fun _ _ _ h => h) (Or.inl ⟨by rfl, ?_⟩) hHeld ?_; rotate_left; (focus (intro w hSw; (try dsimp only at hSw); go_simp; try (first | (with_reducible rfl) | (rw [if_neg (by (try simp only [ByteArray.size_append]); omega)])))); try simp only [Act.put, List.setIfInBounds_toArray, List.set_cons_zero, List.set_cons_succ, hK0, hM0, hkm0]); (refine wpAnyH_ready (rs := [18]) (by kernel_rfl) (by simp) ?_); (refine AllReadyH.cons (i := 18) (arr_get (g_s (g_s (g_s (g_s (g_s (g_s (g_s (g_s (g_s (g_s (g_s (g_s (g_s (g_s (g_s (g_s (g_s (g_s g_z))))))))))))))))))) (fun K hK => ?_) AllReadyH.nil); (go_simp); ((go_at_call 40; refine (inside_c n 1 8 _).mono ?_; rw [hs]; rintro e w3 ⟨rfl, hw3⟩; have hb1 : Below w2.heap.size w2 w3 := (by rw [hw3]; exact Below.refl _ _); clear hw3)); (try (go_wp2_with fail)); (refine hK.out _ _ (by (try dsimp only); (go_split_ands; refine ⟨?_, ?_⟩ <;> (rw [hb1.cell (by first | assumption | (simp; omega))]; assumption))) (fun hHeld2 => ?_)); (clear hHeld hK); (clear K); (have hHeld := hHeld2); (clear hHeld2); (try simp only [Act.put, List.setIfInBounds_toArray, List.set_cons_zero, List.set_cons_succ, hK0, hM0, hkm0]); (refine wpAnyH_take (i := 19) (v := ?_) (arr_get (g_s (g_s (g_s (g_s (g_s (g_s (g_s (g_s (g_s (g_s (g_s (g_s (g_s (g_s (g_s (g_s (g_s (g_s (g_s g_z)))))))))))))))))))) (by kernel_rfl) (by kernel_rfl) (by kernel_rfl) (fun _ _ _ h => h) (Or.inl ⟨by rfl, ?_⟩) hHeld ?_; rotate_left; (focus (intro w hSw; (try dsimp only at hSw); go_simp; try (first | (with_reducible rfl) | (rw [if_neg (by (try simp only [ByteArray.size_append]); omega)])))); try simp only [Act.put, List.setIfInBounds_toArray, List.set_cons_zero, List.set_cons_succ, hK0, hM0, hkm0]); (refine wpAnyH_take (i := 20) (v := ?_) (arr_get (g_s (g_s (g_s (g_s (g_s (g_s (g_s (g_s (g_s (g_s (g_s (g_s (g_s (g_s (g_s (g_s (g_s (g_s (g_s (g_s g_z))))))))))))))))))))) (by kernel_rfl) (by kernel_rfl) (by kernel_rfl) (fun _ _ _ h => h) (Or.inl ⟨by rfl, ?_⟩) hHeld ?_; rotate_left; (focus (intro w hSw; (try dsimp only at hSw); go_simp; try (first | (with_reducible rfl) | (rw [if_neg (by (try simp only [ByteArray.size_append]); omega)])))); try simp only [Act.put, List.setIfInBounds_toArray, List.set_cons_zero, List.set_cons_succ, hK0, hM0, hkm0]); (refine wpAnyH_take (i := 21) (v := ?_) (arr_get (g_s (g_s (g_s (g_s (g_s (g_s (g_s (g_s (g_s (g_s (g_s (g_s (g_s (g_s (g_s (g_s (g_s (g_s (g_s (g_s (g_s g_z)))))))))))))))))))))) (by kernel_rfl) (by kernel_rfl) (by kernel_rfl) (fun _ _ _ h => h) (Or.inl ⟨by rfl, ?_⟩) hHeld ?_; rotate_left; (focus (intro w hSw; (try dsimp only at hSw); go_simp; try (first | (with_reducible rfl) | (rw [if_neg (by (try simp only [ByteArray.size_append]); omega)])))); try simp only [Act.put, List.setIfInBounds_toArray, List.set_cons_zero, List.set_cons_succ, hK0, hM0, hkm0]); (refine wpAnyH_take (i := 22) (v := ?_) (arr_get (g_s (g_s (g_s (g_s (g_s (g_s (g_s (g_s (g_s (g_s (g_s (g_s (g_s (g_s (g_s (g_s (g_s (g_s (g_s (g_s (g_s (g_s g_z))))))))))))))))))))))) (by kernel_rfl) (by kernel_rfl) (by kernel_rfl) (fun _ _ _ h => h) (Or.inl ⟨by rfl, ?_⟩) hHeld ?_; rotate_left; (focus (intro w hSw; (try dsimp only at hSw); go_simp; try (first | (with_reducible rfl) | (rw [if_neg (by (try simp only [ByteArray.size_append]); omega)])))); try simp only [Act.put, List.setIfInBounds_toArray, List.set_cons_zero, List.set_cons_succ, hK0, hM0, hkm0]); (refine wpAnyH_take (i := 23) (v := ?_) (arr_get (g_s (g_s (g_s (g_s (g_s (g_s (g_s (g_s (g_s (g_s (g_s (g_s (g_s (g_s (g_s (g_s (g_s (g_s (g_s (g_s (g_s (g_s (g_s g_z)))))))))))))))))))))))) (by kernel_rfl) (by kernel_rfl) (by kernel_rfl) (fun _ _ _ h => h) (Or.inl ⟨by rfl, ?_⟩) hHeld ?_; rotate_left; (focus (intro w hSw; (try dsimp only at hSw); go_simp; try (first | (with_reducible rfl) | (rw [if_neg (by (try simp only [ByteArray.size_append]); omega)])))); try simp only [Act.put, List.setIfInBounds_toArray, List.set_cons_zero, List.set_cons_succ, hK0, hM0, hkm0]); (refine wpAnyH_take (i := 24) (v := ?_) (arr_get (g_s (g_s (g_s (g_s (g_s (g_s (g_s (g_s (g_s (g_s (g_s (g_s (g_s (g_s (g_s (g_s (g_s (g_s (g_s (g_s (g_s (g_s (g_s (g_s g_z))))))))))))))))))))))))) (by kernel_rfl) (by kernel_rfl) (by kernel_rfl) (fun _ _ _ h => h) (Or.inl ⟨by rfl, ?_⟩) hHeld ?_; rotate_left; (focus (intro w hSw; (try dsimp only at hSw); go_simp; try (first | (with_reducible rfl) | (rw [if_neg (by (try simp only [ByteArray.size_append]); omega)])))); try simp only [Act.put, List.setIfInBounds_toArray, List.set_cons_zero, List.set_cons_succ, hK0, hM0, hkm0]); (refine wpAnyH_take (i := 25) (v := ?_) (arr_get (g_s (g_s (g_s (g_s (g_s (g_s (g_s (g_s (g_s (g_s (g_s (g_s (g_s (g_s (g_s (g_s (g_s (g_s (g_s (g_s (g_s (g_s (g_s (g_s (g_s g_z)))))))))))))))))))))))))) (by kernel_rfl) (by kernel_rfl) (by kernel_rfl) (fun _ _ _ h => h) (Or.inl ⟨by rfl, ?_⟩) hHeld ?_; rotate_left; (focus (intro w hSw; (try dsimp only at hSw); go_simp; try (first | (with_reducible rfl) | (rw [if_neg (by (try simp only [ByteArray.size_append]); omega)])))); try simp only [Act.put, List.setIfInBounds_toArray, List.set_cons_zero, List.set_cons_succ, hK0, hM0, hkm0]); (refine wpAnyH_take (i := 26) (v := ?_) (arr_get (g_s (g_s (g_s (g_s (g_s (g_s (g_s (g_s (g_s (g_s (g_s (g_s (g_s (g_s (g_s (g_s (g_s (g_s (g_s (g_s (g_s (g_s (g_s (g_s (g_s (g_s g_z))))))))))))))))))))))))))) (by kernel_rfl) (by kernel_rfl) (by kernel_rfl) (fun _ _ _ h => h) (Or.inl ⟨by rfl, ?_⟩) hHeld ?_; rotate_left; (focus (intro w hSw; (try dsimp only at hSw); go_simp; try (first | (with_reducible rfl) | (rw [if_neg (by (try simp only [ByteArray.size_append]); omega)])))); try simp only [Act.put, List.setIfInBounds_toArray, List.set_cons_zero, List.set_cons_succ, hK0, hM0, hkm0]); (refine wpAnyH_take (i := 27) (v := ?_) (arr_get (g_s (g_s (g_s (g_s (g_s (g_s (g_s (g_s (g_s (g_s (g_s (g_s (g_s (g_s (g_s (g_s (g_s (g_s (g_s (g_s (g_s (g_s (g_s (g_s (g_s (g_s (g_s g_z)))))))))))))))))))))))))))) (by kernel_rfl) (by kernel_rfl) (by kernel_rfl) (fun _ _ _ h => h) (Or.inl ⟨by rfl, ?_⟩) hHeld ?_; rotate_left; (focus (intro w hSw; (try dsimp only at hSw); go_simp; try (first | (with_reducible rfl) | (rw [if_neg (by (try simp only [ByteArray.size_append]); omega)])))); try simp only [Act.put, List.setIfInBounds_toArray, List.set_cons_zero, List.set_cons_succ, hK0, hM0, hkm0]); (refine wpAnyH_take (i := 28) (v := ?_) (arr_get (g_s (g_s (g_s (g_s (g_s (g_s (g_s (g_s (g_s (g_s (g_s (g_s (g_s (g_s (g_s (g_s (g_s (g_s (g_s (g_s (g_s (g_s (g_s (g_s (g_s (g_s (g_s (g_s g_z))))))))))))))))))))))))))))) (by kernel_rfl) (by kernel_rfl) (by kernel_rfl) (fun _ _ _ h => h) (Or.inl ⟨by rfl, ?_⟩) hHeld ?_; rotate_left; (focus (intro w hSw; (try dsimp only at hSw); go_simp; try (first | (with_reducible rfl) | (rw [if_neg (by (try simp only [ByteArray.size_append]); omega)])))); try simp only [Act.put, List.setIfInBounds_toArray, List.set_cons_zero, List.set_cons_succ, hK0, hM0, hkm0]); (refine wpAnyH_take (i := 29) (v := ?_) (arr_get (g_s (g_s (g_s (g_s (g_s (g_s (g_s (g_s (g_s (g_s (g_s (g_s (g_s (g_s (g_s (g_s (g_s (g_s (g_s (g_s (g_s (g_s (g_s (g_s (g_s (g_s (g_s (g_s (g_s g_z)))))))))))))))))))))))))))))) (by kernel_rfl) (by kernel_rfl) (by kernel_rfl) (fun _ _ _ h => h) (Or.inl ⟨by rfl, ?_⟩) hHeld ?_; rotate_left; (focus (intro w hSw; (try dsimp only at hSw); go_simp; try (first | (with_reducible rfl) | (rw [if_neg (by (try simp only [ByteArray.size_append]); omega)])))); try simp only [Act.put, List.setIfInBounds_toArray, List.set_cons_zero, List.set_cons_succ, hK0, hM0, hkm0]); (refine wpAnyH_take (i := 30) (v := ?_) (arr_get (g_s (g_s (g_s (g_s (g_s (g_s (g_s (g_s (g_s (g_s (g_s (g_s (g_s (g_s (g_s (g_s (g_s (g_s (g_s (g_s (g_s (g_s (g_s (g_s (g_s (g_s (g_s (g_s (g_s (g_s g_z))))))))))))))))))))))))))))))) (by kernel_rfl) (by kernel_rfl) (by kernel_rfl) (fun _ _ _ h => h) (Or.inl ⟨by rfl, ?_⟩) hHeld ?_; rotate_left; (focus (intro w hSw; (try dsimp only at hSw); go_simp; try (first | (with_reducible rfl) | (rw [if_neg (by (try simp only [ByteArray.size_append]); omega)])))); try simp only [Act.put, List.setIfInBounds_toArray, List.set_cons_zero, List.set_cons_succ, hK0, hM0, hkm0]); (refine wpAnyH_take (i := 31) (v := ?_) (arr_get (g_s (g_s (g_s (g_s (g_s (g_s (g_s (g_s (g_s (g_s (g_s (g_s (g_s (g_s (g_s (g_s (g_s (g_s (g_s (g_s (g_s (g_s (g_s (g_s (g_s (g_s (g_s (g_s (g_s (g_s (g_s g_z)))))))))))))))))))))))))))))))) (by kernel_rfl) (by kernel_rfl) (by kernel_rfl) (fun _ _ _ h => h) (Or.inl ⟨by rfl, ?_⟩) hHeld ?_; rotate_left; (focus (intro w hSw; (try dsimp only at hSw); go_simp; try (first | (with_reducible rfl) | (rw [if_neg (by (try simp only [ByteArray.size_append]); omega)])))); try simp only [Act.put, List.setIfInBounds_toArray, List.set_cons_zero, List.set_cons_succ, hK0, hM0, hkm0]); (refine wpAnyH_take (i := 32) (v := ?_) (arr_get (g_s (g_s (g_s (g_s (g_s (g_s (g_s (g_s (g_s (g_s (g_s (g_s (g_s (g_s (g_s (g_s (g_s (g_s (g_s (g_s (g_s (g_s (g_s (g_s (g_s (g_s (g_s (g_s (g_s (g_s (g_s (g_s g_z))))))))))))))))))))))))))))))))) (by kernel_rfl) (by kernel_rfl) (by kernel_rfl) (fun _ _ _ h => h) (Or.inl ⟨by rfl, ?_⟩) hHeld ?_; rotate_left; (focus (intro w hSw; (try dsimp only at hSw); go_simp; try (first | (with_reducible rfl) | (rw [if_neg (by (try simp only [ByteArray.size_append]); omega)])))); try simp only [Act.put, List.setIfInBounds_toArray, List.set_cons_zero, List.set_cons_succ, hK0, hM0, hkm0]); (refine wpAnyH_take (i := 33) (v := ?_) (arr_get (g_s (g_s (g_s (g_s (g_s (g_s (g_s (g_s (g_s (g_s (g_s (g_s (g_s (g_s (g_s (g_s (g_s (g_s (g_s (g_s (g_s (g_s (g_s (g_s (g_s (g_s (g_s (g_s (g_s (g_s (g_s (g_s (g_s g_z)))))))))))))))))))))))))))))))))) (by kernel_rfl) (by kernel_rfl) (by kernel_rfl) (fun _ _ _ h => h) (Or.inl ⟨by rfl, ?_⟩) hHeld ?_; rotate_left; (focus (intro w hSw; (try dsimp only at hSw); go_simp; try (first | (with_reducible rfl) | (rw [if_neg (by (try simp only [ByteArray.size_append]); omega)])))); try simp only [Act.put, List.setIfInBounds_toArray, List.set_cons_zero, List.set_cons_succ, hK0, hM0, hkm0]); (refine wpAnyH_done (by kernel_rfl) ?_ _))
              have HB2 := Lib.hid (bel_then (bel_then (bel_dr HB1.out) hb0) hb1)
              have HG := Lib.hid hg
              clear hb1 hb0 hg hHeld d2 e2
              go_wp2_with fail
              refine (cloneA_c _ f _ (rd_below HR.out HB2.out) (by omega)).mono ?_; rintro e w6 ⟨vc, rfl, hc, hb⟩
              have HB6 := Lib.hid (bel_then HB2.out hb)
              have hsz := HB2.out.size
              clear hb
              obtain ⟨gc, cc, rfl, hgc, hgcA, _, _⟩ := own_shape hc (by omega)
              have c1 : w6.cell? ⟨gc, i * 5 + 3, none⟩ = some (.int .i64 cr) := (hc.cellAt (i * 5 + 3) (by omega)).trans (flat_get Ap.cells_len _ i _ HA.out 3 (by omega))
              have f1 := hc.frozenAt (i * 5 + 3)
              have hst := (hc.stored (i * 5 + 3) (.int .i64 (cr - n))).1
              rw [put_one (b := crAp ⟨nm0, kd, nd, cr, sv⟩ (cr - n)) HA.out (by omega) rfl] at hst
              have hk2 : (f.set i (crAp ⟨nm0, kd, nd, cr, sv⟩ (cr - n)))[k]? = some ⟨nm1, kd', nd, cr', sv'⟩ := by rw [List.getElem?_set_ne hik]; exact HA'.out
              have c2 : (w6.setCell ⟨gc, i * 5 + 3, none⟩ (.int .i64 (cr - n))).cell? ⟨gc, k * 5 + 3, none⟩ = some (.int .i64 cr') := (hst.cellAt (k * 5 + 3) (by omega)).trans (flat_get Ap.cells_len _ k _ hk2 3 (by omega))
              have f2 := hst.frozenAt (k * 5 + 3)
              have hst2 := (hst.stored (k * 5 + 3) (.int .i64 (cr' + n))).1
              rw [put_one (b := crAp ⟨nm1, kd', nd, cr', sv'⟩ (cr' + n)) hk2 (by omega) rfl] at hst2
              have hbb : Below w.heap.size w ((w6.setCell ⟨gc, i * 5 + 3, none⟩ (.int .i64 (cr - n))).setCell ⟨gc, k * 5 + 3, none⟩ (.int .i64 (cr' + n))) := Below.setCell (p := ⟨gc, k * 5 + 3, none⟩) (Below.setCell (p := ⟨gc, i * 5 + 3, none⟩) HB6.out (by show w.heap.size ≤ gc; omega) _) (by show w.heap.size ≤ gc; omega) _
              have HBB := Lib.hid hbb
              have HO := Lib.hid hst2
              have hln : ((f.set i (crAp ⟨nm0, kd, nd, cr, sv⟩ (cr - n))).set k (crAp ⟨nm1, kd', nd, cr', sv'⟩ (cr' + n))).length = f.length := by rw [List.length_set, List.length_set]
              have HLN := Lib.hid hln
              have HZ2 : Hid (∀ x ∈ shF i k ⟨nm0, kd, nd, cr, sv⟩ ⟨nm1, kd', nd, cr', sv'⟩ n f, x.nm.size ≤ 9223372036854775807) := Lib.hid (shF_nm HZ.out HA.out HA'.out)
              have t0 : -9223372036854775808 ≤ cr - n := by omega
              have t1 : cr - n ≤ 9223372036854775807 := by omega
              have t2 : cr' + n ≤ 9223372036854775807 := by omega
              clear hc hst hst2 hk2 hbb hln
              go_wp2_with fail
              refine (isFleet_c _ (shF i k ⟨nm0, kd, nd, cr, sv⟩ ⟨nm1, kd', nd, cr', sv'⟩ n f) _ HZ2.out (by have h := own_rd HO.out; unfold shF; rw [HLN.out]; exact h)).mono ?_; rintro e w7 ⟨rfl, hb⟩
              have HB7 := Lib.hid (bel_then HBB.out hb)
              have HO7 := Lib.hid (own_below HO.out hb)
              clear hb c1 f1 c2 f2
              cases hgf : goodFl (shF i k ⟨nm0, kd, nd, cr, sv⟩ ⟨nm1, kd', nd, cr', sv'⟩ n f) with
              | false =>
                have HGF := Lib.hid hgf
                clear hgf
                go_wp2
                go_ret2
                exact flR_no (shV_no7 HK.out HA.out HM.out HA'.out HGF.out) HB7.out
              | true =>
                have HGF := Lib.hid hgf
                clear hgf
                go_wp2
                go_ret2
                exact flR_own HO7.out HLN.out (shV_yes HG.out HK.out HA.out HM.out HA'.out hik hs rfl HGF.out) HB7.out
            · have hne : (nd != nd') = true := by simp [hnd]
              ((refine wp_region_held_drew (S := fun w' => w'.cell? ⟨b, off + i * 5 + 2, none⟩ = some (.int .i64 nd) ∧ w'.cell? ⟨b, off + k * 5 + 2, none⟩ = some (.int .i64 nd')) (by kernel_rfl) (by (try dsimp only); first | go_keep | (go_split_ands; refine ⟨?_, ?_⟩ <;> assumption)) (fun hHeld => ?_)); (refine wpAnyH_take (i := 0) (v := ?_) (arr_get g_z) (by kernel_rfl) (by kernel_rfl) (by kernel_rfl) (fun _ _ _ h => h) (Or.inl ⟨by rfl, ?_⟩) hHeld ?_; rotate_left; (focus (intro w hSw; (try dsimp only at hSw); go_simp; try (first | (with_reducible rfl) | (rw [if_neg (by (try simp only [ByteArray.size_append]); omega)])))); try simp only [Act.put, List.setIfInBounds_toArray, List.set_cons_zero, List.set_cons_succ, hK0, hM0, hkm0]); (refine wpAnyH_ready (rs := [1]) (by kernel_rfl) (by simp) ?_); (refine AllReadyH.cons (i := 1) (arr_get (g_s g_z)) (fun K hK => ?_) AllReadyH.nil); (go_simp); ((go_at_call 29; refine (isFleet_c _ f _ HZ.out (rd_below HR.out (bel_dr HB1.out))).mono ?_; rw [hg]; rintro e w2 ⟨rfl, hb1⟩; have hb0 := hb1; have hs2 : w1.heap.size ≤ w2.heap.size := hb1.size)); (try (go_wp2_with fail)); (refine hK.out _ _ (by (try dsimp only); (go_split_ands; refine ⟨?_, ?_⟩ <;> (rw [hb1.cell (by first | assumption | (simp; omega))]; assumption))) (fun hHeld2 => ?_)); (clear hHeld hK); (clear K); (have hHeld := hHeld2); (clear hHeld2); (try simp only [Act.put, List.setIfInBounds_toArray, List.set_cons_zero, List.set_cons_succ, hK0, hM0, hkm0]); (refine wpAnyH_take (i := 2) (v := ?_) (arr_get (g_s (g_s g_z))) (by kernel_rfl) (by kernel_rfl) (by kernel_rfl) (fun _ _ _ h => h) (Or.inl ⟨by rfl, ?_⟩) hHeld ?_; rotate_left; (focus (intro w hSw; (try dsimp only at hSw); go_simp; try (first | (with_reducible rfl) | (rw [if_neg (by (try simp only [ByteArray.size_append]); omega)])))); try simp only [Act.put, List.setIfInBounds_toArray, List.set_cons_zero, List.set_cons_succ, hK0, hM0, hkm0]); (refine wpAnyH_take (i := 3) (v := ?_) (arr_get (g_s (g_s (g_s g_z)))) (by kernel_rfl) (by kernel_rfl) (by kernel_rfl) (fun _ _ _ h => h) (Or.inl ⟨by rfl, ?_⟩) hHeld ?_; rotate_left; (focus (intro w hSw; (try dsimp only at hSw); go_simp; try (first | (with_reducible rfl) | (rw [if_neg (by (try simp only [ByteArray.size_append]); omega)])))); try simp only [Act.put, List.setIfInBounds_toArray, List.set_cons_zero, List.set_cons_succ, hK0, hM0, hkm0]); (refine wpAnyH_take (i := 4) (v := ?_) (arr_get (g_s (g_s (g_s (g_s g_z))))) (by kernel_rfl) (by kernel_rfl) (by kernel_rfl) (fun _ _ _ h => h) (Or.inl ⟨by rfl, ?_⟩) hHeld ?_; rotate_left; (focus (intro w hSw; (try dsimp only at hSw); go_simp; try (first | (with_reducible rfl) | (rw [if_neg (by (try simp only [ByteArray.size_append]); omega)])))); try simp only [Act.put, List.setIfInBounds_toArray, List.set_cons_zero, List.set_cons_succ, hK0, hM0, hkm0]); (refine wpAnyH_take (i := 5) (v := ?_) (arr_get (g_s (g_s (g_s (g_s (g_s g_z)))))) (by kernel_rfl) (by kernel_rfl) (by kernel_rfl) (fun _ _ _ h => h) (Or.inl ⟨by rfl, ?_⟩) hHeld ?_; rotate_left; (focus (intro w hSw; (try dsimp only at hSw); go_simp; try (first | (with_reducible rfl) | (rw [if_neg (by (try simp only [ByteArray.size_append]); omega)])))); try simp only [Act.put, List.setIfInBounds_toArray, List.set_cons_zero, List.set_cons_succ, hK0, hM0, hkm0]); (refine wpAnyH_take (i := 6) (v := ?_) (arr_get (g_s (g_s (g_s (g_s (g_s (g_s g_z))))))) (by kernel_rfl) (by kernel_rfl) (by kernel_rfl) (fun _ _ _ h => h) (Or.inl ⟨by rfl, ?_⟩) hHeld ?_; rotate_left; (focus (intro w hSw; (try dsimp only at hSw); go_simp; try (first | (with_reducible rfl) | (rw [if_neg (by (try simp only [ByteArray.size_append]); omega)])))); try simp only [Act.put, List.setIfInBounds_toArray, List.set_cons_zero, List.set_cons_succ, hK0, hM0, hkm0]); (refine wpAnyH_take (i := 7) (v := ?_) (arr_get (g_s (g_s (g_s (g_s (g_s (g_s (g_s g_z)))))))) (by kernel_rfl) (by kernel_rfl) (by kernel_rfl) (fun _ _ _ h => h) (Or.inl ⟨by rfl, ?_⟩) hHeld ?_; rotate_left; (focus (intro w hSw; (try dsimp only at hSw); go_simp; try (first | (with_reducible rfl) | (rw [if_neg (by (try simp only [ByteArray.size_append]); omega)])))); try simp only [Act.put, List.setIfInBounds_toArray, List.set_cons_zero, List.set_cons_succ, hK0, hM0, hkm0]); (refine wpAnyH_take (i := 8) (v := ?_) (arr_get (g_s (g_s (g_s (g_s (g_s (g_s (g_s (g_s g_z))))))))) (by kernel_rfl) (by kernel_rfl) (by kernel_rfl) (fun _ _ _ h => h) (Or.inl ⟨by rfl, ?_⟩) hHeld ?_; rotate_left; (focus (intro w hSw; (try dsimp only at hSw); go_simp; try (first | (with_reducible rfl) | (rw [if_neg (by (try simp only [ByteArray.size_append]); omega)])))); try simp only [Act.put, List.setIfInBounds_toArray, List.set_cons_zero, List.set_cons_succ, hK0, hM0, hkm0]); (refine wpAnyH_take (i := 9) (v := ?_) (arr_get (g_s (g_s (g_s (g_s (g_s (g_s (g_s (g_s (g_s g_z)))))))))) (by kernel_rfl) (by kernel_rfl) (by kernel_rfl) (fun _ _ _ h => h) (Or.inl ⟨by rfl, ?_⟩) hHeld ?_; rotate_left; (focus (intro w hSw; (try dsimp only at hSw); go_simp; try (first | (with_reducible rfl) | (rw [if_neg (by (try simp only [ByteArray.size_append]); omega)])))); try simp only [Act.put, List.setIfInBounds_toArray, List.set_cons_zero, List.set_cons_succ, hK0, hM0, hkm0]); (refine wpAnyH_take (i := 10) (v := ?_) (arr_get (g_s (g_s (g_s (g_s (g_s (g_s (g_s (g_s (g_s (g_s g_z))))))))))) (by kernel_rfl) (by kernel_rfl) (by kernel_rfl) (fun _ _ _ h => h) (Or.inl ⟨by rfl, ?_⟩) hHeld ?_; rotate_left; (focus (intro w hSw; (try dsimp only at hSw); go_simp; try (first | (with_reducible rfl) | (rw [if_neg (by (try simp only [ByteArray.size_append]); omega)])))); try simp only [Act.put, List.setIfInBounds_toArray, List.set_cons_zero, List.set_cons_succ, hK0, hM0, hkm0]); (refine wpAnyH_take (i := 11) (v := ?_) (arr_get (g_s (g_s (g_s (g_s (g_s (g_s (g_s (g_s (g_s (g_s (g_s g_z)))))))))))) (by kernel_rfl) (by kernel_rfl) (by kernel_rfl) (fun _ _ _ h => h) (Or.inl ⟨by rfl, ?_⟩) hHeld ?_; rotate_left; (focus (intro w hSw; (try dsimp only at hSw); go_simp; try (first | (with_reducible rfl) | (rw [if_neg (by (try simp only [ByteArray.size_append]); omega)])))); try simp only [Act.put, List.setIfInBounds_toArray, List.set_cons_zero, List.set_cons_succ, hK0, hM0, hkm0]); (refine wpAnyH_take (i := 12) (v := ?_) (arr_get (g_s (g_s (g_s (g_s (g_s (g_s (g_s (g_s (g_s (g_s (g_s (g_s g_z))))))))))))) (by kernel_rfl) (by kernel_rfl) (by kernel_rfl) (fun _ _ _ h => h) (Or.inl ⟨by rfl, ?_⟩) hHeld ?_; rotate_left; (focus (intro w hSw; (try dsimp only at hSw); go_simp; try (first | (with_reducible rfl) | (rw [if_neg (by (try simp only [ByteArray.size_append]); omega)])))); try simp only [Act.put, List.setIfInBounds_toArray, List.set_cons_zero, List.set_cons_succ, hK0, hM0, hkm0]); (refine wpAnyH_take (i := 13) (v := ?_) (arr_get (g_s (g_s (g_s (g_s (g_s (g_s (g_s (g_s (g_s (g_s (g_s (g_s (g_s g_z)))))))))))))) (by kernel_rfl) (by kernel_rfl) (by kernel_rfl) (fun _ _ _ h => h) (Or.inl ⟨by rfl, ?_⟩) hHeld ?_; rotate_left; (focus (intro w hSw; (try dsimp only at hSw); go_simp; try (first | (with_reducible rfl) | (rw [if_neg (by (try simp only [ByteArray.size_append]); omega)])))); try simp only [Act.put, List.setIfInBounds_toArray, List.set_cons_zero, List.set_cons_succ, hK0, hM0, hkm0]); (refine wpAnyH_take (i := 14) (v := ?_) (arr_get (g_s (g_s (g_s (g_s (g_s (g_s (g_s (g_s (g_s (g_s (g_s (g_s (g_s (g_s g_z))))))))))))))) (by kernel_rfl) (by kernel_rfl) (by kernel_rfl) (fun _ _ _ h => h) (Or.inl ⟨by rfl, ?_⟩) hHeld ?_; rotate_left; (focus (intro w hSw; (try dsimp only at hSw); go_simp; try (first | (with_reducible rfl) | (rw [if_neg (by (try simp only [ByteArray.size_append]); omega)])))); try simp only [Act.put, List.setIfInBounds_toArray, List.set_cons_zero, List.set_cons_succ, hK0, hM0, hkm0]); (refine wpAnyH_take (i := 15) (v := ?_) (arr_get (g_s (g_s (g_s (g_s (g_s (g_s (g_s (g_s (g_s (g_s (g_s (g_s (g_s (g_s (g_s g_z)))))))))))))))) (by kernel_rfl) (by kernel_rfl) (by kernel_rfl) (fun _ _ _ h => h) (Or.inl ⟨by rfl, ?_⟩) hHeld ?_; rotate_left; (focus (intro w hSw; (try dsimp only at hSw); go_simp; try (first | (with_reducible rfl) | (rw [if_neg (by (try simp only [ByteArray.size_append]); omega)])))); try simp only [Act.put, List.setIfInBounds_toArray, List.set_cons_zero, List.set_cons_succ, hK0, hM0, hkm0]); (refine wpAnyH_take (i := 16) (v := ?_) (arr_get (g_s (g_s (g_s (g_s (g_s (g_s (g_s (g_s (g_s (g_s (g_s (g_s (g_s (g_s (g_s (g_s g_z))))))))))))))))) (by kernel_rfl) (by kernel_rfl) (by kernel_rfl) (fun _ _ _ h => h) (Or.inl ⟨by rfl, ?_⟩) hHeld ?_; rotate_left; (focus (intro w hSw; (try dsimp only at hSw); go_simp; try (first | (with_reducible rfl) | (rw [if_neg (by (try simp only [ByteArray.size_append]); omega)])))); try simp only [Act.put, List.setIfInBounds_toArray, List.set_cons_zero, List.set_cons_succ, hK0, hM0, hkm0]); (refine wpAnyH_take (i := 17) (v := ?_) (arr_get (g_s (g_s (g_s (g_s (g_s (g_s (g_s (g_s (g_s (g_s (g_s (g_s (g_s (g_s (g_s (g_s (g_s g_z)))))))))))))))))) (by kernel_rfl) (by kernel_rfl) (by kernel_rfl) (fun _ _ _ h => h) (Or.inl ⟨by rfl, ?_⟩) hHeld ?_; rotate_left; (focus (intro w hSw; (try dsimp only at hSw); go_simp; try (first | (with_reducible rfl) | (rw [if_neg (by (try simp only [ByteArray.size_append]); omega)])))); try simp only [Act.put, List.setIfInBounds_toArray, List.set_cons_zero, List.set_cons_succ, hK0, hM0, hkm0]); (refine wpAnyH_ready (rs := [18]) (by kernel_rfl) (by simp) ?_); (refine AllReadyH.cons (i := 18) (arr_get (g_s (g_s (g_s (g_s (g_s (g_s (g_s (g_s (g_s (g_s (g_s (g_s (g_s (g_s (g_s (g_s (g_s (g_s g_z))))))))))))))))))) (fun K hK => ?_) AllReadyH.nil); (go_simp); ((go_at_call 40; refine (inside_c n 1 8 _).mono ?_; rw [hs]; rintro e w3 ⟨rfl, hw3⟩; have hb1 : Below w2.heap.size w2 w3 := (by rw [hw3]; exact Below.refl _ _); clear hw3)); (try (go_wp2_with fail)); (refine hK.out _ _ (by (try dsimp only); (go_split_ands; refine ⟨?_, ?_⟩ <;> (rw [hb1.cell (by first | assumption | (simp; omega))]; assumption))) (fun hHeld2 => ?_)); (clear hHeld hK); (clear K); (have hHeld := hHeld2); (clear hHeld2); (try simp only [Act.put, List.setIfInBounds_toArray, List.set_cons_zero, List.set_cons_succ, hK0, hM0, hkm0]); (refine wpAnyH_take (i := 19) (v := ?_) (arr_get (g_s (g_s (g_s (g_s (g_s (g_s (g_s (g_s (g_s (g_s (g_s (g_s (g_s (g_s (g_s (g_s (g_s (g_s (g_s g_z)))))))))))))))))))) (by kernel_rfl) (by kernel_rfl) (by kernel_rfl) (fun _ _ _ h => h) (Or.inl ⟨by rfl, ?_⟩) hHeld ?_; rotate_left; (focus (intro w hSw; (try dsimp only at hSw); go_simp; try (first | (with_reducible rfl) | (rw [if_neg (by (try simp only [ByteArray.size_append]); omega)])))); try simp only [Act.put, List.setIfInBounds_toArray, List.set_cons_zero, List.set_cons_succ, hK0, hM0, hkm0]); (refine wpAnyH_take (i := 20) (v := ?_) (arr_get (g_s (g_s (g_s (g_s (g_s (g_s (g_s (g_s (g_s (g_s (g_s (g_s (g_s (g_s (g_s (g_s (g_s (g_s (g_s (g_s g_z))))))))))))))))))))) (by kernel_rfl) (by kernel_rfl) (by kernel_rfl) (fun _ _ _ h => h) (Or.inl ⟨by rfl, ?_⟩) hHeld ?_; rotate_left; (focus (intro w hSw; (try dsimp only at hSw); go_simp; try (first | (with_reducible rfl) | (rw [if_neg (by (try simp only [ByteArray.size_append]); omega)])))); try simp only [Act.put, List.setIfInBounds_toArray, List.set_cons_zero, List.set_cons_succ, hK0, hM0, hkm0]); (refine wpAnyH_take (i := 21) (v := ?_) (arr_get (g_s (g_s (g_s (g_s (g_s (g_s (g_s (g_s (g_s (g_s (g_s (g_s (g_s (g_s (g_s (g_s (g_s (g_s (g_s (g_s (g_s g_z)))))))))))))))))))))) (by kernel_rfl) (by kernel_rfl) (by kernel_rfl) (fun _ _ _ h => h) (Or.inl ⟨by rfl, ?_⟩) hHeld ?_; rotate_left; (focus (intro w hSw; (try dsimp only at hSw); go_simp; try (first | (with_reducible rfl) | (rw [if_neg (by (try simp only [ByteArray.size_append]); omega)])))); try simp only [Act.put, List.setIfInBounds_toArray, List.set_cons_zero, List.set_cons_succ, hK0, hM0, hkm0]); (refine wpAnyH_take (i := 22) (v := ?_) (arr_get (g_s (g_s (g_s (g_s (g_s (g_s (g_s (g_s (g_s (g_s (g_s (g_s (g_s (g_s (g_s (g_s (g_s (g_s (g_s (g_s (g_s (g_s g_z))))))))))))))))))))))) (by kernel_rfl) (by kernel_rfl) (by kernel_rfl) (fun _ _ _ h => h) (Or.inl ⟨by rfl, ?_⟩) hHeld ?_; rotate_left; (focus (intro w hSw; (try dsimp only at hSw); go_simp; try (first | (with_reducible rfl) | (rw [if_neg (by (try simp only [ByteArray.size_append]); omega)])))); try simp only [Act.put, List.setIfInBounds_toArray, List.set_cons_zero, List.set_cons_succ, hK0, hM0, hkm0]); (refine wpAnyH_take (i := 23) (v := ?_) (arr_get (g_s (g_s (g_s (g_s (g_s (g_s (g_s (g_s (g_s (g_s (g_s (g_s (g_s (g_s (g_s (g_s (g_s (g_s (g_s (g_s (g_s (g_s (g_s g_z)))))))))))))))))))))))) (by kernel_rfl) (by kernel_rfl) (by kernel_rfl) (fun _ _ _ h => h) (Or.inl ⟨by rfl, ?_⟩) hHeld ?_; rotate_left; (focus (intro w hSw; (try dsimp only at hSw); go_simp; try (first | (with_reducible rfl) | (rw [if_neg (by (try simp only [ByteArray.size_append]); omega)])))); try simp only [Act.put, List.setIfInBounds_toArray, List.set_cons_zero, List.set_cons_succ, hK0, hM0, hkm0]); (refine wpAnyH_take (i := 24) (v := ?_) (arr_get (g_s (g_s (g_s (g_s (g_s (g_s (g_s (g_s (g_s (g_s (g_s (g_s (g_s (g_s (g_s (g_s (g_s (g_s (g_s (g_s (g_s (g_s (g_s (g_s g_z))))))))))))))))))))))))) (by kernel_rfl) (by kernel_rfl) (by kernel_rfl) (fun _ _ _ h => h) (Or.inl ⟨by rfl, ?_⟩) hHeld ?_; rotate_left; (focus (intro w hSw; (try dsimp only at hSw); go_simp; try (first | (with_reducible rfl) | (rw [if_neg (by (try simp only [ByteArray.size_append]); omega)])))); try simp only [Act.put, List.setIfInBounds_toArray, List.set_cons_zero, List.set_cons_succ, hK0, hM0, hkm0]); (refine wpAnyH_take (i := 25) (v := ?_) (arr_get (g_s (g_s (g_s (g_s (g_s (g_s (g_s (g_s (g_s (g_s (g_s (g_s (g_s (g_s (g_s (g_s (g_s (g_s (g_s (g_s (g_s (g_s (g_s (g_s (g_s g_z)))))))))))))))))))))))))) (by kernel_rfl) (by kernel_rfl) (by kernel_rfl) (fun _ _ _ h => h) (Or.inl ⟨by rfl, ?_⟩) hHeld ?_; rotate_left; (focus (intro w hSw; (try dsimp only at hSw); go_simp; try (first | (with_reducible rfl) | (rw [if_neg (by (try simp only [ByteArray.size_append]); omega)])))); try simp only [Act.put, List.setIfInBounds_toArray, List.set_cons_zero, List.set_cons_succ, hK0, hM0, hkm0]); (refine wpAnyH_take (i := 26) (v := ?_) (arr_get (g_s (g_s (g_s (g_s (g_s (g_s (g_s (g_s (g_s (g_s (g_s (g_s (g_s (g_s (g_s (g_s (g_s (g_s (g_s (g_s (g_s (g_s (g_s (g_s (g_s (g_s g_z))))))))))))))))))))))))))) (by kernel_rfl) (by kernel_rfl) (by kernel_rfl) (fun _ _ _ h => h) (Or.inl ⟨by rfl, ?_⟩) hHeld ?_; rotate_left; (focus (intro w hSw; (try dsimp only at hSw); go_simp; try (first | (with_reducible rfl) | (rw [if_neg (by (try simp only [ByteArray.size_append]); omega)])))); try simp only [Act.put, List.setIfInBounds_toArray, List.set_cons_zero, List.set_cons_succ, hK0, hM0, hkm0]); (refine wpAnyH_take (i := 27) (v := ?_) (arr_get (g_s (g_s (g_s (g_s (g_s (g_s (g_s (g_s (g_s (g_s (g_s (g_s (g_s (g_s (g_s (g_s (g_s (g_s (g_s (g_s (g_s (g_s (g_s (g_s (g_s (g_s (g_s g_z)))))))))))))))))))))))))))) (by kernel_rfl) (by kernel_rfl) (by kernel_rfl) (fun _ _ _ h => h) (Or.inl ⟨by rfl, ?_⟩) hHeld ?_; rotate_left; (focus (intro w hSw; (try dsimp only at hSw); go_simp; try (first | (with_reducible rfl) | (rw [if_neg (by (try simp only [ByteArray.size_append]); omega)])))); try simp only [Act.put, List.setIfInBounds_toArray, List.set_cons_zero, List.set_cons_succ, hK0, hM0, hkm0]); (refine wpAnyH_take (i := 28) (v := ?_) (arr_get (g_s (g_s (g_s (g_s (g_s (g_s (g_s (g_s (g_s (g_s (g_s (g_s (g_s (g_s (g_s (g_s (g_s (g_s (g_s (g_s (g_s (g_s (g_s (g_s (g_s (g_s (g_s (g_s g_z))))))))))))))))))))))))))))) (by kernel_rfl) (by kernel_rfl) (by kernel_rfl) (fun _ _ _ h => h) (Or.inl ⟨by rfl, ?_⟩) hHeld ?_; rotate_left; (focus (intro w hSw; (try dsimp only at hSw); go_simp; try (first | (with_reducible rfl) | (rw [if_neg (by (try simp only [ByteArray.size_append]); omega)])))); try simp only [Act.put, List.setIfInBounds_toArray, List.set_cons_zero, List.set_cons_succ, hK0, hM0, hkm0]); (refine wpAnyH_take (i := 29) (v := ?_) (arr_get (g_s (g_s (g_s (g_s (g_s (g_s (g_s (g_s (g_s (g_s (g_s (g_s (g_s (g_s (g_s (g_s (g_s (g_s (g_s (g_s (g_s (g_s (g_s (g_s (g_s (g_s (g_s (g_s (g_s g_z)))))))))))))))))))))))))))))) (by kernel_rfl) (by kernel_rfl) (by kernel_rfl) (fun _ _ _ h => h) (Or.inl ⟨by rfl, ?_⟩) hHeld ?_; rotate_left; (focus (intro w hSw; (try dsimp only at hSw); go_simp; try (first | (with_reducible rfl) | (rw [if_neg (by (try simp only [ByteArray.size_append]); omega)])))); try simp only [Act.put, List.setIfInBounds_toArray, List.set_cons_zero, List.set_cons_succ, hK0, hM0, hkm0]); (refine wpAnyH_take (i := 30) (v := ?_) (arr_get (g_s (g_s (g_s (g_s (g_s (g_s (g_s (g_s (g_s (g_s (g_s (g_s (g_s (g_s (g_s (g_s (g_s (g_s (g_s (g_s (g_s (g_s (g_s (g_s (g_s (g_s (g_s (g_s (g_s (g_s g_z))))))))))))))))))))))))))))))) (by kernel_rfl) (by kernel_rfl) (by kernel_rfl) (fun _ _ _ h => h) (Or.inl ⟨by rfl, ?_⟩) hHeld ?_; rotate_left; (focus (intro w hSw; (try dsimp only at hSw); go_simp; try (first | (with_reducible rfl) | (rw [if_neg (by (try simp only [ByteArray.size_append]); omega)])))); try simp only [Act.put, List.setIfInBounds_toArray, List.set_cons_zero, List.set_cons_succ, hK0, hM0, hkm0]); (refine wpAnyH_take (i := 31) (v := ?_) (arr_get (g_s (g_s (g_s (g_s (g_s (g_s (g_s (g_s (g_s (g_s (g_s (g_s (g_s (g_s (g_s (g_s (g_s (g_s (g_s (g_s (g_s (g_s (g_s (g_s (g_s (g_s (g_s (g_s (g_s (g_s (g_s g_z)))))))))))))))))))))))))))))))) (by kernel_rfl) (by kernel_rfl) (by kernel_rfl) (fun _ _ _ h => h) (Or.inl ⟨by rfl, ?_⟩) hHeld ?_; rotate_left; (focus (intro w hSw; (try dsimp only at hSw); go_simp; try (first | (with_reducible rfl) | (rw [if_neg (by (try simp only [ByteArray.size_append]); omega)])))); try simp only [Act.put, List.setIfInBounds_toArray, List.set_cons_zero, List.set_cons_succ, hK0, hM0, hkm0]); (refine wpAnyH_take (i := 32) (v := ?_) (arr_get (g_s (g_s (g_s (g_s (g_s (g_s (g_s (g_s (g_s (g_s (g_s (g_s (g_s (g_s (g_s (g_s (g_s (g_s (g_s (g_s (g_s (g_s (g_s (g_s (g_s (g_s (g_s (g_s (g_s (g_s (g_s (g_s g_z))))))))))))))))))))))))))))))))) (by kernel_rfl) (by kernel_rfl) (by kernel_rfl) (fun _ _ _ h => h) (Or.inl ⟨by rfl, ?_⟩) hHeld ?_; rotate_left; (focus (intro w hSw; (try dsimp only at hSw); go_simp; try (first | (with_reducible rfl) | (rw [if_neg (by (try simp only [ByteArray.size_append]); omega)])))); try simp only [Act.put, List.setIfInBounds_toArray, List.set_cons_zero, List.set_cons_succ, hK0, hM0, hkm0]); (refine wpAnyH_take (i := 33) (v := ?_) (arr_get (g_s (g_s (g_s (g_s (g_s (g_s (g_s (g_s (g_s (g_s (g_s (g_s (g_s (g_s (g_s (g_s (g_s (g_s (g_s (g_s (g_s (g_s (g_s (g_s (g_s (g_s (g_s (g_s (g_s (g_s (g_s (g_s (g_s g_z)))))))))))))))))))))))))))))))))) (by kernel_rfl) (by kernel_rfl) (by kernel_rfl) (fun _ _ _ h => h) (Or.inl ⟨by rfl, ?_⟩) hHeld ?_; rotate_left; (focus (intro w hSw; (try dsimp only at hSw); go_simp; try (first | (with_reducible rfl) | (rw [if_neg (by (try simp only [ByteArray.size_append]); omega)])))); try simp only [Act.put, List.setIfInBounds_toArray, List.set_cons_zero, List.set_cons_succ, hK0, hM0, hkm0]); (refine wpAnyH_done (by kernel_rfl) ?_ _))
              have HB2 := Lib.hid (bel_then (bel_then (bel_dr HB1.out) hb0) hb1)
              clear hb1 hb0 hg hHeld d2 e2
              go_wp2
              go_ret2
              exact flR_no (shV_no6 HK.out HA.out HM.out HA'.out hnd) HB2.out
end Go.Proofs.YtgcdgcidjjdhmaaGreatDoor
