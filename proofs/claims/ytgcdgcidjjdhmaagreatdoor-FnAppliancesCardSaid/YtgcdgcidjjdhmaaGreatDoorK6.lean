/-
  Slices of ints: sizes, copies, comparison, marks. A name of an appliance: the program's look and the reference's (printed by gen_name.py). Words for loops that write one row alone. slices.Sort on a list without elements. Looks into slices of ints: the first index of a value, whether it is there, the greatest and the least. laws.sameInts: lists of ints compared. Rows that are read and lie above a base. (joined by pack.py: Ints Name Gro Sort0 Slc SameI RdB)
-/
import Derived.Test.YtgcdgcidjjdhmaaGreatDoorK0
import Derived.Test.YtgcdgcidjjdhmaaGreatDoorK1
import Derived.Test.YtgcdgcidjjdhmaaGreatDoorK2
import Derived.Deep.RegionHeld3
import Derived.Deep.RegionWith
import Derived.BigQuiet
import Derived.Deep.QuietTactic
import Derived.IntWalk
namespace Go.Proofs.YtgcdgcidjjdhmaaGreatDoor
set_option linter.unusedVariables false
set_option linter.unusedSimpArgs false
open Go.RowKit

def ints (l : List Int) : List Value := l.map (Value.int .i64)
theorem ints_len (l : List Int) : (ints l).length = l.length := by simp [ints]
theorem ints_get {l : List Int} {k : Nat} {x : Int} (h : l[k]? = some x) : (ints l)[k]? = some (.int .i64 x) := by simp [ints, h]
theorem ints_append (a b : List Int) : ints (a ++ b) = ints a ++ ints b := by simp [ints]
theorem ints_inj {a b : List Int} (h : ints a = ints b) : a = b := by
  refine (List.map_inj_right ?_).1 h
  intro x y e; injection e
/-- A slice of ints that reads as l. -/
def RdI (w : World) (v : Value) (l : List Int) : Prop := Rd w v l.length (ints l)
theorem rdi_below {w w' : World} {v : Value} {l : List Int} (h : RdI w v l) (hb : Below w.heap.size w w') : RdI w' v l := rd_below h hb
theorem rdi_own {w : World} {base : Nat} {e : TypeId} {v : Value} {n : Nat} {l : List Int} (h : w.ownsRow base e 1 v n (ints l)) : RdI w v l := by
  have h1 := h.1
  have : n = l.length := by rw [ints_len] at h1; omega
  subst this
  exact own_rd h
theorem rdi_take {w : World} {g n cap j : Nat} {l : List Int} (h : Rd w (.slice (some ⟨g, 0, none⟩) n cap) n (ints l)) (hj : j ≤ n) (hc : n ≤ cap) (hl : l.length = n) : RdI w (.slice (some ⟨g, 0, none⟩) j cap) (l.take j) := by
  obtain ⟨A, c, hv, h1, h2, h3⟩ := h
  injection hv with hA _ hcc
  subst hA; subst hcc
  refine ⟨_, _, by rw [List.length_take, Nat.min_eq_left (by omega)], by rw [List.length_take]; omega, h2, fun hn => ?_⟩
  rw [List.length_take] at hn
  obtain ⟨b, off, e, hb, hcell⟩ := h3 (by omega)
  refine ⟨b, off, e, hb, fun q u hu => hcell q u ?_⟩
  rw [ints, List.map_take, List.getElem?_take] at hu
  split at hu
  · exact hu
  · cases hu
theorem rd_drop {w : World} {g n cap j : Nat} {l : List Int} (h : Rd w (.slice (some ⟨g, 0, none⟩) n cap) n (ints l)) (hj : j ≤ n) : Rd w (.slice (some ⟨g, j, none⟩) (n - j) (cap - j)) (n - j) (ints (l.drop j)) := by
  obtain ⟨A, c, hv, h1, h2, h3⟩ := h
  injection hv with hA _ hcc
  subst hA; subst hcc
  refine ⟨_, _, rfl, by omega, by omega, fun hn => ?_⟩
  obtain ⟨b, off, e, hb, hcell⟩ := h3 (by omega)
  injection e with e
  injection e with e1 e2
  subst e1; subst e2
  refine ⟨g, j, rfl, hb, fun q u hu => ?_⟩
  have := hcell (j + q) u (by rw [ints, List.map_drop, List.getElem?_drop] at hu; exact hu)
  simpa using this
theorem Tryz.infoInt : (Tryz.prog.info? 3).map (fun i => (i.zero, i.size, i.bytes)) = some (some (.int .i64 0), 1, 8) := by kernel_rfl

/-- k, k+1, .., n of them. -/
def upFrom (k : Int) (n : Nat) : List Int := (List.range n).map fun (i : Nat) => k + (i : Int)
theorem upFrom_len (k : Int) (n : Nat) : (upFrom k n).length = n := by simp [upFrom]
theorem upFrom_get {k : Int} {n i : Nat} (h : i < n) : (upFrom k n)[i]? = some (k + i) := by simp [upFrom, h]
theorem upFrom_succ (k : Int) (n : Nat) : upFrom k (n + 1) = upFrom k n ++ [k + n] := by simp [upFrom, List.range_succ]

end Go.Proofs.YtgcdgcidjjdhmaaGreatDoor

namespace Go.Proofs.YtgcdgcidjjdhmaaGreatDoor
set_option linter.unusedVariables false
set_option linter.unusedSimpArgs false
open Go.RowKit

def isLet (n : Nat) : Bool := decide (97 ≤ n) && decide (n ≤ 122)
def isDig (n : Nat) : Bool := decide (48 ≤ n) && decide (n ≤ 57)
def chB (s : ByteArray) (i : Nat) : Bool := if h : i < s.size then isLet s[i].toNat || (isDig s[i].toNat && decide (i ≠ 0)) else true
def nameB (s : ByteArray) : Bool := (List.range s.size).all (chB s) && inB (s.size : Int) 1 6
theorem chB_at {s : ByteArray} {i : Nat} (h : i < s.size) : chB s i = (isLet s[i].toNat || (isDig s[i].toNat && decide (i ≠ 0))) := by unfold chB; rw [dif_pos h]
theorem all_range_succ {p : Nat → Bool} {k : Nat} (h : (List.range k).all p = true) (hp : p k = true) : (List.range (k + 1)).all p = true := by
  rw [List.range_succ, List.all_append, h]; simp [hp]
theorem nameB_no {s : ByteArray} {k : Nat} (hk : k < s.size) (h : chB s k = false) : nameB s = false := by
  unfold nameB
  rw [List.all_eq_false.2 ⟨k, List.mem_range.2 hk, by rw [h]; simp⟩]; rfl
theorem nameB_end {s : ByteArray} (h : (List.range s.size).all (chB s) = true) : nameB s = inB (s.size : Int) 1 6 := by unfold nameB; rw [h]; rfl
theorem nameB_size {s : ByteArray} (h : nameB s = true) : s.size ≤ 6 := by
  unfold nameB at h
  rw [Bool.and_eq_true] at h
  have := (inB_true h.2).2
  omega
set_option maxRecDepth 100000 in
set_option maxHeartbeats 2000000 in
theorem isName_c (s : ByteArray) (w : World) (hs : s.size ≤ 9223372036854775807) :
    Calls Tryz.prog 73 #[.string s] w fun e w' => e = .returned (.bool (nameB s)) ∧ Below w.heap.size w w' := by
  go_enter Tryz.func73, Tryz.ntmps73
  go_wp2_with fail
  go_loopw [8] (fun v wr => ∃ k : Nat, k ≤ s.size ∧ v = .int .i64 k ∧ Hid ((List.range k).all (chB s) = true) ∧ Hid (Below w.heap.size w wr)) (fun v _ => s.size - (intOf v).toNat)
  case atStart => exact ⟨0, Nat.zero_le _, rfl, Lib.hid rfl, Lib.hid (Below.refl _ _)⟩
  case round =>
    obtain ⟨k, hk, rfl, HA, HB⟩ := hrel
    by_cases hlt : k < s.size
    · have hch := chB_at hlt
      have hn256 : s[k].toNat < 256 := UInt8.toNat_lt _
      obtain ⟨n, hn⟩ : ∃ n, s[k].toNat = n := ⟨_, rfl⟩
      rw [hn] at hch hn256
      have HCH := Lib.hid hch
      have k0 : (0 : Int) ≤ (k : Int) := by omega
      have k1 : (k : Int) < (s.size : Int) := by omega
      clear hch
      rcases (show n < 48 ∨ (48 ≤ n ∧ n ≤ 57) ∨ (58 ≤ n ∧ n ≤ 96) ∨ (97 ≤ n ∧ n ≤ 122) ∨ 123 ≤ n by omega) with hc | hc | hc | hc | hc
      ·
        have b97 : decide ((97 : Int) ≤ (n : Int)) = false := decide_eq_false (by omega)
        have b122 : decide ((n : Int) ≤ 122) = true := decide_eq_true (by omega)
        have b48 : decide ((48 : Int) ≤ (n : Int)) = false := decide_eq_false (by omega)
        have b57 : decide ((n : Int) ≤ 57) = true := decide_eq_true (by omega)
        have HR : Hid (chB s k = false) := Lib.hid (by rw [HCH.out]; unfold isLet isDig; simp; omega)
        clear hc
        go_wp2_with fail
        go_quiet (fail)
        go_wp2_with fail
        go_wp2
        go_ret
        rw [nameB_no (by omega) HR.out]
        exact ⟨rfl, below_drewN HB.out _⟩
      · rcases Nat.eq_zero_or_pos k with hk0 | hk0
        · have b0 : ((k : Int) == 0) = true := by rw [beq_iff_eq]; omega
          have b97 : decide ((97 : Int) ≤ (n : Int)) = false := decide_eq_false (by omega)
          have b122 : decide ((n : Int) ≤ 122) = true := decide_eq_true (by omega)
          have b48 : decide ((48 : Int) ≤ (n : Int)) = true := decide_eq_true (by omega)
          have b57 : decide ((n : Int) ≤ 57) = true := decide_eq_true (by omega)
          have HR : Hid (chB s k = false) := Lib.hid (by rw [HCH.out]; unfold isLet isDig; simp; omega)
          clear hc hk0
          go_wp2_with fail
          go_quiet (fail)
          go_wp2_with fail
          go_wp2
          go_ret
          rw [nameB_no (by omega) HR.out]
          exact ⟨rfl, below_drewN HB.out _⟩
        · have b0 : ((k : Int) == 0) = false := by rw [beq_eq_false_iff_ne]; omega
          have b97 : decide ((97 : Int) ≤ (n : Int)) = false := decide_eq_false (by omega)
          have b122 : decide ((n : Int) ≤ 122) = true := decide_eq_true (by omega)
          have b48 : decide ((48 : Int) ≤ (n : Int)) = true := decide_eq_true (by omega)
          have b57 : decide ((n : Int) ≤ 57) = true := decide_eq_true (by omega)
          have HR : Hid (chB s k = true) := Lib.hid (by rw [HCH.out]; unfold isLet isDig; simp; omega)
          clear hc hk0
          go_wp2_with fail
          go_quiet (fail)
          go_wp2_with fail
          go_wp2
          exact ⟨⟨k + 1, by omega, by go_num, Lib.hid (all_range_succ HA.out HR.out), Lib.hid (below_drewN HB.out _)⟩, by simp [intOf]; omega⟩
      ·
        have b97 : decide ((97 : Int) ≤ (n : Int)) = false := decide_eq_false (by omega)
        have b122 : decide ((n : Int) ≤ 122) = true := decide_eq_true (by omega)
        have b48 : decide ((48 : Int) ≤ (n : Int)) = true := decide_eq_true (by omega)
        have b57 : decide ((n : Int) ≤ 57) = false := decide_eq_false (by omega)
        have HR : Hid (chB s k = false) := Lib.hid (by rw [HCH.out]; unfold isLet isDig; simp; omega)
        clear hc
        go_wp2_with fail
        go_quiet (fail)
        go_wp2_with fail
        go_wp2
        go_ret
        rw [nameB_no (by omega) HR.out]
        exact ⟨rfl, below_drewN HB.out _⟩
      ·
        have b97 : decide ((97 : Int) ≤ (n : Int)) = true := decide_eq_true (by omega)
        have b122 : decide ((n : Int) ≤ 122) = true := decide_eq_true (by omega)
        have b48 : decide ((48 : Int) ≤ (n : Int)) = true := decide_eq_true (by omega)
        have b57 : decide ((n : Int) ≤ 57) = false := decide_eq_false (by omega)
        have HR : Hid (chB s k = true) := Lib.hid (by rw [HCH.out]; unfold isLet isDig; simp; omega)
        clear hc
        go_wp2_with fail
        go_quiet (fail)
        go_wp2_with fail
        go_wp2
        exact ⟨⟨k + 1, by omega, by go_num, Lib.hid (all_range_succ HA.out HR.out), Lib.hid (below_drewN HB.out _)⟩, by simp [intOf]; omega⟩
      ·
        have b97 : decide ((97 : Int) ≤ (n : Int)) = true := decide_eq_true (by omega)
        have b122 : decide ((n : Int) ≤ 122) = false := decide_eq_false (by omega)
        have b48 : decide ((48 : Int) ≤ (n : Int)) = true := decide_eq_true (by omega)
        have b57 : decide ((n : Int) ≤ 57) = false := decide_eq_false (by omega)
        have HR : Hid (chB s k = false) := Lib.hid (by rw [HCH.out]; unfold isLet isDig; simp; omega)
        clear hc
        go_wp2_with fail
        go_quiet (fail)
        go_wp2_with fail
        go_wp2
        go_ret
        rw [nameB_no (by omega) HR.out]
        exact ⟨rfl, below_drewN HB.out _⟩
    · obtain rfl : k = s.size := by omega
      have HE := Lib.hid (nameB_end HA.out)
      go_wp2_with fail
      refine (inside_c _ _ _ _).mono ?_; rintro e w2 ⟨rfl, rfl⟩
      go_wp2
      go_ret
      rw [HE.out]
      exact ⟨rfl, HB.out⟩
set_option maxRecDepth 100000 in
set_option maxHeartbeats 2000000 in
theorem apName_c (s : ByteArray) (w : World) (hs : s.size ≤ 9223372036854775807) :
    Calls Tryz.prog 74 #[.string s] w fun e w' => e = .returned (.bool (nameB s)) ∧ Below w.heap.size w w' := by
  go_enter Tryz.func74, Tryz.ntmps74
  go_wp2_with fail
  go_loopw [3] (fun v wr => ∃ k : Nat, k ≤ s.size ∧ v = .int .i64 k ∧ Hid ((List.range k).all (chB s) = true) ∧ Hid (Below w.heap.size w wr)) (fun v _ => s.size - (intOf v).toNat)
  case atStart => exact ⟨0, Nat.zero_le _, rfl, Lib.hid rfl, Lib.hid (Below.refl _ _)⟩
  case round =>
    obtain ⟨k, hk, rfl, HA, HB⟩ := hrel
    by_cases hlt : k < s.size
    · have hch := chB_at hlt
      have hn256 : s[k].toNat < 256 := UInt8.toNat_lt _
      obtain ⟨n, hn⟩ : ∃ n, s[k].toNat = n := ⟨_, rfl⟩
      rw [hn] at hch hn256
      have HCH := Lib.hid hch
      have k0 : (0 : Int) ≤ (k : Int) := by omega
      have k1 : (k : Int) < (s.size : Int) := by omega
      clear hch
      rcases (show n < 48 ∨ (48 ≤ n ∧ n ≤ 57) ∨ (58 ≤ n ∧ n ≤ 96) ∨ (97 ≤ n ∧ n ≤ 122) ∨ 123 ≤ n by omega) with hc | hc | hc | hc | hc
      ·
        have b97 : decide ((97 : Int) ≤ (n : Int)) = false := decide_eq_false (by omega)
        have b122 : decide ((n : Int) ≤ 122) = true := decide_eq_true (by omega)
        have b48 : decide ((48 : Int) ≤ (n : Int)) = false := decide_eq_false (by omega)
        have b57 : decide ((n : Int) ≤ 57) = true := decide_eq_true (by omega)
        have HR : Hid (chB s k = false) := Lib.hid (by rw [HCH.out]; unfold isLet isDig; simp; omega)
        clear hc
        go_wp2_with fail
        go_wp2
        go_ret
        rw [nameB_no (by omega) HR.out]
        exact ⟨rfl, HB.out⟩
      · rcases Nat.eq_zero_or_pos k with hk0 | hk0
        · have b0 : ((k : Int) == 0) = true := by rw [beq_iff_eq]; omega
          have b97 : decide ((97 : Int) ≤ (n : Int)) = false := decide_eq_false (by omega)
          have b122 : decide ((n : Int) ≤ 122) = true := decide_eq_true (by omega)
          have b48 : decide ((48 : Int) ≤ (n : Int)) = true := decide_eq_true (by omega)
          have b57 : decide ((n : Int) ≤ 57) = true := decide_eq_true (by omega)
          have HR : Hid (chB s k = false) := Lib.hid (by rw [HCH.out]; unfold isLet isDig; simp; omega)
          clear hc hk0
          go_wp2_with fail
          go_wp2
          go_ret
          rw [nameB_no (by omega) HR.out]
          exact ⟨rfl, HB.out⟩
        · have b0 : ((k : Int) == 0) = false := by rw [beq_eq_false_iff_ne]; omega
          have b97 : decide ((97 : Int) ≤ (n : Int)) = false := decide_eq_false (by omega)
          have b122 : decide ((n : Int) ≤ 122) = true := decide_eq_true (by omega)
          have b48 : decide ((48 : Int) ≤ (n : Int)) = true := decide_eq_true (by omega)
          have b57 : decide ((n : Int) ≤ 57) = true := decide_eq_true (by omega)
          have HR : Hid (chB s k = true) := Lib.hid (by rw [HCH.out]; unfold isLet isDig; simp; omega)
          clear hc hk0
          go_wp2_with fail
          go_wp2
          exact ⟨⟨k + 1, by omega, by go_num, Lib.hid (all_range_succ HA.out HR.out), HB⟩, by simp [intOf]; omega⟩
      ·
        have b97 : decide ((97 : Int) ≤ (n : Int)) = false := decide_eq_false (by omega)
        have b122 : decide ((n : Int) ≤ 122) = true := decide_eq_true (by omega)
        have b48 : decide ((48 : Int) ≤ (n : Int)) = true := decide_eq_true (by omega)
        have b57 : decide ((n : Int) ≤ 57) = false := decide_eq_false (by omega)
        have HR : Hid (chB s k = false) := Lib.hid (by rw [HCH.out]; unfold isLet isDig; simp; omega)
        clear hc
        go_wp2_with fail
        go_wp2
        go_ret
        rw [nameB_no (by omega) HR.out]
        exact ⟨rfl, HB.out⟩
      ·
        have b97 : decide ((97 : Int) ≤ (n : Int)) = true := decide_eq_true (by omega)
        have b122 : decide ((n : Int) ≤ 122) = true := decide_eq_true (by omega)
        have b48 : decide ((48 : Int) ≤ (n : Int)) = true := decide_eq_true (by omega)
        have b57 : decide ((n : Int) ≤ 57) = false := decide_eq_false (by omega)
        have HR : Hid (chB s k = true) := Lib.hid (by rw [HCH.out]; unfold isLet isDig; simp; omega)
        clear hc
        go_wp2_with fail
        go_wp2
        exact ⟨⟨k + 1, by omega, by go_num, Lib.hid (all_range_succ HA.out HR.out), HB⟩, by simp [intOf]; omega⟩
      ·
        have b97 : decide ((97 : Int) ≤ (n : Int)) = true := decide_eq_true (by omega)
        have b122 : decide ((n : Int) ≤ 122) = false := decide_eq_false (by omega)
        have b48 : decide ((48 : Int) ≤ (n : Int)) = true := decide_eq_true (by omega)
        have b57 : decide ((n : Int) ≤ 57) = false := decide_eq_false (by omega)
        have HR : Hid (chB s k = false) := Lib.hid (by rw [HCH.out]; unfold isLet isDig; simp; omega)
        clear hc
        go_wp2_with fail
        go_wp2
        go_ret
        rw [nameB_no (by omega) HR.out]
        exact ⟨rfl, HB.out⟩
    · obtain rfl : k = s.size := by omega
      have HE := Lib.hid (nameB_end HA.out)
      go_wp2_with fail
      refine (l1In_c _ _ _ _).mono ?_; rintro e w2 ⟨rfl, rfl⟩
      go_wp2
      go_ret
      rw [HE.out]
      exact ⟨rfl, HB.out⟩
end Go.Proofs.YtgcdgcidjjdhmaaGreatDoor

namespace Go.Proofs.YtgcdgcidjjdhmaaGreatDoor
set_option linter.unusedVariables false
set_option linter.unusedSimpArgs false
open Go.RowKit

theorem gro_al {a b : World} {r : Option Nat} (h : a.grownBy b r) (o : Obj) : a.grownBy (b.alloc o) r :=
  ⟨h.os, h.tape, h.output, Nat.le_trans h.size (by simp), fun k hk hr => by
    have h1 := h.block k hk hr
    have h2 : k < b.heap.size := Nat.lt_of_lt_of_le hk h.size
    rw [← h1]
    exact ((Below.refl b.heap.size b).alloc (Nat.le_refl _) o).block k h2⟩
theorem gro_dr {a b : World} {r : Option Nat} (h : a.grownBy b r) : a.grownBy b.drew r := ⟨h.os, h.tape, h.output, h.size, h.block⟩
theorem gro_drN {a b : World} {r : Option Nat} (h : a.grownBy b r) (n : Nat) : a.grownBy (b.drewN n) r := ⟨h.os, h.tape, h.output, h.size, h.block⟩
theorem gro_bel {a b c : World} {r : Option Nat} (h : a.grownBy b r) (k : Below b.heap.size b c) : a.grownBy c r :=
  ⟨k.os.trans h.os, k.tape.trans h.tape, k.output.trans h.output, Nat.le_trans h.size k.size, fun i hi hr => (k.block i (Nat.lt_of_lt_of_le hi h.size)).trans (h.block i hi hr)⟩
theorem gro_trans {a b c : World} {r : Option Nat} (h : a.grownBy b r) (k : b.grownBy c r) : a.grownBy c r :=
  ⟨k.os.trans h.os, k.tape.trans h.tape, k.output.trans h.output, Nat.le_trans h.size k.size, fun i hi hr => (k.block i (Nat.lt_of_lt_of_le hi h.size) hr).trans (h.block i hi hr)⟩
/-- Rows that are new: nothing old is touched. -/
theorem gro_new {a b c : World} {r : Option Nat} (h : Below a.heap.size a b) (k : b.grownBy c r) (hr : ∀ g, r = some g → a.heap.size ≤ g) : Below a.heap.size a c := h.grown k h.size hr
theorem gro_cell {a b : World} {g : Nat} (h : a.grownBy b (some g)) {x o : Nat} (hx : x < a.heap.size) (hne : x ≠ g) : b.cell? ⟨x, o, none⟩ = a.cell? ⟨x, o, none⟩ :=
  World.cell?_of_block (h.block x hx (fun e => hne (Option.some.inj e)))
theorem gro_frozen {a b : World} {g : Nat} (h : a.grownBy b (some g)) {x o : Nat} (hx : x < a.heap.size) (hne : x ≠ g) : b.frozen? ⟨x, o, none⟩ = a.frozen? ⟨x, o, none⟩ :=
  World.frozen?_of_block (h.block x hx (fun e => hne (Option.some.inj e)))
theorem own_dr {w : World} {base : Nat} {e : TypeId} {sz : Nat} {v : Value} {n : Nat} {xs : List Value} (h : w.ownsRow base e sz v n xs) : w.drew.ownsRow base e sz v n xs := h
theorem own_drN {w : World} {base : Nat} {e : TypeId} {sz : Nat} {v : Value} {n : Nat} {xs : List Value} (h : w.ownsRow base e sz v n xs) (q : Nat) : (w.drewN q).ownsRow base e sz v n xs := own_below h (below_drewN (Below.refl _ _) q)
/-- An owned row of at least one element lies at the head of a block. -/
theorem own_shape {w : World} {base : Nat} {e : TypeId} {sz : Nat} {v : Value} {n : Nat} {xs : List Value} (h : w.ownsRow base e sz v n xs) (hn : 0 < n) : ∃ g cap, v = .slice (some ⟨g, 0, none⟩) n cap ∧ base ≤ g ∧ g < w.heap.size ∧ n ≤ cap ∧ cap ≤ 9223372036854775807 := by
  rcases h.2 with ⟨_, h0⟩ | ⟨g, cap, cur, rfl, hb, hg, hc, hm, _⟩
  · omega
  · exact ⟨g, cap, rfl, hb, (Array.getElem?_eq_some_iff.1 hg).1, hc, by rw [maxLen_eq] at hm; exact hm⟩
theorem own_cell {w : World} {base : Nat} {e : TypeId} {g n cap : Nat} {d : List Int} (h : w.ownsRow base e 1 (.slice (some ⟨g, 0, none⟩) n cap) n (ints d)) {j : Nat} (hj : j < n) : w.cell? ⟨g, j, none⟩ = some (.int .i64 (d.getD j 0)) := by
  have hl := h.1
  rw [ints_len] at hl
  have hx : d[j]? = some (d.getD j 0) := by simp [List.getD, List.getElem?_eq_getElem (show j < d.length by omega)]
  exact (h.cellAt j (by omega)).trans (ints_get hx)
theorem own_setI {w : World} {base : Nat} {e : TypeId} {g n cap : Nat} {d : List Int} (h : w.ownsRow base e 1 (.slice (some ⟨g, 0, none⟩) n cap) n (ints d)) (j : Nat) (x : Int) : (w.setCell ⟨g, j, none⟩ (.int .i64 x)).ownsRow base e 1 (.slice (some ⟨g, 0, none⟩) n cap) n (ints (d.set j x)) := by
  have := (h.stored j (.int .i64 x)).1
  unfold ints at this ⊢
  rwa [← List.map_set] at this
end Go.Proofs.YtgcdgcidjjdhmaaGreatDoor

namespace Go.Proofs.YtgcdgcidjjdhmaaGreatDoor
set_option linter.unusedVariables false
set_option linter.unusedSimpArgs false
open Go.RowKit

set_option maxRecDepth 100000 in
theorem len64_0 (w : World) : Calls Tryz.prog 117 #[.int .u64 0] w fun e w' => e = .returned (.int .i64 0) ∧ w = w' := by
  go_enter Tryz.func117, Tryz.ntmps117
  go_wp2
  go_ret
  exact ⟨by first | rfl | kernel_rfl | (simp; decide), rfl⟩
end Go.Proofs.YtgcdgcidjjdhmaaGreatDoor

namespace Go.Proofs.YtgcdgcidjjdhmaaGreatDoor
set_option linter.unusedVariables false
set_option linter.unusedSimpArgs false
open Go.RowKit

def idxI : List Int → Int → Int
  | [], _ => -1
  | y :: l, x => if y = x then 0 else if idxI l x < 0 then -1 else idxI l x + 1
theorem idxI_none {l : List Int} {x : Int} (h : x ∉ l) : idxI l x = -1 := by
  induction l with
  | nil => rfl
  | cons y l ih =>
    simp at h
    have h1 : ¬ (y = x) := fun e => h.1 e.symm
    simp only [idxI]
    rw [if_neg h1, ih h.2]; rfl
theorem idxI_at : ∀ {l : List Int} {x : Int} {k : Nat}, l[k]? = some x → x ∉ l.take k → idxI l x = (k : Int) := by
  intro l
  induction l with
  | nil => intro x k h; simp at h
  | cons y l ih =>
    intro x k h hn
    cases k with
    | zero => simp at h; subst h; simp [idxI]
    | succ k =>
      simp at h hn
      have e := ih h hn.2
      simp only [idxI]
      rw [if_neg (fun e => hn.1 e.symm), e, if_neg (by omega)]
      omega
theorem idxI_bd (l : List Int) (x : Int) : -1 ≤ idxI l x ∧ idxI l x < (l.length : Int) := by
  induction l with
  | nil => simp [idxI]
  | cons y l ih =>
    simp only [idxI, List.length_cons]
    split
    · omega
    · split <;> omega
theorem idxI_mem {l : List Int} {x : Int} (h : x ∈ l) : 0 ≤ idxI l x := by
  induction l with
  | nil => simp at h
  | cons y l ih =>
    simp only [idxI]
    split
    · omega
    · rename_i hne
      have : x ∈ l := by
        rcases List.mem_cons.1 h with e | e
        · exact absurd e.symm hne
        · exact e
      have := ih this
      rw [if_neg (by omega)]; omega
theorem idxI_iff (l : List Int) (x : Int) : decide (0 ≤ idxI l x) = decide (x ∈ l) := by
  by_cases h : x ∈ l
  · rw [decide_eq_true h, decide_eq_true (idxI_mem h)]
  · rw [decide_eq_false h, idxI_none h]; rfl

theorem ret_b {a b : Bool} (h : a = b) : Ending.returned (.bool a) = .returned (.bool b) := by rw [h]
theorem max_if (m x : Int) : max m x = if m < x then x else m := by rw [Int.max_def]; split <;> split <;> omega
theorem min_if (m x : Int) : min m x = if x < m then x else m := by rw [Int.min_def]; split <;> split <;> omega
set_option maxRecDepth 100000 in
set_option maxHeartbeats 1000000 in
theorem index_c (v : Value) (x : Int) (l : List Int) (w : World) (hr : RdI w v l) :
    Calls Tryz.prog 61 #[v, .int .i64 x] w fun e w' => e = .returned (.int .i64 (idxI l x)) ∧ w = w' := by
  obtain ⟨A, c, rfl, hc, hm, hr⟩ := hr
  rw [maxLen_eq] at hm
  go_enter Tryz.func61, Tryz.ntmps61
  go_wp2
  go_loopw [8] (fun i wr => ∃ k : Nat, k ≤ l.length ∧ i = .int .i64 k ∧ Hid (x ∉ l.take k) ∧ wr = w) (fun i _ => l.length - (intOf i).toNat)
  case atStart => exact ⟨0, Nat.zero_le _, rfl, Lib.hid (by simp), rfl⟩
  case round =>
    obtain ⟨k, hk, rfl, HN, rfl⟩ := hrel
    by_cases hlt : k < l.length
    · obtain ⟨b, off, rfl, hbl, hcell⟩ := hr (by omega)
      obtain ⟨y, hy⟩ : ∃ y, l[k]? = some y := ⟨_, List.getElem?_eq_getElem hlt⟩
      have c0 := hcell _ _ (ints_get hy)
      have HY := Lib.hid hy
      clear hcell hy hr
      by_cases hxy : x = y
      · have HXY := Lib.hid hxy
        have e0 : ((x : Int) == y) = true := by simp [hxy]
        clear hxy
        go_wp2
        go_ret
        exact ⟨ret_int1 (idxI_at (by rw [HY.out, HXY.out]) HN.out).symm, (by first | rfl | trivial)⟩
      · have e0 : ((x : Int) == y) = false := by simp [hxy]
        have HXY := Lib.hid hxy
        clear hxy
        go_wp2
        refine ⟨⟨k + 1, by omega, by go_num, Lib.hid ?_, (by first | rfl | trivial)⟩, by simp [intOf]; omega⟩
        rw [take_succ_of HY.out]
        intro hmem
        rcases List.mem_append.1 hmem with h | h
        · exact HN.out h
        · simp at h; exact HXY.out h
    · obtain rfl : k = l.length := by omega
      have h := HN.out
      rw [List.take_length] at h
      have H := Lib.hid h
      clear h
      go_wp2
      go_ret
      exact ⟨ret_int1 (idxI_none H.out).symm, (by first | rfl | trivial)⟩

set_option maxHeartbeats 400000 in
theorem contains_c (v : Value) (x : Int) (l : List Int) (w : World) (hr : RdI w v l) :
    Calls Tryz.prog 31 #[v, .int .i64 x] w fun e w' => e = .returned (.bool (decide (x ∈ l))) ∧ w = w' := by
  have HR := Lib.hid hr
  clear hr
  rw [← idxI_iff]
  go_enter Tryz.func31, Tryz.ntmps31
  go_wp2_with (go_at_call 61; refine (index_c _ x l _ HR.out).mono ?_; rintro e w' ⟨rfl, rfl⟩)
  go_ret
  exact ⟨rfl, rfl⟩

set_option maxRecDepth 100000 in
set_option maxHeartbeats 1000000 in
theorem l1Has_c (v : Value) (x : Int) (l : List Int) (w : World) (hr : RdI w v l) :
    Calls Tryz.prog 63 #[v, .int .i64 x] w fun e w' => e = .returned (.bool (decide (x ∈ l))) ∧ w = w' := by
  obtain ⟨A, c, rfl, hc, hm, hr⟩ := hr
  rw [maxLen_eq] at hm
  go_enter Tryz.func63, Tryz.ntmps63
  go_wp2
  go_loopw [9] (fun i wr => ∃ k : Nat, k ≤ l.length ∧ i = .int .i64 k ∧ Hid (x ∉ l.take k) ∧ wr = w) (fun i _ => l.length - (intOf i).toNat)
  case atStart => exact ⟨0, Nat.zero_le _, rfl, Lib.hid (by simp), rfl⟩
  case round =>
    obtain ⟨k, hk, rfl, HN, rfl⟩ := hrel
    by_cases hlt : k < l.length
    · obtain ⟨b, off, rfl, hbl, hcell⟩ := hr (by omega)
      obtain ⟨y, hy⟩ : ∃ y, l[k]? = some y := ⟨_, List.getElem?_eq_getElem hlt⟩
      have c0 := hcell _ _ (ints_get hy)
      have HY := Lib.hid hy
      clear hcell hy hr
      by_cases hxy : x = y
      · have HXY := Lib.hid hxy
        have e0 : ((y : Int) == x) = true := by simp [hxy]
        clear hxy
        go_wp2
        go_ret
        exact ⟨ret_b (decide_eq_true (show x ∈ l from by rw [HXY.out]; exact List.mem_of_getElem? HY.out)).symm, (by first | rfl | trivial)⟩
      · have e0 : ((y : Int) == x) = false := by simp; omega
        have HXY := Lib.hid hxy
        clear hxy
        go_wp2
        refine ⟨⟨k + 1, by omega, by go_num, Lib.hid ?_, (by first | rfl | trivial)⟩, by simp [intOf]; omega⟩
        rw [take_succ_of HY.out]
        intro hmem
        rcases List.mem_append.1 hmem with h | h
        · exact HN.out h
        · simp at h; exact HXY.out h
    · obtain rfl : k = l.length := by omega
      have h := HN.out
      rw [List.take_length] at h
      have H := Lib.hid h
      clear h
      go_wp2
      go_ret
      exact ⟨ret_b (decide_eq_false H.out).symm, (by first | rfl | trivial)⟩

def maxL : List Int → Int
  | [] => 0
  | x :: l => l.foldl max x
def minL : List Int → Int
  | [] => 0
  | x :: l => l.foldl min x
end Go.Proofs.YtgcdgcidjjdhmaaGreatDoor

namespace Go.Proofs.YtgcdgcidjjdhmaaGreatDoor
set_option linter.unusedVariables false
set_option linter.unusedSimpArgs false
open Go.RowKit

end Go.Proofs.YtgcdgcidjjdhmaaGreatDoor

namespace Go.Proofs.YtgcdgcidjjdhmaaGreatDoor
set_option linter.unusedVariables false
set_option linter.unusedSimpArgs false
open Go.RowKit

def RdB (base : Nat) (w : World) (v : Value) (n : Nat) (xs : List Value) : Prop := Rd w v n xs ∧ ∀ b off m c, v = .slice (some ⟨b, off, none⟩) m c → base ≤ b
theorem rdb_gro {base B : Nat} {w w' : World} {v : Value} {n : Nat} {xs : List Value} (h : RdB base w v n xs) (g : w.grownBy w' (some B)) (hB : B < base) : RdB base w' v n xs := by
  obtain ⟨⟨A, c, hv, h1, h2, h3⟩, hb⟩ := h
  refine ⟨⟨A, c, hv, h1, h2, fun h0 => ?_⟩, hb⟩
  obtain ⟨b, off, hA, hlt, hc⟩ := h3 h0
  have := hb b off _ _ (by rw [hv, hA])
  exact ⟨b, off, hA, Nat.lt_of_lt_of_le hlt g.size, fun j u hu => (gro_cell g hlt (by omega)).trans (hc j u hu)⟩
theorem rdb_bel {base : Nat} {w w' : World} {v : Value} {n : Nat} {xs : List Value} (h : RdB base w v n xs) (g : Below w.heap.size w w') : RdB base w' v n xs := ⟨rd_below h.1 g, h.2⟩
theorem rdb_base {base base' : Nat} {w : World} {v : Value} {n : Nat} {xs : List Value} (h : RdB base w v n xs) (hb : base' ≤ base) : RdB base' w v n xs := ⟨h.1, fun b off m c e => Nat.le_trans hb (h.2 b off m c e)⟩
theorem rdb_own {base : Nat} {w : World} {e : TypeId} {sz : Nat} {v : Value} {n : Nat} {xs : List Value} (h : w.ownsRow base e sz v n xs) : RdB base w v n xs :=
  ⟨own_rd h, fun b off m c hv => (h.lt b (by rw [hv]; rfl)).1⟩
theorem rdb_ints {base : Nat} {w : World} {e : TypeId} {v : Value} {n : Nat} {l : List Int} (h : w.ownsRow base e 1 v n (ints l)) : RdB base w v l.length (ints l) :=
  ⟨rdi_own h, (rdb_own h).2⟩
end Go.Proofs.YtgcdgcidjjdhmaaGreatDoor
