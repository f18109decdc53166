/-
  Slices of ints: sizes, copies, comparison, marks.
-/
import Derived.Test.YtbjiipicbcamnaaNum
import Derived.Test.YtbjiipicbcamnaaMem
import Derived.Test.YtbjiipicbcamnaaPure
import Derived.Deep.RegionHeld3
import Derived.Deep.RegionWith
import Derived.BigQuiet
import Derived.Deep.QuietTactic
import Derived.IntWalk
namespace Go.Proofs.Ytbjiipicbcamnaa
open Go.RowKit

def ints (l : List Int) : List Value := l.map (Value.int .i64)
theorem ints_len (l : List Int) : (ints l).length = l.length := by simp [ints]
theorem ints_get {l : List Int} {k : Nat} {x : Int} (h : l[k]? = some x) : (ints l)[k]? = some (.int .i64 x) := by simp [ints, h]
theorem ints_append (a b : List Int) : ints (a ++ b) = ints a ++ ints b := by simp [ints]
theorem ints_inj {a b : List Int} (h : ints a = ints b) : a = b := by
  refine (List.map_inj_right ?_).1 h
  intro x y e; injection e
/-- A slice of ints that reads as l. -/
def RdI (w : World) (v : Value) (l : List Int) : Prop := Rd w v l.length (ints l)
theorem rdi_below {w w' : World} {v : Value} {l : List Int} (h : RdI w v l) (hb : Below w.heap.size w w') : RdI w' v l := rd_below h hb
theorem rdi_own {w : World} {base : Nat} {e : TypeId} {v : Value} {n : Nat} {l : List Int} (h : w.ownsRow base e 1 v n (ints l)) : RdI w v l := by
  have h1 := h.1
  have : n = l.length := by rw [ints_len] at h1; omega
  subst this
  exact own_rd h
theorem rdi_take {w : World} {g n cap j : Nat} {l : List Int} (h : Rd w (.slice (some ⟨g, 0, none⟩) n cap) n (ints l)) (hj : j ≤ n) (hc : n ≤ cap) (hl : l.length = n) : RdI w (.slice (some ⟨g, 0, none⟩) j cap) (l.take j) := by
  obtain ⟨A, c, hv, h1, h2, h3⟩ := h
  injection hv with hA _ hcc
  subst hA; subst hcc
  refine ⟨_, _, by rw [List.length_take, Nat.min_eq_left (by omega)], by rw [List.length_take]; omega, h2, fun hn => ?_⟩
  rw [List.length_take] at hn
  obtain ⟨b, off, e, hb, hcell⟩ := h3 (by omega)
  refine ⟨b, off, e, hb, fun q u hu => hcell q u ?_⟩
  rw [ints, List.map_take, List.getElem?_take] at hu
  split at hu
  · exact hu
  · cases hu
theorem rd_drop {w : World} {g n cap j : Nat} {l : List Int} (h : Rd w (.slice (some ⟨g, 0, none⟩) n cap) n (ints l)) (hj : j ≤ n) : Rd w (.slice (some ⟨g, j, none⟩) (n - j) (cap - j)) (n - j) (ints (l.drop j)) := by
  obtain ⟨A, c, hv, h1, h2, h3⟩ := h
  injection hv with hA _ hcc
  subst hA; subst hcc
  refine ⟨_, _, rfl, by omega, by omega, fun hn => ?_⟩
  obtain ⟨b, off, e, hb, hcell⟩ := h3 (by omega)
  injection e with e
  injection e with e1 e2
  subst e1; subst e2
  refine ⟨g, j, rfl, hb, fun q u hu => ?_⟩
  have := hcell (j + q) u (by rw [ints, List.map_drop, List.getElem?_drop] at hu; exact hu)
  simpa using this
theorem Try.infoInt : (Try.prog.info? 3).map (fun i => (i.zero, i.size, i.bytes)) = some (some (.int .i64 0), 1, 8) := by kernel_rfl

set_option maxRecDepth 100000 in
set_option maxHeartbeats 400000 in
theorem eqIntS_c (v v' : Value) (l l' : List Int) (w : World) (hr : RdI w v l) (hr' : RdI w v' l') :
    Calls Try.prog 39 #[v, v'] w fun en w' => en = .returned (.bool (decide (l = l'))) ∧ Below w.heap.size w w' := by
  obtain ⟨A, c, rfl, hc, hm, hr⟩ := hr
  obtain ⟨A', c', rfl, hc', hm', hr'⟩ := hr'
  rw [maxLen_eq] at hm hm'
  by_cases hlen : l.length = l'.length
  · have hlb : ((l.length : Int) != l'.length) = false := by rw [hlen]; simp
    have HL := Lib.hid hlen
    clear hlen
    go_enter Try.func39, Try.ntmps39
    go_wp2
    go_loopw [5] (fun i wr => ∃ k : Nat, k ≤ l.length ∧ i = .int .i64 k ∧ l.take k = l'.take k ∧ Below w.heap.size w wr) (fun i _ => l.length - (intOf i).toNat)
    case atStart => exact ⟨0, Nat.zero_le _, rfl, rfl, Below.refl _ _⟩
    case round =>
      obtain ⟨k, hk, rfl, hpre, hb⟩ := hrel
      have HP := Lib.hid hpre
      clear hpre
      by_cases hlt : k < l.length
      · have hlt' : k < l'.length := by have := HL.out; omega
        obtain ⟨b, off, rfl, hbl, hcell⟩ := hr (by omega)
        obtain ⟨b', off', rfl, hbl', hcell'⟩ := hr' (by omega)
        have hx : l[k]? = some l[k] := by simp [hlt]
        generalize l[k] = t at hx
        have hx' : l'[k]? = some l'[k] := by simp [hlt']
        generalize l'[k] = t' at hx'
        have c0 := cell_at hcell hb hbl (ints_get hx)
        have d0 := cell_at hcell' hb hbl' (ints_get hx')
        have i0 : (0 : Int) ≤ (k : Int) := Int.natCast_nonneg _
        have i1 : (k : Int) < (l.length : Int) := by omega
        have i2 : (k : Int) < (l'.length : Int) := by omega
        have HX := Lib.hid hx
        have HX' := Lib.hid hx'
        clear hx hx'
        go_wp2_with fail
        go_quiet (fail)
        go_wp2
        · go_ret
          have h : (t != t') = true := by assumption
          refine ⟨?_, (by repeat (first | exact Below.refl _ _ | assumption | refine bel_al ?_ _ | refine bel_dr ?_ | refine below_drewN ?_ _ | refine bel_then ?_ (by assumption)))⟩
          have hne : l ≠ l' := fun e => by
            have h1 := HX.out; have h2 := HX'.out; rw [e, h2] at h1
            have h3 : t' = t := Option.some.inj h1
            subst h3; simp at h
          rw [decide_eq_false hne]; rfl
        · have h : (t != t') = false := by assumption
          refine ⟨⟨k + 1, by omega, by go_num, ?_, (by repeat (first | exact Below.refl _ _ | assumption | refine bel_al ?_ _ | refine bel_dr ?_ | refine below_drewN ?_ _ | refine bel_then ?_ (by assumption)))⟩, by simp [intOf]; omega⟩
          have h3 : t = t' := by simpa using h
          rw [take_succ_of HX.out, take_succ_of HX'.out, HP.out, h3]
      · go_wp2
        go_ret
        refine ⟨?_, hb⟩
        have e := HP.out
        rw [List.take_of_length_le (by omega), List.take_of_length_le (by have := HL.out; omega)] at e
        rw [e]; simp
  · have hlb : ((l.length : Int) != l'.length) = true := by simp; omega
    have hne : l ≠ l' := fun e => hlen (by rw [e])
    go_enter Try.func39, Try.ntmps39
    go_wp2
    go_ret
    exact ⟨by rw [decide_eq_false hne]; rfl, Below.refl _ _⟩

/-- k, k+1, .., n of them. -/
def upFrom (k : Int) (n : Nat) : List Int := (List.range n).map fun (i : Nat) => k + (i : Int)
theorem upFrom_len (k : Int) (n : Nat) : (upFrom k n).length = n := by simp [upFrom]
theorem upFrom_get {k : Int} {n i : Nat} (h : i < n) : (upFrom k n)[i]? = some (k + i) := by simp [upFrom, h]
theorem upFrom_succ (k : Int) (n : Nat) : upFrom k (n + 1) = upFrom k n ++ [k + n] := by simp [upFrom, List.range_succ]

set_option maxRecDepth 100000 in
set_option maxHeartbeats 400000 in
theorem markIntS_c (v : Value) (l : List Int) (q : Int) (base n : Nat) (w : World) (ho : w.ownsRow base 3 1 v n (ints l)) (h0 : 0 ≤ q) (h1 : q ≤ 4611686018427387904) (hn : n ≤ 1048576000000) :
    Calls Try.prog 41 #[v, .int .i64 q] w fun en w' => en = .returned (.int .i64 (q + n)) ∧ w'.ownsRow base 3 1 v n (ints (upFrom q n)) ∧ w.grownBy w' v.ownBlock := by
  have hlen := ho.1
  rw [ints_len] at hlen
  rcases ho.2 with ⟨rfl, rfl⟩ | ⟨g, cap, cur, rfl, hbg, hgh, hnc, hcm, hcs, htk⟩
  · have hl : l = [] := List.eq_nil_of_length_eq_zero (by omega)
    subst hl
    go_enter Try.func41, Try.ntmps41
    go_wp2
    go_loopw [1, 5] (fun a i wr => a = .int .i64 q ∧ i = .int .i64 0 ∧ wr = w) (fun _ _ _ => 0)
    case atStart => exact ⟨rfl, rfl, rfl⟩
    case round =>
      obtain ⟨rfl, rfl, rfl⟩ := hrel
      go_wp2
      go_ret
      exact ⟨ret_int1 (by simp), by simpa [upFrom, ints] using World.ownsRow_nil _ _ _ _, World.grownBy.refl _ _⟩
  · have hn' : n ≤ cap := hnc
    rw [maxLen_eq] at hcm
    go_enter Try.func41, Try.ntmps41
    go_wp2
    go_loopw [1, 5] (fun a i wr => ∃ k : Nat, k ≤ n ∧ i = .int .i64 k ∧ a = .int .i64 (q + k) ∧ wr.ownsRow base 3 1 (.slice (some ⟨g, 0, none⟩) n cap) n (ints (upFrom q k ++ l.drop k)) ∧ w.grownBy wr (some g)) (fun _ i _ => n - (intOf i).toNat)
    case atStart => exact ⟨0, Nat.zero_le _, rfl, by simp, by simpa [upFrom] using ho, World.grownBy.refl _ _⟩
    case round =>
      obtain ⟨k, hk, rfl, rfl, hown, hg⟩ := hrel
      by_cases hlt : k < n
      · have hgl : (upFrom q k ++ l.drop k).length = n := by simp [upFrom_len]; omega
        have hx : (upFrom q k ++ l.drop k)[k]? = some ((upFrom q k ++ l.drop k)[k]'(by omega)) := List.getElem?_eq_getElem (by omega)
        have c0 := (hown.cellAt k (by omega)).trans (ints_get hx)
        have f0 := hown.frozenAt k
        have HO := Lib.hid hown
        clear hown hx
        go_wp2
        have hst := HO.out.stored k (.int .i64 (q + k))
        refine ⟨⟨k + 1, by omega, by go_num, ?_, ?_, ⟨hst.2.os.trans hg.os, hst.2.tape.trans hg.tape, hst.2.output.trans hg.output, Nat.le_trans hg.size hst.2.size, fun j hj hne => (hst.2.block j (Nat.lt_of_lt_of_le hj hg.size) hne).trans (hg.block j hj hne)⟩⟩, by simp [intOf]; omega⟩
        · exact congrArg (Value.int .i64) (by omega)
        · have e : (ints (upFrom q k ++ l.drop k)).set k (.int .i64 (q + k)) = ints (upFrom q (k + 1) ++ l.drop (k + 1)) := by
            have hd : l.drop k = l[k]'(by omega) :: l.drop (k + 1) := List.drop_eq_getElem_cons (by omega)
            rw [hd, upFrom_succ]
            unfold ints
            rw [List.map_append, List.set_append_right (h := by simp [upFrom_len])]
            simp only [List.length_map, upFrom_len, Nat.sub_self, List.map_cons, List.set_cons_zero, List.map_append, List.map_nil, List.append_assoc, List.cons_append, List.nil_append]
          rw [← e]; exact hst.1
      · obtain rfl : k = n := by omega
        go_wp2
        go_ret
        refine ⟨rfl, ?_, hg⟩
        have : l.drop k = [] := List.drop_of_length_le (by omega)
        rw [this, List.append_nil] at hown
        exact hown

set_option maxRecDepth 100000 in
set_option maxHeartbeats 400000 in
theorem heldIntS_c (v : Value) (q : Int) (n : Nat) (w : World) (hr : RdI w v (upFrom q n)) (h0 : 0 ≤ q) (h1 : q ≤ 4611686018427387904) (hn : n ≤ 1048576000000) :
    Calls Try.prog 42 #[v, .int .i64 q] w fun en w' => en = .returned (.int .i64 (q + n)) ∧ Below w.heap.size w w' := by
  obtain ⟨A, c, rfl, hc, hm, hr⟩ := hr
  rw [upFrom_len] at hc hr
  rw [maxLen_eq] at hm
  rw [upFrom_len]
  go_enter Try.func42, Try.ntmps42
  go_wp2
  go_loopw [1, 5] (fun a i wr => ∃ k : Nat, k ≤ n ∧ i = .int .i64 k ∧ a = .int .i64 (q + k) ∧ Below w.heap.size w wr) (fun _ i _ => n - (intOf i).toNat)
  case atStart => exact ⟨0, Nat.zero_le _, rfl, by simp, Below.refl _ _⟩
  case round =>
    obtain ⟨k, hk, rfl, rfl, hb⟩ := hrel
    by_cases hlt : k < n
    · obtain ⟨b, off, rfl, hbl, hcell⟩ := hr (by omega)
      have c0 := cell_at hcell hb hbl (ints_get (upFrom_get (k := q) hlt))
      have hne : ((q + k : Int) != (q + k : Int)) = false := by simp
      go_wp2
      refine ⟨⟨k + 1, by omega, by go_num, ?_, (by repeat (first | exact Below.refl _ _ | assumption | refine bel_al ?_ _ | refine bel_dr ?_ | refine below_drewN ?_ _ | refine bel_then ?_ (by assumption)))⟩, by simp [intOf]; omega⟩
      exact congrArg (Value.int .i64) (by omega)
    · obtain rfl : k = n := by omega
      go_wp2
      go_ret
      exact ⟨rfl, hb⟩
end Go.Proofs.Ytbjiipicbcamnaa
