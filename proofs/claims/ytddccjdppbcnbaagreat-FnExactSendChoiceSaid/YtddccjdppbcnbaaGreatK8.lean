/-
  l1Own: a copy of a slice of ints in memory of the call's own. Words for the walks of the laws: what stays as it was while rows of the call's own are marked. toIntS: a copy of a slice of ints. (joined by pack.py: Own Law IntsC)
-/
import Derived.Test.YtddccjdppbcnbaaGreatK3
import Derived.Test.YtddccjdppbcnbaaGreatK7
namespace Go.Proofs.YtddccjdppbcnbaaGreat
set_option linter.unusedVariables false
set_option linter.unusedSimpArgs false
open Go.RowKit

theorem ints_one (l : List Int) : ∀ u ∈ ints l, u.oneCell' = true := by
  intro u hu
  obtain ⟨x, _, rfl⟩ := List.mem_map.1 hu
  rfl
/-- A new slice of ints that holds l, alone. -/
def OwnI (l : List Int) (w : World) (e : Ending) (w' : World) : Prop :=
  ∃ v, e = .returned v ∧ w'.ownsRow w.heap.size 3 1 v l.length (ints l) ∧ Below w.heap.size w w'
/-- A result: a slice of ints of the call's own and a bool. -/
def OwnIB (r : List Int × Bool) (w : World) (e : Ending) (w' : World) : Prop :=
  ∃ v, e = .returned (.tuple #[v, .bool r.2]) ∧ w'.ownsRow w.heap.size 3 1 v r.1.length (ints r.1) ∧ Below w.heap.size w w'

set_option maxRecDepth 100000 in
set_option maxHeartbeats 1000000 in
theorem l1Own_c (v : Value) (l : List Int) (w : World) (hr : RdI w v l) (hn : l.length ≤ 1000000) :
    Calls Tryz.prog 41 #[v] w (OwnI l w) := by
  have HR := Lib.hid hr
  clear hr
  obtain ⟨i0, hi, hz0, hz1, hz2⟩ := info_parts Tryz.infoInt
  go_enter Tryz.func41, Tryz.ntmps41
  go_wp2_with (at_builtin; refine wpList_app_rd _ rfl _ _ 26 rfl w.heap.size 3 i0 (.int .i64 0) 1 8 Tryz.underlying26 hi hz0 hz1 hz2 rfl (by decide) _ _ _ rfl (World.ownsRow_made (size := 1) w #[] 0 (Nat.le_refl _) (Nat.zero_le _) rfl) _ l.length (ints l) rfl (rd_below HR.out (bel_al (Below.refl _ _) _)) (by rw [ints_len]; omega) (ints_one l) (by rw [maxLen_eq]; omega) (by omega) (by simp) ?_; intro v' w1 hown' hgrow _)
  go_ret
  refine ⟨_, rfl, by simpa using hown', ?_⟩
  refine bel_grown (bel_al (Below.refl _ _) _) hgrow (fun q e => ?_)
  have h : w.heap.size = q := Option.some.inj e
  omega
end Go.Proofs.YtddccjdppbcnbaaGreat

namespace Go.Proofs.YtddccjdppbcnbaaGreat
set_option linter.unusedVariables false
set_option linter.unusedSimpArgs false
open Go.RowKit

theorem kept2 {a b : World} {base : Nat} {e : TypeId} {sz : Nat} {v v' : Value} {n : Nat} {xs : List Value} (h : a.ownsRow base e sz v n xs) (g : a.grownBy b v'.ownBlock) (sep : ∀ q q', v.ownBlock = some q → v'.ownBlock = some q' → q ≠ q') : b.ownsRow base e sz v n xs :=
  h.kept g (by
    cases hv : v.ownBlock with
    | none => exact .inl rfl
    | some q => exact .inr (fun hq => sep q q hv hq.symm rfl))
theorem bel_mark {B : Nat} {a b c : World} {r : Option Nat} (h : Below B a b) (hB : B ≤ b.heap.size) (g : b.grownBy c r) (hb : ∀ q', r = some q' → B ≤ q') : Below B a c :=
  ⟨g.os.trans h.os, g.tape.trans h.tape, g.output.trans h.output, Nat.le_trans h.size g.size, fun i hi => (g.block i (Nat.lt_of_lt_of_le hi hB) (fun e => by have := hb i e.symm; omega)).trans (h.block i hi)⟩
theorem cell_mark {b c : World} {r : Option Nat} (g : b.grownBy c r) {x o : Nat} (hx : x < b.heap.size) (hne : ∀ q', r = some q' → x ≠ q') : c.cell? ⟨x, o, none⟩ = b.cell? ⟨x, o, none⟩ :=
  World.cell?_of_block (g.block x hx (fun e => hne x e.symm rfl))
theorem ownIB_open {r : List Int × Bool} {w w' : World} {e : Ending} (h : OwnIB r w e w') : ∃ v, e = .returned (.tuple #[v, .bool r.2]) ∧ w'.ownsRow w.heap.size 3 1 v r.1.length (ints r.1) ∧ Below w.heap.size w w' := h
end Go.Proofs.YtddccjdppbcnbaaGreat

namespace Go.Proofs.YtddccjdppbcnbaaGreat
set_option linter.unusedVariables false
set_option linter.unusedSimpArgs false
open Go.RowKit

def one (x : Int) : List Value := [.int .i64 x]
theorem one_len (x : Int) : (one x).length = 1 := rfl
theorem flat_one (l : List Int) : l.flatMap one = ints l := by
  induction l with
  | nil => rfl
  | cons x l ih => rw [List.flatMap_cons, ih]; rfl
def zone : List Value := [.int .i64 0]
set_option maxRecDepth 100000 in
set_option maxHeartbeats 400000 in
theorem toIntS_c (v : Value) (l : List Int) (w : World) (hl : l.length ≤ 1048576) (hr : RdI w v l) :
    Calls Tryz.prog 9 #[v] w (OwnI l w) := by
  obtain ⟨A, c, rfl, hc, hm, hr⟩ := hr
  rw [maxLen_eq] at hm
  obtain ⟨i0, hi, hz0, hz1, hz2⟩ := info_parts Tryz.infoInt
  go_enter Tryz.func9, Tryz.ntmps9
  go_wp2_with (at_make; refine wpList_make_full _ rfl _ _ 26 rfl w.heap.size 3 i0 _ 1 Tryz.underlying26 hi hz0 hz1 _ _ _ _ l.length rfl rfl rfl rfl (by rw [hz2]; omega) (by rw [maxLen_eq]; omega) (Nat.le_refl _) ?_; intro w1 hown1 hg1)
  have hb1 : Below w.heap.size w w1 := (Below.refl _ _).grown hg1 (Nat.le_refl _) (fun k h => by cases h)
  clear hg1
  go_loopw [4] (fun i wr => ∃ k : Nat, k ≤ l.length ∧ i = .int .i64 k ∧ wr.ownsRow w.heap.size 3 1 (.slice (some ⟨w.heap.size, 0, none⟩) l.length l.length) l.length (part one zone l k) ∧ Below w.heap.size w wr) (fun i _ => l.length - (intOf i).toNat)
  case atStart => exact ⟨0, Nat.zero_le _, rfl, by rw [part_zero, show zone = (#[.int .i64 0] : Array Value).toList from rfl, ← made_eq (sz := 1) rfl (by omega)]; exact hown1, hb1⟩
  case round =>
    obtain ⟨k, hk, rfl, hown, hb⟩ := hrel
    by_cases hlt : k < l.length
    · obtain ⟨b, off, rfl, hbl, hcell⟩ := hr (by omega)
      have hx : l[k]? = some l[k] := by simp [hlt]
      generalize l[k] = t at hx
      have c0 := cell_at hcell hb hbl (ints_get hx)
      have HX := Lib.hid hx
      clear hx hown1 hb1
      have hg : (part one zone l k)[k]? = zone[0]? := by have := part_get (sz := 1) one_len rfl hlt (j := 0) (zs := zone) (by omega); simpa using this
      have d0 : wr.cell? ⟨w.heap.size, k, none⟩ = some (.int .i64 0) := (hown.cellAt k (by omega)).trans hg
      have f0 := hown.frozenAt k
      have HO := Lib.hid hown
      clear hown
      go_wp2
      refine ⟨⟨k + 1, by omega, by go_num, ?_, bel_put (Nat.le_refl _) (one t) wr k hb⟩, by simp [intOf]; omega⟩
      have hp := own_put (one t) wr _ k HO.out
      have e := part_put (sz := 1) (zs := zone) one_len rfl HX.out
      rw [Nat.mul_one] at e
      rw [e] at hp
      exact hp
    · go_wp2
      go_ret
      obtain rfl : k = l.length := by omega
      refine ⟨_, rfl, ?_, hb⟩
      rw [part_full, flat_one] at hown; exact hown
end Go.Proofs.YtddccjdppbcnbaaGreat
