/-
  l1Own: a copy of a slice of ints in memory of the call's own. Words for the walks of the laws: what stays as it was while rows of the call's own are marked. spec.l1Put: a number put into an increasing list (printed by gen_put.py). toIntS: a copy of a slice of ints. (joined by pack.py: Own Law Put IntsC)
-/
import Derived.Test.YtahehdgkbhjpoaaK5
import Derived.Test.YtahehdgkbhjpoaaK6
namespace Go.Proofs.Ytahehdgkbhjpoaa
set_option linter.unusedVariables false
set_option linter.unusedSimpArgs false
open Go.RowKit

theorem ints_one (l : List Int) : ∀ u ∈ ints l, u.oneCell' = true := by
  intro u hu
  obtain ⟨x, _, rfl⟩ := List.mem_map.1 hu
  rfl
/-- A new slice of ints that holds l, alone. -/
def OwnI (l : List Int) (w : World) (e : Ending) (w' : World) : Prop :=
  ∃ v, e = .returned v ∧ w'.ownsRow w.heap.size 3 1 v l.length (ints l) ∧ Below w.heap.size w w'
/-- A result: a slice of ints of the call's own and a bool. -/
def OwnIB (r : List Int × Bool) (w : World) (e : Ending) (w' : World) : Prop :=
  ∃ v, e = .returned (.tuple #[v, .bool r.2]) ∧ w'.ownsRow w.heap.size 3 1 v r.1.length (ints r.1) ∧ Below w.heap.size w w'

set_option maxRecDepth 100000 in
set_option maxHeartbeats 1000000 in
theorem l1Own_c (v : Value) (l : List Int) (w : World) (hr : RdI w v l) (hn : l.length ≤ 1000000) :
    Calls Try.prog 126 #[v] w (OwnI l w) := by
  have HR := Lib.hid hr
  clear hr
  obtain ⟨i0, hi, hz0, hz1, hz2⟩ := info_parts Try.infoInt
  go_enter Try.func126, Try.ntmps126
  go_wp2_with (at_builtin; refine wpList_app_rd _ rfl _ _ 27 rfl w.heap.size 3 i0 (.int .i64 0) 1 8 Try.underlying27 hi hz0 hz1 hz2 rfl (by decide) _ _ _ rfl (World.ownsRow_made (size := 1) w #[] 0 (Nat.le_refl _) (Nat.zero_le _) rfl) _ l.length (ints l) rfl (rd_below HR.out (bel_al (Below.refl _ _) _)) (by rw [ints_len]; omega) (ints_one l) (by rw [maxLen_eq]; omega) (by omega) (by simp) ?_; intro v' w1 hown' hgrow _)
  go_ret
  refine ⟨_, rfl, by simpa using hown', ?_⟩
  refine bel_grown (bel_al (Below.refl _ _) _) hgrow (fun q e => ?_)
  have h : w.heap.size = q := Option.some.inj e
  omega
end Go.Proofs.Ytahehdgkbhjpoaa

namespace Go.Proofs.Ytahehdgkbhjpoaa
set_option linter.unusedVariables false
set_option linter.unusedSimpArgs false
open Go.RowKit

theorem kept2 {a b : World} {base : Nat} {e : TypeId} {sz : Nat} {v v' : Value} {n : Nat} {xs : List Value} (h : a.ownsRow base e sz v n xs) (g : a.grownBy b v'.ownBlock) (sep : ∀ q q', v.ownBlock = some q → v'.ownBlock = some q' → q ≠ q') : b.ownsRow base e sz v n xs :=
  h.kept g (by
    cases hv : v.ownBlock with
    | none => exact .inl rfl
    | some q => exact .inr (fun hq => sep q q hv hq.symm rfl))
theorem bel_mark {B : Nat} {a b c : World} {r : Option Nat} (h : Below B a b) (hB : B ≤ b.heap.size) (g : b.grownBy c r) (hb : ∀ q', r = some q' → B ≤ q') : Below B a c :=
  ⟨g.os.trans h.os, g.tape.trans h.tape, g.output.trans h.output, Nat.le_trans h.size g.size, fun i hi => (g.block i (Nat.lt_of_lt_of_le hi hB) (fun e => by have := hb i e.symm; omega)).trans (h.block i hi)⟩
theorem cell_mark {b c : World} {r : Option Nat} (g : b.grownBy c r) {x o : Nat} (hx : x < b.heap.size) (hne : ∀ q', r = some q' → x ≠ q') : c.cell? ⟨x, o, none⟩ = b.cell? ⟨x, o, none⟩ :=
  World.cell?_of_block (g.block x hx (fun e => hne x e.symm rfl))
theorem ownIB_open {r : List Int × Bool} {w w' : World} {e : Ending} (h : OwnIB r w e w') : ∃ v, e = .returned (.tuple #[v, .bool r.2]) ∧ w'.ownsRow w.heap.size 3 1 v r.1.length (ints r.1) ∧ Below w.heap.size w w' := h
end Go.Proofs.Ytahehdgkbhjpoaa

namespace Go.Proofs.Ytahehdgkbhjpoaa
set_option linter.unusedVariables false
set_option linter.unusedSimpArgs false
open Go.RowKit

def putI : List Int → Int → List Int
  | [], n => [n]
  | x :: l, n => if x < n then x :: putI l n else if x = n then x :: l else n :: x :: l
theorem rd_front {w : World} {A : Option Addr} {l : List Int} {c k : Nat} (h : RdI w (.slice A l.length c) l) (hk : k ≤ l.length) : Rd w (.slice A k c) k (ints (l.take k)) := by
  obtain ⟨A', c', hv, h1, h2, h3⟩ := h
  injection hv with hA _ hcc
  subst hA; subst hcc
  refine ⟨_, _, rfl, by omega, h2, fun hn => ?_⟩
  obtain ⟨b, off, e, hb, hcell⟩ := h3 (by omega)
  refine ⟨b, off, e, hb, fun q u hu => hcell q u ?_⟩
  rw [ints, List.map_take, List.getElem?_take] at hu
  split at hu
  · exact hu
  · cases hu
theorem rd_back {w : World} {b off : Nat} {l : List Int} {c k : Nat} (h : RdI w (.slice (some ⟨b, off, none⟩) l.length c) l) (hk : k ≤ l.length) : Rd w (.slice (some ⟨b, off + k, none⟩) (l.length - k) (c - k)) (l.length - k) (ints (l.drop k)) := by
  obtain ⟨A', c', hv, h1, h2, h3⟩ := h
  injection hv with hA _ hcc
  subst hA; subst hcc
  refine ⟨_, _, rfl, by omega, by omega, fun hn => ?_⟩
  obtain ⟨b', off', e, hb, hcell⟩ := h3 (by omega)
  injection e with e
  injection e with e1 e2
  subst e1; subst e2
  refine ⟨b, off + k, rfl, hb, fun q u hu => ?_⟩
  have := hcell (k + q) u (by rw [ints, List.map_drop, List.getElem?_drop] at hu; exact hu)
  rw [Nat.add_assoc]; exact this
theorem putI_mem : ∀ (l : List Int) (n y : Int), y ∈ putI l n ↔ y = n ∨ y ∈ l := by
  intro l
  induction l with
  | nil => intro n y; simp [putI]
  | cons x l ih =>
    intro n y
    simp only [putI]
    split
    · rw [List.mem_cons, ih, List.mem_cons]
      constructor
      · rintro (h | h | h)
        · exact .inr (.inl h)
        · exact .inl h
        · exact .inr (.inr h)
      · rintro (h | h | h)
        · exact .inr (.inl h)
        · exact .inl h
        · exact .inr (.inr h)
    · split
      · rename_i h1 h2
        subst h2
        rw [List.mem_cons]
        constructor
        · exact .inr
        · rintro (h | h)
          · exact .inl h
          · exact h
      · rw [List.mem_cons]
theorem putI_len (l : List Int) (n : Int) : (putI l n).length ≤ l.length + 1 := by
  induction l with
  | nil => simp [putI]
  | cons x l ih =>
    simp only [putI]
    split
    · simp; omega
    · split <;> simp
theorem putI_inc : ∀ (l : List Int) (n : Int), l.Pairwise (· < ·) → (putI l n).Pairwise (· < ·) := by
  intro l
  induction l with
  | nil => intro n _; simp [putI]
  | cons x l ih =>
    intro n h
    rw [List.pairwise_cons] at h
    simp only [putI]
    split
    · rename_i hx
      rw [List.pairwise_cons]
      refine ⟨fun y hy => ?_, ih n h.2⟩
      rcases (putI_mem l n y).1 hy with rfl | hy
      · exact hx
      · exact h.1 y hy
    · split
      · exact List.pairwise_cons.2 h
      · rename_i h1 h2
        rw [List.pairwise_cons]
        refine ⟨fun y hy => ?_, List.pairwise_cons.2 h⟩
        rcases List.mem_cons.1 hy with rfl | hy
        · omega
        · have := h.1 y hy; omega
theorem putI_go {l : List Int} {n x : Int} {k : Nat} (hx : l[k]? = some x) (h : x < n) (e : putI l n = l.take k ++ putI (l.drop k) n) : putI l n = l.take (k + 1) ++ putI (l.drop (k + 1)) n := by
  have hk := (List.getElem?_eq_some_iff.1 hx).1
  have hd : l.drop k = x :: l.drop (k + 1) := by
    rw [List.drop_eq_getElem_cons hk]
    rw [List.getElem?_eq_getElem hk] at hx
    rw [Option.some.inj hx]
  rw [e, hd, take_succ_of hx]
  simp only [putI]
  rw [if_pos h]; simp
theorem putI_in {l : List Int} {n : Int} {k : Nat} (hx : l[k]? = some n) (e : putI l n = l.take k ++ putI (l.drop k) n) : putI l n = l := by
  have hk := (List.getElem?_eq_some_iff.1 hx).1
  have hd : l.drop k = n :: l.drop (k + 1) := by
    rw [List.drop_eq_getElem_cons hk]
    rw [List.getElem?_eq_getElem hk] at hx
    rw [Option.some.inj hx]
  have h2 : putI (n :: l.drop (k + 1)) n = n :: l.drop (k + 1) := by simp [putI]
  rw [e, hd, h2, ← hd, List.take_append_drop]
theorem putI_new {l : List Int} {n x : Int} {k : Nat} (hx : l[k]? = some x) (h : n < x) (e : putI l n = l.take k ++ putI (l.drop k) n) : putI l n = l.take k ++ n :: l.drop k := by
  have hk := (List.getElem?_eq_some_iff.1 hx).1
  have hd : l.drop k = x :: l.drop (k + 1) := by
    rw [List.drop_eq_getElem_cons hk]
    rw [List.getElem?_eq_getElem hk] at hx
    rw [Option.some.inj hx]
  rw [e, hd]
  simp only [putI]
  rw [if_neg (by omega), if_neg (by omega)]
theorem putI_end {l : List Int} {n : Int} (e : putI l n = l.take l.length ++ putI (l.drop l.length) n) : putI l n = l.take l.length ++ n :: l.drop l.length := by
  rw [e]; simp [putI]

/-- A slice of ints that reads as l. -/
def PutPost (l : List Int) (w : World) (e : Ending) (w' : World) : Prop := ∃ v, e = .returned v ∧ RdI w' v l ∧ Below w.heap.size w w'
/-- A slice of ints of its own that reads as l, or the one that came in. -/
def PutOwn (v0 : Value) (l0 l : List Int) (w : World) (e : Ending) (w' : World) : Prop := ∃ v, e = .returned v ∧ (w'.ownsRow w.heap.size 3 1 v l.length (ints l) ∨ (v = v0 ∧ l = l0)) ∧ Below w.heap.size w w'
theorem own_len {w : World} {base n : Nat} {v : Value} {l : List Int} (h : w.ownsRow base 3 1 v n (ints l)) : w.ownsRow base 3 1 v l.length (ints l) := by
  have e : l.length = n := by have := h.1; rw [ints_len] at this; omega
  rw [e]; exact h
set_option maxRecDepth 100000 in
set_option maxHeartbeats 4000000 in
theorem l1PutO_c (v : Value) (l : List Int) (n : Int) (w : World) (hr : RdI w v l) (hl : l.length ≤ 100000) :
    Calls Try.prog 105 #[v, .int .i64 n] w (PutOwn v l (putI l n) w) := by
  have HR := Lib.hid hr
  obtain ⟨A, c, rfl, hc, hm, hr⟩ := hr
  rw [maxLen_eq] at hm
  have HCELL := Lib.hid hr
  obtain ⟨i0, hi, hz0, hz1, hz2⟩ := info_parts Try.infoInt
  clear hr
  by_cases h0 : l = []
  · subst h0
    simp only [List.length_nil] at hc HR ⊢
    have HT : Hid (∀ (A : Option Addr) (c : Nat), c ≤ 9223372036854775807 → Rd w (.slice A 0 c) 0 (ints (([] : List Int).take 0))) := Lib.hid (fun A c h => ⟨A, c, rfl, Nat.zero_le _, h, fun h => absurd h (by simp)⟩)
    have HD : Hid (∀ (A : Option Addr) (c : Nat), c ≤ 9223372036854775807 → Rd w (.slice A 0 c) 0 (ints (([] : List Int).drop 0))) := Lib.hid (fun A c h => ⟨A, c, rfl, Nat.zero_le _, h, fun h => absurd h (by simp)⟩)
    have HTL : Hid ((ints (([] : List Int).take 0)).length = 0 * 1) := Lib.hid rfl
    have HDL : Hid ((ints (([] : List Int).drop 0)).length = 0 * 1) := Lib.hid rfl
    have HE : Hid (putI [] n = ([] : List Int).take 0 ++ n :: ([] : List Int).drop 0) := Lib.hid rfl
    clear HCELL HR
    by_cases hc0 : c = 0
    all_goals
     (try subst hc0)
     rcases A with _ | ad
     all_goals
      go_enter Try.func105, Try.ntmps105
      go_wp2_with fail
      go_loopw [5] (fun v5 wr => v5 = .int .i64 0 ∧ w = wr) (fun _ _ => 0)
      case atStart => exact ⟨rfl, rfl⟩
      case round =>
      obtain ⟨rfl, rfl⟩ := hrel
      go_wp2_with (first | (at_builtin; refine wpList_app_rd _ rfl _ _ 27 rfl w.heap.size 3 i0 (.int .i64 0) 1 8 Try.underlying27 hi hz0 hz1 hz2 rfl (by decide) _ _ _ rfl (World.ownsRow_made (size := 1) w #[] 0 (Nat.le_refl _) (Nat.zero_le _) rfl) _ (0) (ints (([] : List Int).take 0)) rfl (rd_below (HT.out _ _ (by omega)) (bel_al (Below.refl _ _) _)) HTL.out (ints_one _) (by rw [maxLen_eq]; omega) (by omega) (by simp) ?_; intro v1 w1 ho1 hg1 _; have HB1 := Lib.hid (bel_grown (bel_al (Below.refl w.heap.size w) _) hg1 (fun q e => (by have h : w.heap.size = q := Option.some.inj e; omega))); have hs1 := hg1.size) | (at_builtin; refine wpList_app_rd _ rfl _ _ 27 rfl w.heap.size 3 i0 (.int .i64 0) 1 8 Try.underlying27 hi hz0 hz1 hz2 rfl (by decide) _ _ _ rfl (ho1.alloc _) _ 1 [.int .i64 n] rfl (rd_new _ rfl (Nat.le_refl _) (by rw [maxLen_eq]; omega)) rfl (ints_one [n]) (by rw [maxLen_eq]; omega) (by omega) (by have := HB1.out.size; simp; omega) ?_; intro v2 w2 ho2 hg2 _; have HB2 := Lib.hid (bel_grown (bel_al HB1.out _) hg2 (fun q e => (ho1.lt q e).1))) | (at_builtin; refine wpList_app_rd _ rfl _ _ 27 rfl w.heap.size 3 i0 (.int .i64 0) 1 8 Try.underlying27 hi hz0 hz1 hz2 rfl (by decide) _ _ _ rfl ho2 _ (0) (ints (([] : List Int).drop 0)) rfl (rd_below (HD.out _ _ (by omega)) HB2.out) HDL.out (ints_one _) (by rw [maxLen_eq]; omega) (by omega) HB2.out.size ?_; intro v3 w3 ho3 hg3 _; have HB3 := Lib.hid (bel_grown HB2.out hg3 (fun q e => (ho2.lt q e).1))))
      go_ret
      have e1 : ([] : List Value) ++ ints (([] : List Int).take 0) ++ [Value.int .i64 n] ++ ints (([] : List Int).drop 0) = ints (putI [] n) := by rw [HE.out]; simp [ints]
      refine ⟨_, rfl, .inl ?_, HB3.out⟩
      have ho4 := ho3
      simp only [List.nil_append] at e1 ho4
      rw [e1] at ho4
      exact own_len ho4
  have HPOS : Hid (0 < l.length) := Lib.hid (List.length_pos_iff.2 h0)
  clear h0
  go_enter Try.func105, Try.ntmps105
  go_wp2_with fail
  go_loopw [5] (fun v5 wr => ∃ k : Nat, k ≤ l.length ∧ v5 = .int .i64 k ∧ Hid (putI l n = l.take k ++ putI (l.drop k) n) ∧ w = wr) (fun v5 _ => l.length - (intOf v5).toNat)
  case atStart => exact ⟨0, Nat.zero_le _, rfl, Lib.hid rfl, rfl⟩
  case round =>
    obtain ⟨k, hk, rfl, HE, rfl⟩ := hrel
    by_cases hlt : k < l.length
    · obtain ⟨b, off, rfl, hbl, hcell⟩ := HCELL.out (by omega)
      obtain ⟨x, hx⟩ : ∃ x, l[k]? = some x := ⟨_, List.getElem?_eq_getElem hlt⟩
      have c0 := hcell _ _ (ints_get hx)
      have HX := Lib.hid hx
      have i0' : (0 : Int) ≤ (k : Int) := by omega
      have i1 : (k : Int) < (l.length : Int) := by omega
      have i2 : (k : Int) ≤ (c : Int) := by omega
      clear hcell hx
      by_cases hxn : x < n
      · have HE2 := Lib.hid (putI_go HX.out hxn HE.out)
        go_wp2
        exact ⟨⟨k + 1, by omega, by go_num, HE2, (by first | rfl | trivial)⟩, by simp [intOf]; omega⟩
      · by_cases hxe : x = n
        · have e0 : ((x : Int) == n) = true := by rw [beq_iff_eq]; exact hxe
          subst hxe
          have HF := Lib.hid (putI_in HX.out HE.out)
          go_wp2
          go_ret
          exact ⟨_, rfl, .inr ⟨rfl, HF.out⟩, Below.refl _ _⟩
        · have e0 : ((x : Int) == n) = false := by rw [beq_eq_false_iff_ne]; exact hxe
          have HF := Lib.hid (putI_new HX.out (show n < x by omega) HE.out)
          clear HE
          have HE := HF
          have HT : Hid (Rd w (.slice (some ⟨b, off, none⟩) k c) k (ints (l.take k))) := Lib.hid (rd_front HR.out (by omega))
          have HTL : Hid ((ints (l.take k)).length = k * 1) := Lib.hid (by rw [ints_len, List.length_take]; omega)
          have HD : Hid (Rd w (.slice (some ⟨b, off + k, none⟩) (l.length - k) (c - k)) (l.length - k) (ints (l.drop k))) := Lib.hid (rd_back HR.out (by omega))
          have HDL : Hid ((ints (l.drop k)).length = (l.length - k) * 1) := Lib.hid (by rw [ints_len, List.length_drop]; omega)
          have hck : ¬ (c = k) := by omega
          clear hxe HF
          go_wp2_with (first | (at_builtin; refine wpList_app_rd _ rfl _ _ 27 rfl w.heap.size 3 i0 (.int .i64 0) 1 8 Try.underlying27 hi hz0 hz1 hz2 rfl (by decide) _ _ _ rfl (World.ownsRow_made (size := 1) w #[] 0 (Nat.le_refl _) (Nat.zero_le _) rfl) _ (k) (ints (l.take (k))) rfl (rd_below HT.out (bel_al (Below.refl _ _) _)) HTL.out (ints_one _) (by rw [maxLen_eq]; omega) (by omega) (by simp) ?_; intro v1 w1 ho1 hg1 _; have HB1 := Lib.hid (bel_grown (bel_al (Below.refl w.heap.size w) _) hg1 (fun q e => (by have h : w.heap.size = q := Option.some.inj e; omega))); have hs1 := hg1.size) | (at_builtin; refine wpList_app_rd _ rfl _ _ 27 rfl w.heap.size 3 i0 (.int .i64 0) 1 8 Try.underlying27 hi hz0 hz1 hz2 rfl (by decide) _ _ _ rfl (ho1.alloc _) _ 1 [.int .i64 n] rfl (rd_new _ rfl (Nat.le_refl _) (by rw [maxLen_eq]; omega)) rfl (ints_one [n]) (by rw [maxLen_eq]; omega) (by omega) (by have := HB1.out.size; simp; omega) ?_; intro v2 w2 ho2 hg2 _; have HB2 := Lib.hid (bel_grown (bel_al HB1.out _) hg2 (fun q e => (ho1.lt q e).1))) | (at_builtin; refine wpList_app_rd _ rfl _ _ 27 rfl w.heap.size 3 i0 (.int .i64 0) 1 8 Try.underlying27 hi hz0 hz1 hz2 rfl (by decide) _ _ _ rfl ho2 _ (l.length - k) (ints (l.drop (k))) rfl (rd_below (HD.out) HB2.out) HDL.out (ints_one _) (by rw [maxLen_eq]; omega) (by omega) HB2.out.size ?_; intro v3 w3 ho3 hg3 _; have HB3 := Lib.hid (bel_grown HB2.out hg3 (fun q e => (ho2.lt q e).1))))
          go_ret
          have e1 : ([] : List Value) ++ ints (l.take (k)) ++ [Value.int .i64 n] ++ ints (l.drop (k)) = ints (putI l n) := by rw [HE.out]; simp [ints]
          refine ⟨_, rfl, .inl ?_, HB3.out⟩
          have ho4 := ho3
          simp only [List.nil_append] at e1 ho4
          rw [e1] at ho4
          exact own_len ho4
    · obtain rfl : k = l.length := by omega
      have HF := Lib.hid (putI_end HE.out)
      clear HE
      have HE := HF
      have HT : Hid (Rd w (.slice A l.length c) l.length (ints (l.take l.length))) := Lib.hid (rd_front HR.out (Nat.le_refl _))
      have HTL : Hid ((ints (l.take l.length)).length = l.length * 1) := Lib.hid (by rw [ints_len, List.length_take]; omega)
      have HD : Hid (∀ (A : Option Addr) (c : Nat), c ≤ 9223372036854775807 → Rd w (.slice A 0 c) 0 (ints (l.drop l.length))) := Lib.hid (fun A c h => ⟨A, c, rfl, Nat.zero_le _, h, fun h => absurd h (by simp)⟩)
      have HDL : Hid ((ints (l.drop l.length)).length = 0 * 1) := Lib.hid (by rw [ints_len, List.length_drop]; omega)
      have i0' : (0 : Int) ≤ (l.length : Int) := by omega
      have i2 : (l.length : Int) ≤ (c : Int) := by omega
      clear HF
      obtain ⟨b, off, rfl, _⟩ := HCELL.out HPOS.out
      by_cases hcl : c = l.length
      · subst hcl
        go_wp2_with (first | (at_builtin; refine wpList_app_rd _ rfl _ _ 27 rfl w.heap.size 3 i0 (.int .i64 0) 1 8 Try.underlying27 hi hz0 hz1 hz2 rfl (by decide) _ _ _ rfl (World.ownsRow_made (size := 1) w #[] 0 (Nat.le_refl _) (Nat.zero_le _) rfl) _ (l.length) (ints (l.take (l.length))) rfl (rd_below HT.out (bel_al (Below.refl _ _) _)) HTL.out (ints_one _) (by rw [maxLen_eq]; omega) (by omega) (by simp) ?_; intro v1 w1 ho1 hg1 _; have HB1 := Lib.hid (bel_grown (bel_al (Below.refl w.heap.size w) _) hg1 (fun q e => (by have h : w.heap.size = q := Option.some.inj e; omega))); have hs1 := hg1.size) | (at_builtin; refine wpList_app_rd _ rfl _ _ 27 rfl w.heap.size 3 i0 (.int .i64 0) 1 8 Try.underlying27 hi hz0 hz1 hz2 rfl (by decide) _ _ _ rfl (ho1.alloc _) _ 1 [.int .i64 n] rfl (rd_new _ rfl (Nat.le_refl _) (by rw [maxLen_eq]; omega)) rfl (ints_one [n]) (by rw [maxLen_eq]; omega) (by omega) (by have := HB1.out.size; simp; omega) ?_; intro v2 w2 ho2 hg2 _; have HB2 := Lib.hid (bel_grown (bel_al HB1.out _) hg2 (fun q e => (ho1.lt q e).1))) | (at_builtin; refine wpList_app_rd _ rfl _ _ 27 rfl w.heap.size 3 i0 (.int .i64 0) 1 8 Try.underlying27 hi hz0 hz1 hz2 rfl (by decide) _ _ _ rfl ho2 _ (0) (ints (l.drop (l.length))) rfl (rd_below (HD.out _ _ (by omega)) HB2.out) HDL.out (ints_one _) (by rw [maxLen_eq]; omega) (by omega) HB2.out.size ?_; intro v3 w3 ho3 hg3 _; have HB3 := Lib.hid (bel_grown HB2.out hg3 (fun q e => (ho2.lt q e).1))))
        go_ret
        have e1 : ([] : List Value) ++ ints (l.take (l.length)) ++ [Value.int .i64 n] ++ ints (l.drop (l.length)) = ints (putI l n) := by rw [HE.out]; simp [ints]
        refine ⟨_, rfl, .inl ?_, HB3.out⟩
        have ho4 := ho3
        simp only [List.nil_append] at e1 ho4
        rw [e1] at ho4
        exact own_len ho4
      · have hcl' : ¬ (l.length = c) := fun e => hcl e.symm
        go_wp2_with (first | (at_builtin; refine wpList_app_rd _ rfl _ _ 27 rfl w.heap.size 3 i0 (.int .i64 0) 1 8 Try.underlying27 hi hz0 hz1 hz2 rfl (by decide) _ _ _ rfl (World.ownsRow_made (size := 1) w #[] 0 (Nat.le_refl _) (Nat.zero_le _) rfl) _ (l.length) (ints (l.take (l.length))) rfl (rd_below HT.out (bel_al (Below.refl _ _) _)) HTL.out (ints_one _) (by rw [maxLen_eq]; omega) (by omega) (by simp) ?_; intro v1 w1 ho1 hg1 _; have HB1 := Lib.hid (bel_grown (bel_al (Below.refl w.heap.size w) _) hg1 (fun q e => (by have h : w.heap.size = q := Option.some.inj e; omega))); have hs1 := hg1.size) | (at_builtin; refine wpList_app_rd _ rfl _ _ 27 rfl w.heap.size 3 i0 (.int .i64 0) 1 8 Try.underlying27 hi hz0 hz1 hz2 rfl (by decide) _ _ _ rfl (ho1.alloc _) _ 1 [.int .i64 n] rfl (rd_new _ rfl (Nat.le_refl _) (by rw [maxLen_eq]; omega)) rfl (ints_one [n]) (by rw [maxLen_eq]; omega) (by omega) (by have := HB1.out.size; simp; omega) ?_; intro v2 w2 ho2 hg2 _; have HB2 := Lib.hid (bel_grown (bel_al HB1.out _) hg2 (fun q e => (ho1.lt q e).1))) | (at_builtin; refine wpList_app_rd _ rfl _ _ 27 rfl w.heap.size 3 i0 (.int .i64 0) 1 8 Try.underlying27 hi hz0 hz1 hz2 rfl (by decide) _ _ _ rfl ho2 _ (0) (ints (l.drop (l.length))) rfl (rd_below (HD.out _ _ (by omega)) HB2.out) HDL.out (ints_one _) (by rw [maxLen_eq]; omega) (by omega) HB2.out.size ?_; intro v3 w3 ho3 hg3 _; have HB3 := Lib.hid (bel_grown HB2.out hg3 (fun q e => (ho2.lt q e).1))))
        go_ret
        have e1 : ([] : List Value) ++ ints (l.take (l.length)) ++ [Value.int .i64 n] ++ ints (l.drop (l.length)) = ints (putI l n) := by rw [HE.out]; simp [ints]
        refine ⟨_, rfl, .inl ?_, HB3.out⟩
        have ho4 := ho3
        simp only [List.nil_append] at e1 ho4
        rw [e1] at ho4
        exact own_len ho4
theorem l1Put_c (v : Value) (l : List Int) (n : Int) (w : World) (hr : RdI w v l) (hl : l.length ≤ 100000) :
    Calls Try.prog 105 #[v, .int .i64 n] w (PutPost (putI l n) w) :=
  (l1PutO_c v l n w hr hl).mono fun _ _ ⟨v', he, h, hb⟩ => ⟨v', he, by rcases h with h | ⟨rfl, h⟩; exact rdi_own h; rw [h]; exact rdi_below hr hb, hb⟩
end Go.Proofs.Ytahehdgkbhjpoaa

namespace Go.Proofs.Ytahehdgkbhjpoaa
set_option linter.unusedVariables false
set_option linter.unusedSimpArgs false
open Go.RowKit

def one (x : Int) : List Value := [.int .i64 x]
theorem one_len (x : Int) : (one x).length = 1 := rfl
theorem flat_one (l : List Int) : l.flatMap one = ints l := by
  induction l with
  | nil => rfl
  | cons x l ih => rw [List.flatMap_cons, ih]; rfl
def zone : List Value := [.int .i64 0]
end Go.Proofs.Ytahehdgkbhjpoaa
