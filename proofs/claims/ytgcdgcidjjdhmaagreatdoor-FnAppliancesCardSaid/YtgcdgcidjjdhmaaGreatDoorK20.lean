/-
  The choice for a need: impl.choose, impl.missing, spec.dsPick (printed by gen_pick.py). IsBestChoice: the plain law: counting by kind and by names says the same as comparing what is missing. FnSending: the callees' contracts: fleets and texts compared, a name looked for, a fleet's validity. (joined by pack.py: Pick BestP SendC)
-/
import Derived.Test.YtgcdgcidjjdhmaaGreatDoorK18
import Derived.Test.YtgcdgcidjjdhmaaGreatDoorK14
import Derived.Test.YtgcdgcidjjdhmaaGreatDoorK19
import Derived.Test.YtgcdgcidjjdhmaaGreatDoorK9
import Derived.Test.YtgcdgcidjjdhmaaGreatDoorK12
import Derived.Test.YtgcdgcidjjdhmaaGreatDoorK5
import Derived.BigQuiet
namespace Go.Proofs.YtgcdgcidjjdhmaaGreatDoor
set_option linter.unusedVariables false
set_option linter.unusedSimpArgs false
open Go.RowKit

def kdOf (f : List Ap) (i : Int) : Nat := match f[i.toNat]? with
  | some a => a.kd.toNat
  | none => 0
theorem kdOf_at {f : List Ap} {i : Nat} {a : Ap} (h : f[i]? = some a) : kdOf f (i : Int) = a.kd.toNat := by unfold kdOf; rw [Int.toNat_natCast, h]
def pickStep (f : List Ap) (st : List Int × List Int) (i : Int) : List Int × List Int :=
  if 0 < st.2.getD (kdOf f i) 0 then (st.1 ++ [i], st.2.set (kdOf f i) (st.2.getD (kdOf f i) 0 - 1)) else st
theorem pickStep_yes {f : List Ap} {S d : List Int} {i : Int} {q : Nat} {x : Int} (hq : kdOf f i = q) (hx : d.getD q 0 = x) (h : 0 < x) : pickStep f (S, d) i = (S ++ [i], d.set q (x - 1)) := by
  unfold pickStep; dsimp only; rw [hq, hx, if_pos h]
theorem pickStep_no {f : List Ap} {S d : List Int} {i : Int} {q : Nat} {x : Int} (hq : kdOf f i = q) (hx : d.getD q 0 = x) (h : ¬ 0 < x) : pickStep f (S, d) i = (S, d) := by
  unfold pickStep; dsimp only; rw [hq, hx, if_neg h]
def pickL (f : List Ap) (list need : List Int) : List Int × List Int := list.foldl (pickStep f) ([], need)
theorem pickL_snoc {f : List Ap} {L need : List Int} {k : Nat} {x : Int} (h : L[k]? = some x) : pickL f (L.take (k + 1)) need = pickStep f (pickL f (L.take k) need) x := by
  unfold pickL; rw [take_succ_of h, List.foldl_append]; rfl
def missStep (f : List Ap) (d : List Int) (i : Int) : List Int := d.set (kdOf f i) (d.getD (kdOf f i) 0 - 1)
def missL (f : List Ap) (out need : List Int) : List Int := out.foldl (missStep f) need
theorem missL_snoc {f : List Ap} {L need : List Int} {k : Nat} {x : Int} (h : L[k]? = some x) : missL f (L.take (k + 1)) need = missStep f (missL f (L.take k) need) x := by
  unfold missL; rw [take_succ_of h, List.foldl_append]; rfl
theorem pick_miss_aux (f : List Ap) (need : List Int) : ∀ (L : List Int) (st : List Int × List Int), st.2 = missL f st.1 need → (L.foldl (pickStep f) st).2 = missL f (L.foldl (pickStep f) st).1 need := by
  intro L
  induction L with
  | nil => intro st h; exact h
  | cons i L ih =>
    intro st h
    rw [List.foldl_cons]
    apply ih
    unfold pickStep
    split
    · dsimp only
      unfold missL at h ⊢
      rw [List.foldl_append, ← h]; rfl
    · exact h
theorem pick_miss (f : List Ap) (L need : List Int) : missL f (pickL f L need).1 need = (pickL f L need).2 := (pick_miss_aux f need L ([], need) rfl).symm
theorem pick_mem_aux (f : List Ap) (p : Int → Prop) : ∀ (L : List Int) (st : List Int × List Int), (∀ y ∈ st.1, p y) → (∀ y ∈ L, p y) → (∀ y ∈ (L.foldl (pickStep f) st).1, p y) ∧ (L.foldl (pickStep f) st).1.length ≤ st.1.length + L.length := by
  intro L
  induction L with
  | nil => intro st h _; exact ⟨h, by simp⟩
  | cons i L ih =>
    intro st h hL
    rw [List.foldl_cons]
    have h1 : (∀ y ∈ (pickStep f st i).1, p y) ∧ (pickStep f st i).1.length ≤ st.1.length + 1 := by
      unfold pickStep
      split
      · refine ⟨fun y hy => ?_, by simp⟩
        rcases List.mem_append.1 hy with hy | hy
        · exact h y hy
        · rw [List.mem_singleton] at hy; rw [hy]; exact hL i (by simp)
      · exact ⟨h, by omega⟩
    obtain ⟨a, b⟩ := ih (pickStep f st i) h1.1 (fun y hy => hL y (by simp [hy]))
    exact ⟨a, by rw [List.length_cons]; omega⟩
theorem pick_mem (f : List Ap) (p : Int → Prop) (L need : List Int) (hL : ∀ y ∈ L, p y) : (∀ y ∈ (pickL f L need).1, p y) ∧ (pickL f L need).1.length ≤ L.length := by
  obtain ⟨a, b⟩ := pick_mem_aux f p L ([], need) (by simp) hL
  exact ⟨a, by unfold pickL; simpa using b⟩
theorem getD_le (l : List Int) (c : Int) (h0 : 0 ≤ c) (h : ∀ y ∈ l, y ≤ c) (j : Nat) : l.getD j 0 ≤ c := by
  rw [List.getD_eq_getElem?_getD]
  cases hx : l[j]? with
  | none => exact h0
  | some y => exact h y (List.mem_of_getElem? hx)
theorem getD_ge (l : List Int) (c : Int) (h0 : c ≤ 0) (h : ∀ y ∈ l, c ≤ y) (j : Nat) : c ≤ l.getD j 0 := by
  rw [List.getD_eq_getElem?_getD]
  cases hx : l[j]? with
  | none => exact h0
  | some y => exact h y (List.mem_of_getElem? hx)
theorem getD_set' (l : List Int) (q j : Nat) (x : Int) : (l.set q x).getD j 0 = x ∨ (l.set q x).getD j 0 = l.getD j 0 := by
  rw [List.getD_eq_getElem?_getD, List.getD_eq_getElem?_getD, List.getElem?_set]
  by_cases h : q = j
  · subst h
    by_cases h2 : q < l.length
    · left; simp [h2]
    · right; simp [h2]
  · right; simp [h]
theorem set_le (l : List Int) (q : Nat) (x c : Int) (hx : x ≤ c) (h : ∀ j, l.getD j 0 ≤ c) (j : Nat) : (l.set q x).getD j 0 ≤ c := by
  rcases getD_set' l q j x with e | e
  · rw [e]; exact hx
  · rw [e]; exact h j
theorem set_ge (l : List Int) (q : Nat) (x c : Int) (hx : c ≤ x) (h : ∀ j, c ≤ l.getD j 0) (j : Nat) : c ≤ (l.set q x).getD j 0 := by
  rcases getD_set' l q j x with e | e
  · rw [e]; exact hx
  · rw [e]; exact h j
theorem gro_and {a b c : World} {r r' : Option Nat} (h : a.grownBy b r) (k : b.grownBy c r') (hr : ∀ q, r' = some q → a.heap.size ≤ q) : a.grownBy c r :=
  ⟨k.os.trans h.os, k.tape.trans h.tape, k.output.trans h.output, Nat.le_trans h.size k.size, fun i hi hne => (k.block i (Nat.lt_of_lt_of_le hi h.size) (fun e => by have := hr i e.symm; omega)).trans (h.block i hi hne)⟩
theorem rdi_gro {a b : World} {g : Nat} {v : Value} {l : List Int} (h : RdI a v l) (k : a.grownBy b (some g)) (hne : ∀ b' off n c, v = .slice (some ⟨b', off, none⟩) n c → 0 < l.length → b' ≠ g) : RdI b v l := by
  obtain ⟨A, c, rfl, hc, hm, hr⟩ := h
  refine ⟨A, c, rfl, hc, hm, fun hl => ?_⟩
  obtain ⟨b', off, rfl, hb, hcell⟩ := hr hl
  exact ⟨b', off, rfl, Nat.lt_of_lt_of_le hb k.size, fun j u hu => (gro_cell k hb (hne _ _ _ _ rfl hl)).trans (hcell j u hu)⟩

def PickIs (n : Nat) (l : List St) (f : List Ap) (src : Nat) (need : List Int) (w : World) (e : Ending) (w' : World) : Prop :=
  ∃ x y z, e = .returned (.tuple #[x, y, z]) ∧ RdI w' x (pickL f (readyL (distT n (arcs l) src) f) need).1 ∧ w'.ownsRow w.heap.size 3 1 y (pickL f (readyL (distT n (arcs l) src) f) need).2.length (ints (pickL f (readyL (distT n (arcs l) src) f) need).2) ∧ RdI w' z (allT (distT n (arcs l) src) f) ∧ Below w.heap.size w w'
end Go.Proofs.YtgcdgcidjjdhmaaGreatDoor

namespace Go.Proofs.YtgcdgcidjjdhmaaGreatDoor
set_option linter.unusedVariables false
set_option linter.unusedSimpArgs false
open Go.RowKit

/-! a list without repeats inside another -/
theorem nodup_len {α : Type} [DecidableEq α] : ∀ (a b : List α), a.Nodup → (∀ x ∈ a, x ∈ b) → a.length ≤ b.length := by
  intro a
  induction a with
  | nil => intro b _ _; simp
  | cons x a ih =>
    intro b hn hs
    obtain ⟨hx, hn⟩ := List.nodup_cons.1 hn
    have hxb := hs x (by simp)
    have h := ih (b.erase x) hn (fun y hy => (List.mem_erase_of_ne (fun e => hx (by rw [← e]; exact hy))).2 (hs y (by simp [hy])))
    rw [List.length_erase_of_mem hxb] at h
    have := List.length_pos_of_mem hxb
    rw [List.length_cons]; omega
theorem nodup_back {α : Type} [DecidableEq α] {a b : List α} (hn : a.Nodup) (hs : ∀ x ∈ a, x ∈ b) (hl : a.length = b.length) : ∀ x ∈ b, x ∈ a := fun x hx => by
  rcases Classical.em (x ∈ a) with h | h
  · exact h
  · have := nodup_len (x :: a) b (List.nodup_cons.2 ⟨h, hn⟩) (fun y hy => by
      rcases List.mem_cons.1 hy with rfl | hy
      · exact hx
      · exact hs y hy)
    rw [List.length_cons] at this; omega
theorem nodup_filter {α : Type} {l : List α} (p : α → Bool) (h : l.Nodup) : (l.filter p).Nodup := List.Nodup.sublist List.filter_sublist h
theorem nodup_map_of {α β : Type} (g : α → β) : ∀ (l : List α), l.Nodup → (∀ x ∈ l, ∀ y ∈ l, g x = g y → x = y) → (l.map g).Nodup := by
  intro l
  induction l with
  | nil => intro _ _; simp
  | cons x l ih =>
    intro hn hi
    obtain ⟨hx, hn⟩ := List.nodup_cons.1 hn
    rw [List.map_cons, List.nodup_cons]
    refine ⟨fun h => ?_, ih hn (fun a ha b hb => hi a (by simp [ha]) b (by simp [hb]))⟩
    obtain ⟨y, hy, e⟩ := List.mem_map.1 h
    exact hx (hi y (by simp [hy]) x (by simp) e ▸ hy)
/-! names that rise are different -/
theorem bLess_irrefl : ∀ x : List UInt8, Op.bytesLess x x = false := by
  intro x
  induction x with
  | nil => rfl
  | cons a x ih => simp [Op.bytesLess, ih]
theorem bLess_trans : ∀ x y z : List UInt8, Op.bytesLess x y = true → Op.bytesLess y z = true → Op.bytesLess x z = true := by
  intro x
  induction x with
  | nil => intro y z h1 h2; cases z with
    | nil => cases y <;> simp [Op.bytesLess] at h2
    | cons c z => rfl
  | cons a x ih => intro y z h1 h2; cases y with
    | nil => simp [Op.bytesLess] at h1
    | cons b y => cases z with
      | nil => simp [Op.bytesLess] at h2
      | cons c z =>
        simp only [Op.bytesLess, Bool.or_eq_true, Bool.and_eq_true, decide_eq_true_eq, beq_iff_eq] at h1 h2 ⊢
        rcases h1 with h1 | ⟨rfl, h1⟩
        · rcases h2 with h2 | ⟨rfl, h2⟩
          · exact .inl (UInt8.lt_trans h1 h2)
          · exact .inl h1
        · rcases h2 with h2 | ⟨rfl, h2⟩
          · exact .inl h2
          · exact .inr ⟨rfl, ih _ _ h1 h2⟩
/-- Neighbours that rise: any two rise. -/
theorem rise_all {l : List ByteArray} (h : ∀ k a b, l[k]? = some a → l[k + 1]? = some b → Op.bytesLess a.toList b.toList = true) : ∀ (d i : Nat) (a b : ByteArray), l[i]? = some a → l[i + 1 + d]? = some b → Op.bytesLess a.toList b.toList = true := by
  intro d
  induction d with
  | zero => intro i a b ha hb; exact h i a b ha hb
  | succ d ih =>
    intro i a b ha hb
    have hlt : i + 1 + d < l.length := by have := (List.getElem?_eq_some_iff.1 hb).1; omega
    obtain ⟨c, hc⟩ : ∃ c, l[i + 1 + d]? = some c := ⟨_, List.getElem?_eq_getElem hlt⟩
    exact bLess_trans _ _ _ (ih i a c ha hc) (h _ c b hc hb)
theorem rise_inj {l : List ByteArray} (h : ∀ k a b, l[k]? = some a → l[k + 1]? = some b → Op.bytesLess a.toList b.toList = true) {i j : Nat} {a : ByteArray} (hi : l[i]? = some a) (hj : l[j]? = some a) : i = j := by
  rcases Nat.lt_trichotomy i j with hlt | rfl | hlt
  · obtain ⟨d, rfl⟩ : ∃ d, j = i + 1 + d := ⟨j - i - 1, by omega⟩
    have := rise_all h d i a a hi hj
    rw [bLess_irrefl] at this; cases this
  · rfl
  · obtain ⟨d, rfl⟩ : ∃ d, i = j + 1 + d := ⟨i - j - 1, by omega⟩
    have := rise_all h d j a a hj hi
    rw [bLess_irrefl] at this; cases this
theorem names_rise {q : List ByteArray} (h : namesB q = true) : ∀ k a b, q[k]? = some a → q[k + 1]? = some b → Op.bytesLess a.toList b.toList = true := fun k a b ha hb => by
  unfold namesB at h
  have := List.all_eq_true.1 h (k + 1) (List.mem_range.2 (List.getElem?_eq_some_iff.1 hb).1)
  rw [okNm_next hb ha] at this
  unfold geS at this
  simpa using this
theorem nodup_idx {α : Type} {l : List α} (h : ∀ (i j : Nat) (a : α), l[i]? = some a → l[j]? = some a → i = j) : l.Nodup := by
  rw [List.nodup_iff_pairwise_ne, List.pairwise_iff_getElem]
  intro i j hi hj hij e
  have := h i j _ (List.getElem?_eq_getElem hi) (by rw [e]; exact List.getElem?_eq_getElem hj)
  omega
theorem names_nodup {q : List ByteArray} (h : namesB q = true) : q.Nodup := nodup_idx fun _ _ _ hi hj => rise_inj (names_rise h) hi hj
theorem fleet_rise {f : List Ap} (h : goodFl f = true) : ∀ k a b, (f.map Ap.nm)[k]? = some a → (f.map Ap.nm)[k + 1]? = some b → Op.bytesLess a.toList b.toList = true := fun k a b ha hb => by
  unfold goodFl at h
  rw [Bool.and_eq_true] at h
  rw [List.getElem?_map, Option.map_eq_some_iff] at ha hb
  obtain ⟨x, hx, rfl⟩ := ha
  obtain ⟨y, hy, rfl⟩ := hb
  have := List.all_eq_true.1 h.2 (k + 1) (List.mem_range.2 (List.getElem?_eq_some_iff.1 hy).1)
  unfold okAp at this
  rw [hy] at this
  simp only [Nat.add_sub_cancel, hx] at this
  unfold geS at this
  simp at this
  exact this.2
theorem fleet_inj {f : List Ap} (h : goodFl f = true) {i j : Nat} {a b : Ap} (hi : f[i]? = some a) (hj : f[j]? = some b) (e : a.nm = b.nm) : i = j :=
  rise_inj (fleet_rise h) (a := a.nm) (by rw [List.getElem?_map, hi]; rfl) (by rw [List.getElem?_map, hj, e]; rfl)
/-! the plain values -/
def nmI (f : List Ap) (i : Int) : ByteArray := match f[i.toNat]? with
  | some a => a.nm
  | none => ⟨#[]⟩
theorem nmI_at {f : List Ap} {i : Nat} {a : Ap} (h : f[i]? = some a) : nmI f (i : Int) = a.nm := by unfold nmI; rw [Int.toNat_natCast, h]
def hasN (q : List ByteArray) (nm : ByteArray) : Bool := q.any fun s => decide (s = nm)
theorem hasN_iff {q : List ByteArray} {nm : ByteArray} : hasN q nm = true ↔ nm ∈ q := by
  unfold hasN
  rw [List.any_eq_true]
  constructor
  · rintro ⟨s, hs, h⟩; exact of_decide_eq_true h ▸ hs
  · intro h; exact ⟨nm, h, decide_eq_true rfl⟩
theorem hasN_false {q : List ByteArray} {nm : ByteArray} (h : nm ∉ q) : hasN q nm = false := by
  cases e : hasN q nm
  · rfl
  · exact absurd (hasN_iff.1 e) h
def cntStep (f : List Ap) (d : List Int) (i : Int) : List Int := d.set (kdOf f i) (d.getD (kdOf f i) 0 + 1)
def cntL (f : List Ap) (H : List Int) : List Int := H.foldl (cntStep f) [0, 0, 0, 0]
def wstStep (ev : List Int) (f : List Ap) (d : List Int) (i : Int) : List Int := d.set (kdOf f i) (max (d.getD (kdOf f i) 0) (rdyKey ev f i))
def wstL (ev : List Int) (f : List Ap) (H : List Int) : List Int := H.foldl (wstStep ev f) [-1, -1, -1, -1]
def hasL (f : List Ap) (q : List ByteArray) (R : List Int) : List Int := R.filter fun i => hasN q (nmI f i)
/-- What the reference says. -/
def bestS (ev : List Int) (f : List Ap) (R : List Int) (need mis : List Int) (q : List ByteArray) : Bool :=
  namesB q && ((List.range 4).all (fun k => (cntL f (hasL f q R)).getD k 0 == need.getD k 0 - mis.getD k 0) && ((cntL f (hasL f q R)).sum == (q.length : Int) && R.all fun i => hasN q (nmI f i) || !decide (rdyKey ev f i < (wstL ev f (hasL f q R)).getD (kdOf f i) 0)))
def okTk (f : List Ap) (R : List Int) (q : List ByteArray) (k : Nat) : Bool := okNm q k && match q[k]? with
  | some nm => decide (findA nm f ∈ R)
  | none => true
def takenL (f : List Ap) (q : List ByteArray) : List Int := q.map fun nm => findA nm f
/-- What the program says. -/
def bestI (ev : List Int) (f : List Ap) (R : List Int) (need mis : List Int) (q : List ByteArray) : Bool :=
  (List.range q.length).all (okTk f R q) && (decide (missL f (takenL f q) need = mis) && R.all fun i => decide (i ∈ takenL f q) || !decide (rdyKey ev f i < (wstL ev f (takenL f q)).getD (kdOf f i) 0))
/-! what the steps hold -/
theorem set4_len {d : List Int} {k : Nat} {x : Int} : (d.set k x).length = d.length := List.length_set
theorem getD_set_eq {d : List Int} {k : Nat} {x : Int} (h : k < d.length) : (d.set k x).getD k 0 = x := by simp [List.getD, h]
theorem getD_set_ne {d : List Int} {k j : Nat} {x : Int} (h : k ≠ j) : (d.set k x).getD j 0 = d.getD j 0 := by simp [List.getD, List.getElem?_set_ne h]
theorem cnt_aux (f : List Ap) : ∀ (H d : List Int), d.length = 4 → (H.foldl (cntStep f) d).length = 4 ∧ ∀ k, k < 4 → (H.foldl (cntStep f) d).getD k 0 = d.getD k 0 + ((H.filter fun i => kdOf f i == k).length : Int) := by
  intro H
  induction H with
  | nil => intro d hd; exact ⟨hd, fun k _ => by simp⟩
  | cons i H ih =>
    intro d hd
    obtain ⟨h1, h2⟩ := ih (cntStep f d i) (by unfold cntStep; rw [set4_len, hd])
    refine ⟨h1, fun k hk => ?_⟩
    rw [List.foldl_cons, h2 k hk, List.filter_cons]
    unfold cntStep
    by_cases e : kdOf f i = k
    · subst e
      rw [getD_set_eq (by omega)]
      simp
      omega
    · rw [getD_set_ne e]
      simp [e]
theorem cnt_len (f : List Ap) (H : List Int) : (cntL f H).length = 4 := (cnt_aux f H _ rfl).1
theorem cnt_get (f : List Ap) (H : List Int) {k : Nat} (hk : k < 4) : (cntL f H).getD k 0 = ((H.filter fun i => kdOf f i == k).length : Int) := by
  have h := (cnt_aux f H [0, 0, 0, 0] rfl).2 k hk
  have e : ([0, 0, 0, 0] : List Int).getD k 0 = 0 := by rcases k with _ | _ | _ | _ | k <;> first | rfl | omega
  unfold cntL
  rw [h, e]; omega
theorem miss_aux (f : List Ap) : ∀ (H d : List Int), d.length = 4 → (H.foldl (missStep f) d).length = 4 ∧ ∀ k, k < 4 → (H.foldl (missStep f) d).getD k 0 = d.getD k 0 - ((H.filter fun i => kdOf f i == k).length : Int) := by
  intro H
  induction H with
  | nil => intro d hd; exact ⟨hd, fun k _ => by simp⟩
  | cons i H ih =>
    intro d hd
    obtain ⟨h1, h2⟩ := ih (missStep f d i) (by unfold missStep; rw [set4_len, hd])
    refine ⟨h1, fun k hk => ?_⟩
    rw [List.foldl_cons, h2 k hk, List.filter_cons]
    unfold missStep
    by_cases e : kdOf f i = k
    · subst e
      rw [getD_set_eq (by omega)]
      simp
      omega
    · rw [getD_set_ne e]
      simp [e]
theorem sum_kinds (g : Int → Nat) : ∀ H : List Int, (∀ i ∈ H, g i < 4) → (H.filter fun i => g i == 0).length + (H.filter fun i => g i == 1).length + (H.filter fun i => g i == 2).length + (H.filter fun i => g i == 3).length = H.length := by
  intro H
  induction H with
  | nil => intro _; rfl
  | cons i H ih =>
    intro h
    have hi := h i (by simp)
    have := ih (fun x hx => h x (by simp [hx]))
    rcases (show g i = 0 ∨ g i = 1 ∨ g i = 2 ∨ g i = 3 by omega) with e | e | e | e <;> simp [List.filter_cons, e] <;> omega
theorem list4g {d : List Int} (h : d.length = 4) : d = [d.getD 0 0, d.getD 1 0, d.getD 2 0, d.getD 3 0] := by
  match d, h with
  | [a, b, c, e], _ => rfl
theorem sum4 {d : List Int} (h : d.length = 4) : d.sum = d.getD 0 0 + d.getD 1 0 + d.getD 2 0 + d.getD 3 0 := by
  match d, h with
  | [a, b, c, e], _ => simp [List.getD]; omega
theorem cnt_sum (f : List Ap) (H : List Int) (h : ∀ i ∈ H, kdOf f i < 4) : (cntL f H).sum = (H.length : Int) := by
  rw [sum4 (cnt_len f H), cnt_get f H (by omega), cnt_get f H (by omega), cnt_get f H (by omega), cnt_get f H (by omega)]
  have := sum_kinds (kdOf f) H h
  omega
theorem wst_aux (ev : List Int) (f : List Ap) : ∀ (H d : List Int), d.length = 4 → (H.foldl (wstStep ev f) d).length = 4 ∧ ∀ k, k < 4 → d.getD k 0 ≤ (H.foldl (wstStep ev f) d).getD k 0 ∧ (∀ i ∈ H, kdOf f i = k → rdyKey ev f i ≤ (H.foldl (wstStep ev f) d).getD k 0) ∧
    ∀ c, d.getD k 0 ≤ c → (∀ i ∈ H, kdOf f i = k → rdyKey ev f i ≤ c) → (H.foldl (wstStep ev f) d).getD k 0 ≤ c := by
  intro H
  induction H with
  | nil => intro d hd; exact ⟨hd, fun k _ => ⟨Int.le_refl _, by simp, fun c h _ => h⟩⟩
  | cons i H ih =>
    intro d hd
    obtain ⟨h1, h2⟩ := ih (wstStep ev f d i) (by unfold wstStep; rw [set4_len, hd])
    refine ⟨h1, fun k hk => ?_⟩
    obtain ⟨a, b, c⟩ := h2 k hk
    rw [List.foldl_cons]
    by_cases e : kdOf f i = k
    · have hg : (wstStep ev f d i).getD k 0 = max (d.getD k 0) (rdyKey ev f i) := by unfold wstStep; rw [e, getD_set_eq (by omega)]
      rw [hg] at a c
      refine ⟨by omega, fun j hj hjk => ?_, fun c' h3 h4 => c c' (by have := h4 i (by simp) e; omega) (fun j hj => h4 j (by simp [hj]))⟩
      rcases List.mem_cons.1 hj with rfl | hj
      · omega
      · exact b j hj hjk
    · have hg : (wstStep ev f d i).getD k 0 = d.getD k 0 := by unfold wstStep; rw [getD_set_ne e]
      rw [hg] at a c
      refine ⟨a, fun j hj hjk => ?_, fun c' h3 h4 => c c' h3 (fun j hj => h4 j (by simp [hj]))⟩
      rcases List.mem_cons.1 hj with rfl | hj
      · exact absurd hjk e
      · exact b j hj hjk
theorem wst_congr (ev : List Int) (f : List Ap) {H T : List Int} (h1 : ∀ x ∈ H, x ∈ T) (h2 : ∀ x ∈ T, x ∈ H) {k : Nat} (hk : k < 4) : (wstL ev f H).getD k 0 = (wstL ev f T).getD k 0 := by
  obtain ⟨a, b, c⟩ := (wst_aux ev f H [-1, -1, -1, -1] rfl).2 k hk
  obtain ⟨a', b', c'⟩ := (wst_aux ev f T [-1, -1, -1, -1] rfl).2 k hk
  exact Int.le_antisymm (c _ a' (fun i hi => b' i (h1 i hi))) (c' _ a (fun i hi => b i (h2 i hi)))
/-! the two agree -/
theorem best_eq (ev : List Int) (f : List Ap) (R : List Int) (need : List Int) (q : List ByteArray) (P : List Int) (hfl : goodFl f = true) (hR : ∀ y ∈ R, ∃ (i : Nat) (a : Ap), y = (i : Int) ∧ f[i]? = some a) (hnd : R.Nodup) (hn4 : need.length = 4) :
    bestI ev f R need (missL f P need) q = bestS ev f R need (missL f P need) q := by
  have hkd : ∀ y ∈ R, kdOf f y < 4 := fun y hy => by
    obtain ⟨i, a, rfl, ha⟩ := hR y hy
    obtain ⟨_, h0, h3, _⟩ := goodAp_true ((goodFl_true hfl).2 a (List.mem_of_getElem? ha))
    rw [kdOf_at ha]; omega
  have hfind : ∀ y ∈ R, findA (nmI f y) f = y := fun y hy => by
    obtain ⟨i, a, rfl, ha⟩ := hR y hy
    rw [nmI_at ha]
    have h0 : 0 ≤ findA a.nm f := of_decide_eq_true (by unfold findA; rw [(idxG_any _ _).1]; exact List.any_eq_true.2 ⟨a, List.mem_of_getElem? ha, by simp⟩)
    obtain ⟨j, hj⟩ := Int.eq_ofNat_of_zero_le h0
    obtain ⟨b, hb, hbp⟩ := idxG_get hj
    have := fleet_inj hfl ha hb (of_decide_eq_true hbp).symm
    rw [hj, this]
  have hname : ∀ nm ∈ q, findA nm f ∈ R → nmI f (findA nm f) = nm := fun nm _ h => by
    obtain ⟨i, a, e, ha⟩ := hR _ h
    obtain ⟨b, hb, hbp⟩ := idxG_get e
    rw [e, nmI_at hb]
    exact of_decide_eq_true hbp
  by_cases hN : namesB q = true
  · have hqn := names_nodup hN
    have hHn : (hasL f q R).Nodup := nodup_filter _ hnd
    have hHR : ∀ y ∈ hasL f q R, y ∈ R := fun y hy => (List.mem_filter.1 hy).1
    have hinj : ∀ x ∈ R, ∀ y ∈ R, nmI f x = nmI f y → x = y := fun x hx y hy e => by rw [← hfind x hx, ← hfind y hy, e]
    have hmn : ((hasL f q R).map (nmI f)).Nodup := nodup_map_of _ _ hHn (fun x hx y hy => hinj x (hHR x hx) y (hHR y hy))
    have hms : ∀ z ∈ (hasL f q R).map (nmI f), z ∈ q := fun z hz => by
      obtain ⟨y, hy, rfl⟩ := List.mem_map.1 hz
      exact hasN_iff.1 (List.mem_filter.1 hy).2
    have hall : (List.range q.length).all (okTk f R q) = decide (∀ nm ∈ q, findA nm f ∈ R) := by
      by_cases h : ∀ nm ∈ q, findA nm f ∈ R
      · rw [decide_eq_true h, List.all_eq_true]
        intro k hk
        unfold okTk
        rw [List.all_eq_true.1 hN k hk]
        obtain ⟨nm, hnm⟩ : ∃ nm, q[k]? = some nm := ⟨_, List.getElem?_eq_getElem (List.mem_range.1 hk)⟩
        rw [hnm]
        exact decide_eq_true (h nm (List.mem_of_getElem? hnm))
      · rw [decide_eq_false h, List.all_eq_false]
        have ⟨nm, hnm, hno⟩ : ∃ nm, nm ∈ q ∧ findA nm f ∉ R := by
          apply Classical.byContradiction
          intro hc
          exact h (fun nm hm => Classical.byContradiction fun hn => hc ⟨nm, hm, hn⟩)
        obtain ⟨k, hk, e⟩ := List.getElem_of_mem hnm
        refine ⟨k, List.mem_range.2 hk, ?_⟩
        unfold okTk
        rw [List.getElem?_eq_getElem hk, e]
        simp [hno]
    by_cases hA : ∀ nm ∈ q, findA nm f ∈ R
    · have hTn : (takenL f q).Nodup := nodup_map_of _ _ hqn (fun x hx y hy e => by rw [← hname x hx (hA x hx), ← hname y hy (hA y hy), e])
      have hTH : ∀ x ∈ takenL f q, x ∈ hasL f q R := fun x hx => by
        obtain ⟨nm, hm, rfl⟩ := List.mem_map.1 hx
        exact List.mem_filter.2 ⟨hA nm hm, by rw [hname nm hm (hA nm hm)]; exact hasN_iff.2 hm⟩
      have hHT : ∀ x ∈ hasL f q R, x ∈ takenL f q := fun x hx => by
        obtain ⟨h1, h2⟩ := List.mem_filter.1 hx
        exact List.mem_map.2 ⟨nmI f x, hasN_iff.1 h2, hfind x h1⟩
      have hTl : (takenL f q).length = q.length := by unfold takenL; rw [List.length_map]
      have hHl : (hasL f q R).length = q.length := by
        have h1 := nodup_len _ _ hTn hTH
        have h2 := nodup_len _ _ hHn hHT
        omega
      have hkeq : ∀ k, ((takenL f q).filter fun i => kdOf f i == k).length = ((hasL f q R).filter fun i => kdOf f i == k).length := fun k => by
        have h1 := nodup_len _ _ (nodup_filter (fun i => kdOf f i == k) hTn) (fun x hx => List.mem_filter.2 ⟨hTH x (List.mem_filter.1 hx).1, (List.mem_filter.1 hx).2⟩)
        have h2 := nodup_len _ _ (nodup_filter (fun i => kdOf f i == k) hHn) (fun x hx => List.mem_filter.2 ⟨hHT x (List.mem_filter.1 hx).1, (List.mem_filter.1 hx).2⟩)
        omega
      have hsum : (cntL f (hasL f q R)).sum == (q.length : Int) := by
        rw [cnt_sum f _ (fun i hi => hkd i (hHR i hi)), hHl]; exact beq_iff_eq.2 rfl
      have hmiss : decide (missL f (takenL f q) need = missL f P need) = (List.range 4).all (fun k => (cntL f (hasL f q R)).getD k 0 == need.getD k 0 - (missL f P need).getD k 0) := by
        have hm1 := miss_aux f (takenL f q) need hn4
        have hm2 := (miss_aux f P need hn4).1
        have hval : ∀ k, k < 4 → (missL f (takenL f q) need).getD k 0 = need.getD k 0 - (cntL f (hasL f q R)).getD k 0 := fun k hk => by
          unfold missL
          rw [hm1.2 k hk, cnt_get f _ hk, hkeq]
        rw [Bool.eq_iff_iff, decide_eq_true_iff, List.all_eq_true]
        constructor
        · intro e k hk
          have := hval k (List.mem_range.1 hk)
          rw [e] at this
          exact beq_iff_eq.2 (by omega)
        · intro h
          have e : ∀ k, k < 4 → (missL f (takenL f q) need).getD k 0 = (missL f P need).getD k 0 := fun k hk => by
            have h1 := beq_iff_eq.1 (h k (List.mem_range.2 hk))
            have h2 := hval k hk
            omega
          rw [list4g (d := missL f (takenL f q) need) hm1.1, list4g (d := missL f P need) hm2, e 0 (by omega), e 1 (by omega), e 2 (by omega), e 3 (by omega)]
      have hlast : (R.all fun i => decide (i ∈ takenL f q) || !decide (rdyKey ev f i < (wstL ev f (takenL f q)).getD (kdOf f i) 0)) = R.all fun i => hasN q (nmI f i) || !decide (rdyKey ev f i < (wstL ev f (hasL f q R)).getD (kdOf f i) 0) := by
        rw [Bool.eq_iff_iff, List.all_eq_true, List.all_eq_true]
        have e : ∀ i ∈ R, (decide (i ∈ takenL f q) || !decide (rdyKey ev f i < (wstL ev f (takenL f q)).getD (kdOf f i) 0)) = (hasN q (nmI f i) || !decide (rdyKey ev f i < (wstL ev f (hasL f q R)).getD (kdOf f i) 0)) := fun i hi => by
          rw [wst_congr ev f hTH hHT (hkd i hi)]
          have : decide (i ∈ takenL f q) = hasN q (nmI f i) := by
            by_cases h : i ∈ takenL f q
            · rw [decide_eq_true h]
              exact ((List.mem_filter.1 (hTH i h)).2).symm
            · rw [decide_eq_false h]
              exact (hasN_false (fun hm => h (hHT i (List.mem_filter.2 ⟨hi, hasN_iff.2 hm⟩)))).symm
          rw [this]
        constructor
        · intro h i hi; rw [← e i hi]; exact h i hi
        · intro h i hi; rw [e i hi]; exact h i hi
      unfold bestI bestS
      rw [hall, decide_eq_true hA, hN, hmiss, hsum, hlast]
      simp
    · have hsum : ((cntL f (hasL f q R)).sum == (q.length : Int)) = false := by
        rw [cnt_sum f _ (fun i hi => hkd i (hHR i hi))]
        refine beq_false_of_ne (fun e => hA (fun nm hm => ?_))
        have := nodup_back hmn hms (by rw [List.length_map]; omega) nm hm
        obtain ⟨y, hy, rfl⟩ := List.mem_map.1 this
        rw [hfind y (hHR y hy)]; exact hHR y hy
      unfold bestI bestS
      rw [hall, decide_eq_false hA, hsum]
      simp
  · have hN' : namesB q = false := by simpa using hN
    have : (List.range q.length).all (okTk f R q) = false := by
      rw [List.all_eq_false]
      obtain ⟨k, hk, h⟩ := List.all_eq_false.1 hN'
      refine ⟨k, hk, ?_⟩
      unfold okTk
      have h' : okNm q k = false := by simpa using h
      rw [h']; simp
    unfold bestI bestS
    rw [this, hN']
    simp
end Go.Proofs.YtgcdgcidjjdhmaaGreatDoor

namespace Go.Proofs.YtgcdgcidjjdhmaaGreatDoor
set_option linter.unusedVariables false
set_option linter.unusedSimpArgs false
open Go.RowKit

set_option maxRecDepth 100000 in
set_option maxHeartbeats 1000000 in
theorem pSameFleet_c (v v' : Value) (l : List Ap) (w : World) (hr : Rd w v l.length (l.flatMap Ap.cells)) (hr' : Rd w v' l.length (l.flatMap Ap.cells)) :
    Calls Tryz.prog 10 #[v, v'] w fun en w' => en = .returned (.bool true) ∧ Below w.heap.size w w' := by
  obtain ⟨A, c, rfl, hc, hm, hr⟩ := hr
  obtain ⟨A', c', rfl, hc', hm', hr'⟩ := hr'
  rw [maxLen_eq] at hm hm'
  have HS := Lib.hid hr
  have HT := Lib.hid hr'
  clear hr hr'
  have hlb : ((l.length : Int) != l.length) = false := by simp
  go_enter Tryz.func10, Tryz.ntmps10
  go_wp2_with fail
  go_loopw [13] (fun v6 wr => ∃ k : Nat, k ≤ l.length ∧ v6 = .int .i64 k ∧ Hid (Below w.heap.size w wr)) (fun v6 _ => l.length - (intOf v6).toNat)
  case atStart => exact ⟨0, Nat.zero_le _, rfl, Lib.hid (Below.refl _ _)⟩
  case round =>
    obtain ⟨k, hk, rfl, HB⟩ := hrel
    have i0 : (0 : Int) ≤ (k : Int) := by omega
    by_cases hlt : k < l.length
    · obtain ⟨b, off, rfl, hbl, hcell⟩ := HS.out (by omega)
      obtain ⟨b', off', rfl, hbl', hcell'⟩ := HT.out (by omega)
      obtain ⟨nm, kd, nd, cr, sv, hx, c0, c1, c2, c3, c4⟩ := ap_at' hcell HB.out hbl hlt
      obtain ⟨nm', kd', nd', cr', sv', hx', d0, d1, d2, d3, d4⟩ := ap_at' hcell' HB.out hbl' hlt
      rw [hx] at hx'
      injection hx' with hx'
      injection hx' with e1 e2 e3 e4 e5
      subst e1; subst e2; subst e3; subst e4; subst e5
      have i1 : (k : Int) < (l.length : Int) := by omega
      clear hcell hcell' hx
      go_wp2_with fail
      go_quiet (fail)
      go_wp2
      exact ⟨⟨k + 1, by omega, by go_num, Lib.hid (below_drewN HB.out _)⟩, by simp [intOf]; omega⟩
    · obtain rfl : k = l.length := by omega
      go_wp2
      go_ret
      exact ⟨rfl, HB.out⟩
theorem isFleetI_c (v : Value) (l : List Ap) (w : World) (hz : ∀ x ∈ l, x.nm.size ≤ 9223372036854775807) (hr : Rd w v l.length (l.flatMap Ap.cells)) :
    Calls Tryz.prog 12 #[v] w fun e w' => e = .returned (.bool (goodFl l)) ∧ Below w.heap.size w w' := by
  have HR := Lib.hid hr
  have HZ := Lib.hid hz
  clear hr hz
  go_enter Tryz.func12, Tryz.ntmps12
  go_wp2_with fail
  refine (isFleet_c v l _ HZ.out HR.out).mono ?_; rintro e w1 ⟨rfl, hb⟩
  have HB := Lib.hid hb
  clear hb
  go_wp2
  go_ret
  exact ⟨rfl, HB.out⟩
end Go.Proofs.YtgcdgcidjjdhmaaGreatDoor
