/-
  IsBestChoice: the plain law: counting by kind and by names says the same as comparing what is missing. slices.Equal at ints; spec.dsHas; readyL has no repeats. IsBestChoice: the reference's side. IsBestChoice: the program's side (printed by gen_best.py). (joined by merge.py)
-/
import Derived.Test.YtcpchdbhpcebeaaNames
import Derived.Test.YtcpchdbhpcebeaaFind
import Derived.Test.YtcpchdbhpcebeaaPick
import Derived.Test.YtcpchdbhpcebeaaSlc
import Derived.Deep.RegionLaw
import Derived.Test.YtcpchdbhpcebeaaMost
import Derived.Test.YtcpchdbhpcebeaaReady
import Derived.BigRegion
namespace Go.Proofs.Ytcpchdbhpcebeaa
open Go.RowKit

/-! a list without repeats inside another -/
theorem nodup_len {α : Type} [DecidableEq α] : ∀ (a b : List α), a.Nodup → (∀ x ∈ a, x ∈ b) → a.length ≤ b.length := by
  intro a
  induction a with
  | nil => intro b _ _; simp
  | cons x a ih =>
    intro b hn hs
    obtain ⟨hx, hn⟩ := List.nodup_cons.1 hn
    have hxb := hs x (by simp)
    have h := ih (b.erase x) hn (fun y hy => (List.mem_erase_of_ne (fun e => hx (by rw [← e]; exact hy))).2 (hs y (by simp [hy])))
    rw [List.length_erase_of_mem hxb] at h
    have := List.length_pos_of_mem hxb
    rw [List.length_cons]; omega
theorem nodup_back {α : Type} [DecidableEq α] {a b : List α} (hn : a.Nodup) (hs : ∀ x ∈ a, x ∈ b) (hl : a.length = b.length) : ∀ x ∈ b, x ∈ a := fun x hx => by
  rcases Classical.em (x ∈ a) with h | h
  · exact h
  · have := nodup_len (x :: a) b (List.nodup_cons.2 ⟨h, hn⟩) (fun y hy => by
      rcases List.mem_cons.1 hy with rfl | hy
      · exact hx
      · exact hs y hy)
    rw [List.length_cons] at this; omega
theorem nodup_filter {α : Type} {l : List α} (p : α → Bool) (h : l.Nodup) : (l.filter p).Nodup := List.Nodup.sublist List.filter_sublist h
theorem nodup_map_of {α β : Type} (g : α → β) : ∀ (l : List α), l.Nodup → (∀ x ∈ l, ∀ y ∈ l, g x = g y → x = y) → (l.map g).Nodup := by
  intro l
  induction l with
  | nil => intro _ _; simp
  | cons x l ih =>
    intro hn hi
    obtain ⟨hx, hn⟩ := List.nodup_cons.1 hn
    rw [List.map_cons, List.nodup_cons]
    refine ⟨fun h => ?_, ih hn (fun a ha b hb => hi a (by simp [ha]) b (by simp [hb]))⟩
    obtain ⟨y, hy, e⟩ := List.mem_map.1 h
    exact hx (hi y (by simp [hy]) x (by simp) e ▸ hy)
/-! names that rise are different -/
theorem bLess_irrefl : ∀ x : List UInt8, Op.bytesLess x x = false := by
  intro x
  induction x with
  | nil => rfl
  | cons a x ih => simp [Op.bytesLess, ih]
theorem bLess_trans : ∀ x y z : List UInt8, Op.bytesLess x y = true → Op.bytesLess y z = true → Op.bytesLess x z = true := by
  intro x
  induction x with
  | nil => intro y z h1 h2; cases z with
    | nil => cases y <;> simp [Op.bytesLess] at h2
    | cons c z => rfl
  | cons a x ih => intro y z h1 h2; cases y with
    | nil => simp [Op.bytesLess] at h1
    | cons b y => cases z with
      | nil => simp [Op.bytesLess] at h2
      | cons c z =>
        simp only [Op.bytesLess, Bool.or_eq_true, Bool.and_eq_true, decide_eq_true_eq, beq_iff_eq] at h1 h2 ⊢
        rcases h1 with h1 | ⟨rfl, h1⟩
        · rcases h2 with h2 | ⟨rfl, h2⟩
          · exact .inl (UInt8.lt_trans h1 h2)
          · exact .inl h1
        · rcases h2 with h2 | ⟨rfl, h2⟩
          · exact .inl h2
          · exact .inr ⟨rfl, ih _ _ h1 h2⟩
/-- Neighbours that rise: any two rise. -/
theorem rise_all {l : List ByteArray} (h : ∀ k a b, l[k]? = some a → l[k + 1]? = some b → Op.bytesLess a.toList b.toList = true) : ∀ (d i : Nat) (a b : ByteArray), l[i]? = some a → l[i + 1 + d]? = some b → Op.bytesLess a.toList b.toList = true := by
  intro d
  induction d with
  | zero => intro i a b ha hb; exact h i a b ha hb
  | succ d ih =>
    intro i a b ha hb
    have hlt : i + 1 + d < l.length := by have := (List.getElem?_eq_some_iff.1 hb).1; omega
    obtain ⟨c, hc⟩ : ∃ c, l[i + 1 + d]? = some c := ⟨_, List.getElem?_eq_getElem hlt⟩
    exact bLess_trans _ _ _ (ih i a c ha hc) (h _ c b hc hb)
theorem rise_inj {l : List ByteArray} (h : ∀ k a b, l[k]? = some a → l[k + 1]? = some b → Op.bytesLess a.toList b.toList = true) {i j : Nat} {a : ByteArray} (hi : l[i]? = some a) (hj : l[j]? = some a) : i = j := by
  rcases Nat.lt_trichotomy i j with hlt | rfl | hlt
  · obtain ⟨d, rfl⟩ : ∃ d, j = i + 1 + d := ⟨j - i - 1, by omega⟩
    have := rise_all h d i a a hi hj
    rw [bLess_irrefl] at this; cases this
  · rfl
  · obtain ⟨d, rfl⟩ : ∃ d, i = j + 1 + d := ⟨i - j - 1, by omega⟩
    have := rise_all h d j a a hj hi
    rw [bLess_irrefl] at this; cases this
theorem names_rise {q : List ByteArray} (h : namesB q = true) : ∀ k a b, q[k]? = some a → q[k + 1]? = some b → Op.bytesLess a.toList b.toList = true := fun k a b ha hb => by
  unfold namesB at h
  have := List.all_eq_true.1 h (k + 1) (List.mem_range.2 (List.getElem?_eq_some_iff.1 hb).1)
  rw [okNm_next hb ha] at this
  unfold geS at this
  simpa using this
theorem nodup_idx {α : Type} {l : List α} (h : ∀ (i j : Nat) (a : α), l[i]? = some a → l[j]? = some a → i = j) : l.Nodup := by
  rw [List.nodup_iff_pairwise_ne, List.pairwise_iff_getElem]
  intro i j hi hj hij e
  have := h i j _ (List.getElem?_eq_getElem hi) (by rw [e]; exact List.getElem?_eq_getElem hj)
  omega
theorem names_nodup {q : List ByteArray} (h : namesB q = true) : q.Nodup := nodup_idx fun _ _ _ hi hj => rise_inj (names_rise h) hi hj
theorem fleet_rise {f : List Ap} (h : goodFl f = true) : ∀ k a b, (f.map Ap.nm)[k]? = some a → (f.map Ap.nm)[k + 1]? = some b → Op.bytesLess a.toList b.toList = true := fun k a b ha hb => by
  unfold goodFl at h
  rw [Bool.and_eq_true] at h
  rw [List.getElem?_map, Option.map_eq_some_iff] at ha hb
  obtain ⟨x, hx, rfl⟩ := ha
  obtain ⟨y, hy, rfl⟩ := hb
  have := List.all_eq_true.1 h.2 (k + 1) (List.mem_range.2 (List.getElem?_eq_some_iff.1 hy).1)
  unfold okAp at this
  rw [hy] at this
  simp only [Nat.add_sub_cancel, hx] at this
  unfold geS at this
  simp at this
  exact this.2
theorem fleet_inj {f : List Ap} (h : goodFl f = true) {i j : Nat} {a b : Ap} (hi : f[i]? = some a) (hj : f[j]? = some b) (e : a.nm = b.nm) : i = j :=
  rise_inj (fleet_rise h) (a := a.nm) (by rw [List.getElem?_map, hi]; rfl) (by rw [List.getElem?_map, hj, e]; rfl)
/-! the plain values -/
def nmI (f : List Ap) (i : Int) : ByteArray := match f[i.toNat]? with
  | some a => a.nm
  | none => ⟨#[]⟩
theorem nmI_at {f : List Ap} {i : Nat} {a : Ap} (h : f[i]? = some a) : nmI f (i : Int) = a.nm := by unfold nmI; rw [Int.toNat_natCast, h]
def hasN (q : List ByteArray) (nm : ByteArray) : Bool := q.any fun s => decide (s = nm)
theorem hasN_iff {q : List ByteArray} {nm : ByteArray} : hasN q nm = true ↔ nm ∈ q := by
  unfold hasN
  rw [List.any_eq_true]
  constructor
  · rintro ⟨s, hs, h⟩; exact of_decide_eq_true h ▸ hs
  · intro h; exact ⟨nm, h, decide_eq_true rfl⟩
theorem hasN_false {q : List ByteArray} {nm : ByteArray} (h : nm ∉ q) : hasN q nm = false := by
  cases e : hasN q nm
  · rfl
  · exact absurd (hasN_iff.1 e) h
def cntStep (f : List Ap) (d : List Int) (i : Int) : List Int := d.set (kdOf f i) (d.getD (kdOf f i) 0 + 1)
def cntL (f : List Ap) (H : List Int) : List Int := H.foldl (cntStep f) [0, 0, 0, 0]
def wstStep (ev : List Int) (f : List Ap) (d : List Int) (i : Int) : List Int := d.set (kdOf f i) (max (d.getD (kdOf f i) 0) (rdyKey ev f i))
def wstL (ev : List Int) (f : List Ap) (H : List Int) : List Int := H.foldl (wstStep ev f) [-1, -1, -1, -1]
def hasL (f : List Ap) (q : List ByteArray) (R : List Int) : List Int := R.filter fun i => hasN q (nmI f i)
/-- What the reference says. -/
def bestS (ev : List Int) (f : List Ap) (R : List Int) (need mis : List Int) (q : List ByteArray) : Bool :=
  namesB q && ((List.range 4).all (fun k => (cntL f (hasL f q R)).getD k 0 == need.getD k 0 - mis.getD k 0) && ((cntL f (hasL f q R)).sum == (q.length : Int) && R.all fun i => hasN q (nmI f i) || !decide (rdyKey ev f i < (wstL ev f (hasL f q R)).getD (kdOf f i) 0)))
def okTk (f : List Ap) (R : List Int) (q : List ByteArray) (k : Nat) : Bool := okNm q k && match q[k]? with
  | some nm => decide (findA nm f ∈ R)
  | none => true
def takenL (f : List Ap) (q : List ByteArray) : List Int := q.map fun nm => findA nm f
/-- What the program says. -/
def bestI (ev : List Int) (f : List Ap) (R : List Int) (need mis : List Int) (q : List ByteArray) : Bool :=
  (List.range q.length).all (okTk f R q) && (decide (missL f (takenL f q) need = mis) && R.all fun i => decide (i ∈ takenL f q) || !decide (rdyKey ev f i < (wstL ev f (takenL f q)).getD (kdOf f i) 0))
/-! what the steps hold -/
theorem set4_len {d : List Int} {k : Nat} {x : Int} : (d.set k x).length = d.length := List.length_set
theorem getD_set_eq {d : List Int} {k : Nat} {x : Int} (h : k < d.length) : (d.set k x).getD k 0 = x := by simp [List.getD, h]
theorem getD_set_ne {d : List Int} {k j : Nat} {x : Int} (h : k ≠ j) : (d.set k x).getD j 0 = d.getD j 0 := by simp [List.getD, List.getElem?_set_ne h]
theorem cnt_aux (f : List Ap) : ∀ (H d : List Int), d.length = 4 → (H.foldl (cntStep f) d).length = 4 ∧ ∀ k, k < 4 → (H.foldl (cntStep f) d).getD k 0 = d.getD k 0 + ((H.filter fun i => kdOf f i == k).length : Int) := by
  intro H
  induction H with
  | nil => intro d hd; exact ⟨hd, fun k _ => by simp⟩
  | cons i H ih =>
    intro d hd
    obtain ⟨h1, h2⟩ := ih (cntStep f d i) (by unfold cntStep; rw [set4_len, hd])
    refine ⟨h1, fun k hk => ?_⟩
    rw [List.foldl_cons, h2 k hk, List.filter_cons]
    unfold cntStep
    by_cases e : kdOf f i = k
    · subst e
      rw [getD_set_eq (by omega)]
      simp
      omega
    · rw [getD_set_ne e]
      simp [e]
theorem cnt_len (f : List Ap) (H : List Int) : (cntL f H).length = 4 := (cnt_aux f H _ rfl).1
theorem cnt_get (f : List Ap) (H : List Int) {k : Nat} (hk : k < 4) : (cntL f H).getD k 0 = ((H.filter fun i => kdOf f i == k).length : Int) := by
  have h := (cnt_aux f H [0, 0, 0, 0] rfl).2 k hk
  have e : ([0, 0, 0, 0] : List Int).getD k 0 = 0 := by rcases k with _ | _ | _ | _ | k <;> first | rfl | omega
  unfold cntL
  rw [h, e]; omega
theorem miss_aux (f : List Ap) : ∀ (H d : List Int), d.length = 4 → (H.foldl (missStep f) d).length = 4 ∧ ∀ k, k < 4 → (H.foldl (missStep f) d).getD k 0 = d.getD k 0 - ((H.filter fun i => kdOf f i == k).length : Int) := by
  intro H
  induction H with
  | nil => intro d hd; exact ⟨hd, fun k _ => by simp⟩
  | cons i H ih =>
    intro d hd
    obtain ⟨h1, h2⟩ := ih (missStep f d i) (by unfold missStep; rw [set4_len, hd])
    refine ⟨h1, fun k hk => ?_⟩
    rw [List.foldl_cons, h2 k hk, List.filter_cons]
    unfold missStep
    by_cases e : kdOf f i = k
    · subst e
      rw [getD_set_eq (by omega)]
      simp
      omega
    · rw [getD_set_ne e]
      simp [e]
theorem sum_kinds (g : Int → Nat) : ∀ H : List Int, (∀ i ∈ H, g i < 4) → (H.filter fun i => g i == 0).length + (H.filter fun i => g i == 1).length + (H.filter fun i => g i == 2).length + (H.filter fun i => g i == 3).length = H.length := by
  intro H
  induction H with
  | nil => intro _; rfl
  | cons i H ih =>
    intro h
    have hi := h i (by simp)
    have := ih (fun x hx => h x (by simp [hx]))
    rcases (show g i = 0 ∨ g i = 1 ∨ g i = 2 ∨ g i = 3 by omega) with e | e | e | e <;> simp [List.filter_cons, e] <;> omega
theorem list4g {d : List Int} (h : d.length = 4) : d = [d.getD 0 0, d.getD 1 0, d.getD 2 0, d.getD 3 0] := by
  match d, h with
  | [a, b, c, e], _ => rfl
theorem sum4 {d : List Int} (h : d.length = 4) : d.sum = d.getD 0 0 + d.getD 1 0 + d.getD 2 0 + d.getD 3 0 := by
  match d, h with
  | [a, b, c, e], _ => simp [List.getD]; omega
theorem cnt_sum (f : List Ap) (H : List Int) (h : ∀ i ∈ H, kdOf f i < 4) : (cntL f H).sum = (H.length : Int) := by
  rw [sum4 (cnt_len f H), cnt_get f H (by omega), cnt_get f H (by omega), cnt_get f H (by omega), cnt_get f H (by omega)]
  have := sum_kinds (kdOf f) H h
  omega
theorem wst_aux (ev : List Int) (f : List Ap) : ∀ (H d : List Int), d.length = 4 → (H.foldl (wstStep ev f) d).length = 4 ∧ ∀ k, k < 4 → d.getD k 0 ≤ (H.foldl (wstStep ev f) d).getD k 0 ∧ (∀ i ∈ H, kdOf f i = k → rdyKey ev f i ≤ (H.foldl (wstStep ev f) d).getD k 0) ∧
    ∀ c, d.getD k 0 ≤ c → (∀ i ∈ H, kdOf f i = k → rdyKey ev f i ≤ c) → (H.foldl (wstStep ev f) d).getD k 0 ≤ c := by
  intro H
  induction H with
  | nil => intro d hd; exact ⟨hd, fun k _ => ⟨Int.le_refl _, by simp, fun c h _ => h⟩⟩
  | cons i H ih =>
    intro d hd
    obtain ⟨h1, h2⟩ := ih (wstStep ev f d i) (by unfold wstStep; rw [set4_len, hd])
    refine ⟨h1, fun k hk => ?_⟩
    obtain ⟨a, b, c⟩ := h2 k hk
    rw [List.foldl_cons]
    by_cases e : kdOf f i = k
    · have hg : (wstStep ev f d i).getD k 0 = max (d.getD k 0) (rdyKey ev f i) := by unfold wstStep; rw [e, getD_set_eq (by omega)]
      rw [hg] at a c
      refine ⟨by omega, fun j hj hjk => ?_, fun c' h3 h4 => c c' (by have := h4 i (by simp) e; omega) (fun j hj => h4 j (by simp [hj]))⟩
      rcases List.mem_cons.1 hj with rfl | hj
      · omega
      · exact b j hj hjk
    · have hg : (wstStep ev f d i).getD k 0 = d.getD k 0 := by unfold wstStep; rw [getD_set_ne e]
      rw [hg] at a c
      refine ⟨a, fun j hj hjk => ?_, fun c' h3 h4 => c c' h3 (fun j hj => h4 j (by simp [hj]))⟩
      rcases List.mem_cons.1 hj with rfl | hj
      · exact absurd hjk e
      · exact b j hj hjk
theorem wst_congr (ev : List Int) (f : List Ap) {H T : List Int} (h1 : ∀ x ∈ H, x ∈ T) (h2 : ∀ x ∈ T, x ∈ H) {k : Nat} (hk : k < 4) : (wstL ev f H).getD k 0 = (wstL ev f T).getD k 0 := by
  obtain ⟨a, b, c⟩ := (wst_aux ev f H [-1, -1, -1, -1] rfl).2 k hk
  obtain ⟨a', b', c'⟩ := (wst_aux ev f T [-1, -1, -1, -1] rfl).2 k hk
  exact Int.le_antisymm (c _ a' (fun i hi => b' i (h1 i hi))) (c' _ a (fun i hi => b i (h2 i hi)))
/-! the two agree -/
theorem best_eq (ev : List Int) (f : List Ap) (R : List Int) (need : List Int) (q : List ByteArray) (P : List Int) (hfl : goodFl f = true) (hR : ∀ y ∈ R, ∃ (i : Nat) (a : Ap), y = (i : Int) ∧ f[i]? = some a) (hnd : R.Nodup) (hn4 : need.length = 4) :
    bestI ev f R need (missL f P need) q = bestS ev f R need (missL f P need) q := by
  have hkd : ∀ y ∈ R, kdOf f y < 4 := fun y hy => by
    obtain ⟨i, a, rfl, ha⟩ := hR y hy
    obtain ⟨_, h0, h3, _⟩ := goodAp_true ((goodFl_true hfl).2 a (List.mem_of_getElem? ha))
    rw [kdOf_at ha]; omega
  have hfind : ∀ y ∈ R, findA (nmI f y) f = y := fun y hy => by
    obtain ⟨i, a, rfl, ha⟩ := hR y hy
    rw [nmI_at ha]
    have h0 : 0 ≤ findA a.nm f := of_decide_eq_true (by unfold findA; rw [(idxG_any _ _).1]; exact List.any_eq_true.2 ⟨a, List.mem_of_getElem? ha, by simp⟩)
    obtain ⟨j, hj⟩ := Int.eq_ofNat_of_zero_le h0
    obtain ⟨b, hb, hbp⟩ := idxG_get hj
    have := fleet_inj hfl ha hb (of_decide_eq_true hbp).symm
    rw [hj, this]
  have hname : ∀ nm ∈ q, findA nm f ∈ R → nmI f (findA nm f) = nm := fun nm _ h => by
    obtain ⟨i, a, e, ha⟩ := hR _ h
    obtain ⟨b, hb, hbp⟩ := idxG_get e
    rw [e, nmI_at hb]
    exact of_decide_eq_true hbp
  by_cases hN : namesB q = true
  · have hqn := names_nodup hN
    have hHn : (hasL f q R).Nodup := nodup_filter _ hnd
    have hHR : ∀ y ∈ hasL f q R, y ∈ R := fun y hy => (List.mem_filter.1 hy).1
    have hinj : ∀ x ∈ R, ∀ y ∈ R, nmI f x = nmI f y → x = y := fun x hx y hy e => by rw [← hfind x hx, ← hfind y hy, e]
    have hmn : ((hasL f q R).map (nmI f)).Nodup := nodup_map_of _ _ hHn (fun x hx y hy => hinj x (hHR x hx) y (hHR y hy))
    have hms : ∀ z ∈ (hasL f q R).map (nmI f), z ∈ q := fun z hz => by
      obtain ⟨y, hy, rfl⟩ := List.mem_map.1 hz
      exact hasN_iff.1 (List.mem_filter.1 hy).2
    have hall : (List.range q.length).all (okTk f R q) = decide (∀ nm ∈ q, findA nm f ∈ R) := by
      by_cases h : ∀ nm ∈ q, findA nm f ∈ R
      · rw [decide_eq_true h, List.all_eq_true]
        intro k hk
        unfold okTk
        rw [List.all_eq_true.1 hN k hk]
        obtain ⟨nm, hnm⟩ : ∃ nm, q[k]? = some nm := ⟨_, List.getElem?_eq_getElem (List.mem_range.1 hk)⟩
        rw [hnm]
        exact decide_eq_true (h nm (List.mem_of_getElem? hnm))
      · rw [decide_eq_false h, List.all_eq_false]
        have ⟨nm, hnm, hno⟩ : ∃ nm, nm ∈ q ∧ findA nm f ∉ R := by
          apply Classical.byContradiction
          intro hc
          exact h (fun nm hm => Classical.byContradiction fun hn => hc ⟨nm, hm, hn⟩)
        obtain ⟨k, hk, e⟩ := List.getElem_of_mem hnm
        refine ⟨k, List.mem_range.2 hk, ?_⟩
        unfold okTk
        rw [List.getElem?_eq_getElem hk, e]
        simp [hno]
    by_cases hA : ∀ nm ∈ q, findA nm f ∈ R
    · have hTn : (takenL f q).Nodup := nodup_map_of _ _ hqn (fun x hx y hy e => by rw [← hname x hx (hA x hx), ← hname y hy (hA y hy), e])
      have hTH : ∀ x ∈ takenL f q, x ∈ hasL f q R := fun x hx => by
        obtain ⟨nm, hm, rfl⟩ := List.mem_map.1 hx
        exact List.mem_filter.2 ⟨hA nm hm, by rw [hname nm hm (hA nm hm)]; exact hasN_iff.2 hm⟩
      have hHT : ∀ x ∈ hasL f q R, x ∈ takenL f q := fun x hx => by
        obtain ⟨h1, h2⟩ := List.mem_filter.1 hx
        exact List.mem_map.2 ⟨nmI f x, hasN_iff.1 h2, hfind x h1⟩
      have hTl : (takenL f q).length = q.length := by unfold takenL; rw [List.length_map]
      have hHl : (hasL f q R).length = q.length := by
        have h1 := nodup_len _ _ hTn hTH
        have h2 := nodup_len _ _ hHn hHT
        omega
      have hkeq : ∀ k, ((takenL f q).filter fun i => kdOf f i == k).length = ((hasL f q R).filter fun i => kdOf f i == k).length := fun k => by
        have h1 := nodup_len _ _ (nodup_filter (fun i => kdOf f i == k) hTn) (fun x hx => List.mem_filter.2 ⟨hTH x (List.mem_filter.1 hx).1, (List.mem_filter.1 hx).2⟩)
        have h2 := nodup_len _ _ (nodup_filter (fun i => kdOf f i == k) hHn) (fun x hx => List.mem_filter.2 ⟨hHT x (List.mem_filter.1 hx).1, (List.mem_filter.1 hx).2⟩)
        omega
      have hsum : (cntL f (hasL f q R)).sum == (q.length : Int) := by
        rw [cnt_sum f _ (fun i hi => hkd i (hHR i hi)), hHl]; exact beq_iff_eq.2 rfl
      have hmiss : decide (missL f (takenL f q) need = missL f P need) = (List.range 4).all (fun k => (cntL f (hasL f q R)).getD k 0 == need.getD k 0 - (missL f P need).getD k 0) := by
        have hm1 := miss_aux f (takenL f q) need hn4
        have hm2 := (miss_aux f P need hn4).1
        have hval : ∀ k, k < 4 → (missL f (takenL f q) need).getD k 0 = need.getD k 0 - (cntL f (hasL f q R)).getD k 0 := fun k hk => by
          unfold missL
          rw [hm1.2 k hk, cnt_get f _ hk, hkeq]
        rw [Bool.eq_iff_iff, decide_eq_true_iff, List.all_eq_true]
        constructor
        · intro e k hk
          have := hval k (List.mem_range.1 hk)
          rw [e] at this
          exact beq_iff_eq.2 (by omega)
        · intro h
          have e : ∀ k, k < 4 → (missL f (takenL f q) need).getD k 0 = (missL f P need).getD k 0 := fun k hk => by
            have h1 := beq_iff_eq.1 (h k (List.mem_range.2 hk))
            have h2 := hval k hk
            omega
          rw [list4g (d := missL f (takenL f q) need) hm1.1, list4g (d := missL f P need) hm2, e 0 (by omega), e 1 (by omega), e 2 (by omega), e 3 (by omega)]
      have hlast : (R.all fun i => decide (i ∈ takenL f q) || !decide (rdyKey ev f i < (wstL ev f (takenL f q)).getD (kdOf f i) 0)) = R.all fun i => hasN q (nmI f i) || !decide (rdyKey ev f i < (wstL ev f (hasL f q R)).getD (kdOf f i) 0) := by
        rw [Bool.eq_iff_iff, List.all_eq_true, List.all_eq_true]
        have e : ∀ i ∈ R, (decide (i ∈ takenL f q) || !decide (rdyKey ev f i < (wstL ev f (takenL f q)).getD (kdOf f i) 0)) = (hasN q (nmI f i) || !decide (rdyKey ev f i < (wstL ev f (hasL f q R)).getD (kdOf f i) 0)) := fun i hi => by
          rw [wst_congr ev f hTH hHT (hkd i hi)]
          have : decide (i ∈ takenL f q) = hasN q (nmI f i) := by
            by_cases h : i ∈ takenL f q
            · rw [decide_eq_true h]
              exact ((List.mem_filter.1 (hTH i h)).2).symm
            · rw [decide_eq_false h]
              exact (hasN_false (fun hm => h (hHT i (List.mem_filter.2 ⟨hi, hasN_iff.2 hm⟩)))).symm
          rw [this]
        constructor
        · intro h i hi; rw [← e i hi]; exact h i hi
        · intro h i hi; rw [e i hi]; exact h i hi
      unfold bestI bestS
      rw [hall, decide_eq_true hA, hN, hmiss, hsum, hlast]
      simp
    · have hsum : ((cntL f (hasL f q R)).sum == (q.length : Int)) = false := by
        rw [cnt_sum f _ (fun i hi => hkd i (hHR i hi))]
        refine beq_false_of_ne (fun e => hA (fun nm hm => ?_))
        have := nodup_back hmn hms (by rw [List.length_map]; omega) nm hm
        obtain ⟨y, hy, rfl⟩ := List.mem_map.1 this
        rw [hfind y (hHR y hy)]; exact hHR y hy
      unfold bestI bestS
      rw [hall, decide_eq_false hA, hsum]
      simp
  · have hN' : namesB q = false := by simpa using hN
    have : (List.range q.length).all (okTk f R q) = false := by
      rw [List.all_eq_false]
      obtain ⟨k, hk, h⟩ := List.all_eq_false.1 hN'
      refine ⟨k, hk, ?_⟩
      unfold okTk
      have h' : okNm q k = false := by simpa using h
      rw [h']; simp
    unfold bestI bestS
    rw [this, hN']
    simp
end Go.Proofs.Ytcpchdbhpcebeaa

namespace Go.Proofs.Ytcpchdbhpcebeaa
open Go.RowKit

theorem readyL_nodup (ev : List Int) (f : List Ap) : (readyL ev f).Nodup := by
  unfold readyL
  rw [(isort_perm _ _).nodup_iff]
  unfold selD
  exact nodup_map_of _ _ (nodup_filter _ List.nodup_range) (fun (x : Nat) _ (y : Nat) _ e => by have h : (x : Int) = (y : Int) := e; omega)
set_option maxRecDepth 100000 in
set_option maxHeartbeats 4000000 in
theorem equal_c (v u : Value) (s t : List Int) (w : World) (hs : RdI w v s) (ht : RdI w u t) :
    Calls Try.prog 105 #[v, u] w fun e w' => e = .returned (.bool (decide (s = t))) ∧ Below w.heap.size w w' := by
  obtain ⟨A, c, rfl, hc, hm, hr⟩ := hs
  obtain ⟨A', c', rfl, hc', hm', hr'⟩ := ht
  rw [maxLen_eq] at hm hm'
  have HS := Lib.hid hr
  have HT := Lib.hid hr'
  clear hr hr'
  by_cases hlen : s.length = t.length
  · have hlb : ((s.length : Int) != t.length) = false := by rw [hlen]; simp
    have HL := Lib.hid hlen
    clear hlen
    go_enter Try.func105, Try.ntmps105
    go_wp2_with fail
    go_loopw [13] (fun v6 wr => ∃ k : Nat, k ≤ s.length ∧ v6 = .int .i64 k ∧ Hid (s.take k = t.take k) ∧ Hid (Below w.heap.size w wr)) (fun v6 _ => s.length - (intOf v6).toNat)
    case atStart => exact ⟨0, Nat.zero_le _, rfl, Lib.hid rfl, Lib.hid (Below.refl _ _)⟩
    case round =>
      obtain ⟨k, hk, rfl, HE, HB⟩ := hrel
      have i0 : (0 : Int) ≤ (k : Int) := by omega
      by_cases hlt : k < s.length
      · have hlt2 : k < t.length := by have := HL.out; omega
        obtain ⟨b, off, rfl, hbl, hcell⟩ := HS.out (by omega)
        obtain ⟨b', off', rfl, hbl', hcell'⟩ := HT.out (by omega)
        obtain ⟨x, hx⟩ : ∃ x, s[k]? = some x := ⟨_, List.getElem?_eq_getElem hlt⟩
        obtain ⟨y, hy⟩ : ∃ y, t[k]? = some y := ⟨_, List.getElem?_eq_getElem hlt2⟩
        have c0 := cell_at hcell HB.out hbl (ints_get hx)
        have d0 := cell_at hcell' HB.out hbl' (ints_get hy)
        have i1 : (k : Int) < (s.length : Int) := by omega
        have i2 : (k : Int) < (t.length : Int) := by omega
        have HX := Lib.hid hx
        have HY := Lib.hid hy
        clear hcell hcell' hx hy
        by_cases hxy : x = y
        · have hb : (x != y) = false := by rw [hxy]; simp
          have HN : Hid (s.take (k + 1) = t.take (k + 1)) := Lib.hid (by rw [take_succ_of HX.out, take_succ_of HY.out, HE.out, hxy])
          clear hxy
          go_wp2_with fail
          go_quiet (fail)
          go_wp2
          exact ⟨⟨k + 1, by omega, by go_num, HN, Lib.hid (below_drewN HB.out _)⟩, by simp [intOf]; omega⟩
        · have hb : (x != y) = true := by simp [hxy]
          have HN : Hid (s ≠ t) := Lib.hid (fun e => by
            have h1 := HX.out
            rw [e, HY.out] at h1
            exact hxy (Option.some.inj h1).symm)
          clear hxy
          go_wp2_with fail
          go_quiet (fail)
          go_wp2
          go_ret
          rw [decide_eq_false HN.out]
          exact ⟨rfl, below_drewN HB.out _⟩
      · obtain rfl : k = s.length := by omega
        go_wp2
        go_ret
        have e := HE.out
        rw [List.take_of_length_le (by omega), List.take_of_length_le (by have := HL.out; omega)] at e
        rw [decide_eq_true e]
        exact ⟨rfl, HB.out⟩
  · have hlb : ((s.length : Int) != t.length) = true := by simp; omega
    have HNE : Hid (s ≠ t) := Lib.hid (fun e => hlen (by rw [e]))
    clear hlen
    go_enter Try.func105, Try.ntmps105
    go_wp2
    go_ret
    rw [decide_eq_false HNE.out]
    exact ⟨rfl, Below.refl _ _⟩
set_option maxRecDepth 100000 in
set_option maxHeartbeats 1000000 in
theorem dsHas_c (v : Value) (q : List ByteArray) (nm : ByteArray) (w : World) (hr : RdS w v q) :
    Calls Try.prog 81 #[v, .string nm] w fun e w' => e = .returned (.bool (hasN q nm)) ∧ w = w' := by
  obtain ⟨A, c, rfl, hc, hm, hr⟩ := hr
  rw [maxLen_eq] at hm
  go_enter Try.func81, Try.ntmps81
  go_wp2_with fail
  go_loopw [9] (fun i wr => ∃ k : Nat, k ≤ q.length ∧ i = .int .i64 k ∧ Hid (nm ∉ q.take k) ∧ wr = w) (fun i _ => q.length - (intOf i).toNat)
  case atStart => exact ⟨0, Nat.zero_le _, rfl, Lib.hid (by simp), rfl⟩
  case round =>
    obtain ⟨k, hk, rfl, HA, rfl⟩ := hrel
    by_cases hlt : k < q.length
    · obtain ⟨b, off, rfl, hbl, hcell⟩ := hr (by omega)
      obtain ⟨t, hx⟩ : ∃ t, q[k]? = some t := ⟨_, List.getElem?_eq_getElem hlt⟩
      have c0 := hcell k _ (strs_get hx)
      have HX := Lib.hid hx
      clear hx hcell hr
      by_cases hpy : t = nm
      · have e0 : (t.toList == nm.toList) = true := by rw [hpy]; simp
        have HF : Hid (hasN q nm = true) := Lib.hid (hasN_iff.2 (hpy ▸ List.mem_of_getElem? HX.out))
        clear hpy
        go_wp2
        go_ret
        rw [HF.out]
        exact ⟨rfl, (by first | rfl | trivial)⟩
      · have e0 : (t.toList == nm.toList) = false := by rw [beq_nm]; exact decide_eq_false hpy
        have HN : Hid (nm ∉ q.take (k + 1)) := Lib.hid (by
          rw [take_succ_of HX.out]
          intro h
          rcases List.mem_append.1 h with h | h
          · exact HA.out h
          · exact hpy (List.mem_singleton.1 h).symm)
        clear hpy
        go_wp2
        exact ⟨⟨k + 1, by omega, by go_num, HN, (by first | rfl | trivial)⟩, by simp [intOf]; omega⟩
    · obtain rfl : k = q.length := by omega
      have h := HA.out
      rw [List.take_length] at h
      have HF : Hid (hasN q nm = false) := Lib.hid (hasN_false h)
      clear h
      go_wp2
      go_ret
      rw [HF.out]
      exact ⟨rfl, (by first | rfl | trivial)⟩
end Go.Proofs.Ytcpchdbhpcebeaa

namespace Go.Proofs.Ytcpchdbhpcebeaa
open Go.RowKit

theorem missL_len2 (f : List Ap) : ∀ (L d : List Int), (missL f L d).length = d.length := by
  intro L
  induction L with
  | nil => intro d; rfl
  | cons i L ih => intro d; unfold missL; rw [List.foldl_cons]; have := ih (missStep f d i); unfold missL at this; rw [this]; unfold missStep; simp
theorem own_far {w : World} {base : Nat} {e : TypeId} {sz : Nat} {v : Value} {n : Nat} {xs : List Value} (h : w.ownsRow base e sz v n xs) {g : Nat} (hne : ∀ q, v.ownBlock = some q → q ≠ g) (j : Nat) (u : Value) : (w.setCell ⟨g, j, none⟩ u).ownsRow base e sz v n xs :=
  h.kept (only_setCell (World.grownBy.refl w (some g)) j u) (by
    cases hv : v.ownBlock with
    | none => exact .inl rfl
    | some q => exact .inr (fun hq => hne q hv (Option.some.inj hq)))
def isBestChoiceV (n : Int) (l : List St) (f : List Ap) (x : Int) (need : List Int) (q : List ByteArray) : Bool × Bool :=
  if askD n l f x = true ∧ needB need = true then (bestS (distT n.toNat (arcs l) x.toNat) f (readyL (distT n.toNat (arcs l) x.toNat) f) need (pickL f (readyL (distT n.toNat (arcs l) x.toNat) f) need).2 q, true) else (false, false)
theorem best_no1 {n : Int} {l : List St} {f : List Ap} {x : Int} {need : List Int} {q : List ByteArray} (h : askD n l f x = false) : isBestChoiceV n l f x need q = (false, false) := by unfold isBestChoiceV; rw [if_neg (by rw [h]; simp)]
theorem best_no2 {n : Int} {l : List St} {f : List Ap} {x : Int} {need : List Int} {q : List ByteArray} (h : needB need = false) : isBestChoiceV n l f x need q = (false, false) := by unfold isBestChoiceV; rw [if_neg (by rw [h]; simp)]
theorem best_yes {n src : Nat} {l : List St} {f : List Ap} {need : List Int} {q : List ByteArray} {ev L mis : List Int} (h : askD n l f src = true) (h2 : needB need = true) (hev : distT n (arcs l) src = ev) (hL : readyL ev f = L) (hm : (pickL f L need).2 = mis) :
    isBestChoiceV n l f src need q = (bestS ev f L need mis q, true) := by
  unfold isBestChoiceV; rw [if_pos ⟨h, h2⟩, Int.toNat_natCast, Int.toNat_natCast, hev, hL, hm]
def BestIs (n : Int) (l : List St) (f : List Ap) (x : Int) (need : List Int) (q : List ByteArray) (w : World) (e : Ending) (w' : World) : Prop :=
  e = .returned (.tuple #[.bool (isBestChoiceV n l f x need q).1, .bool (isBestChoiceV n l f x need q).2]) ∧ Below w.heap.size w w'
theorem hasL_yes {f : List Ap} {q : List ByteArray} {L : List Int} {k : Nat} {y : Int} (h : L[k]? = some y) (hy : hasN q (nmI f y) = true) : hasL f q (L.take (k + 1)) = hasL f q (L.take k) ++ [y] := by
  unfold hasL; rw [take_succ_of h, List.filter_append]; simp [hy]
theorem hasL_no {f : List Ap} {q : List ByteArray} {L : List Int} {k : Nat} {y : Int} (h : L[k]? = some y) (hy : hasN q (nmI f y) = false) : hasL f q (L.take (k + 1)) = hasL f q (L.take k) := by
  unfold hasL; rw [take_succ_of h, List.filter_append]; simp [hy]
theorem cnt_snoc (f : List Ap) (H : List Int) (y : Int) : cntL f (H ++ [y]) = cntStep f (cntL f H) y := by unfold cntL; rw [List.foldl_append]; rfl
theorem wst_snoc (ev : List Int) (f : List Ap) (H : List Int) (y : Int) : wstL ev f (H ++ [y]) = wstStep ev f (wstL ev f H) y := by unfold wstL; rw [List.foldl_append]; rfl
theorem hasL_len (f : List Ap) (q : List ByteArray) (L : List Int) : (hasL f q L).length ≤ L.length := List.length_filter_le _ _
theorem best_noN {ev : List Int} {f : List Ap} {R need mis : List Int} {q : List ByteArray} (h : namesB q = false) : bestS ev f R need mis q = false := by unfold bestS; rw [h]; rfl
theorem best_noK {ev : List Int} {f : List Ap} {R need mis : List Int} {q : List ByteArray} {k : Nat} (hk : k < 4) (h : (cntL f (hasL f q R)).getD k 0 ≠ need.getD k 0 - mis.getD k 0) : bestS ev f R need mis q = false := by
  unfold bestS
  have : (List.range 4).all (fun k => (cntL f (hasL f q R)).getD k 0 == need.getD k 0 - mis.getD k 0) = false := List.all_eq_false.2 ⟨k, List.mem_range.2 hk, by simpa using h⟩
  rw [this]; simp
theorem best_noS {ev : List Int} {f : List Ap} {R need mis : List Int} {q : List ByteArray} (h : ((cntL f (hasL f q R)).sum == (q.length : Int)) = false) : bestS ev f R need mis q = false := by unfold bestS; rw [h]; simp
theorem best_noR {ev : List Int} {f : List Ap} {R need mis : List Int} {q : List ByteArray} {i : Int} (hi : i ∈ R) (h : (hasN q (nmI f i) || !decide (rdyKey ev f i < (wstL ev f (hasL f q R)).getD (kdOf f i) 0)) = false) : bestS ev f R need mis q = false := by
  unfold bestS
  have : (R.all fun i => hasN q (nmI f i) || !decide (rdyKey ev f i < (wstL ev f (hasL f q R)).getD (kdOf f i) 0)) = false := List.all_eq_false.2 ⟨i, hi, by rw [h]; simp⟩
  rw [this]; simp
theorem best_all {ev : List Int} {f : List Ap} {R need mis : List Int} {q : List ByteArray} (hN : namesB q = true) (hK : ∀ k, k < 4 → (cntL f (hasL f q R)).getD k 0 = need.getD k 0 - mis.getD k 0) (hS : ((cntL f (hasL f q R)).sum == (q.length : Int)) = true)
    (hR : (R.all fun i => hasN q (nmI f i) || !decide (rdyKey ev f i < (wstL ev f (hasL f q R)).getD (kdOf f i) 0)) = true) : bestS ev f R need mis q = true := by
  unfold bestS
  have : (List.range 4).all (fun k => (cntL f (hasL f q R)).getD k 0 == need.getD k 0 - mis.getD k 0) = true := List.all_eq_true.2 (fun k hk => beq_iff_eq.2 (hK k (List.mem_range.1 hk)))
  rw [hN, this, hS, hR]; rfl
theorem wst_bd {ev : List Int} {f : List Ap} {H : List Int} {c : Int} (hc : -1 ≤ c) (h : ∀ i ∈ H, rdyKey ev f i ≤ c) {k : Nat} (hk : k < 4) : -1 ≤ (wstL ev f H).getD k 0 := by
  have := ((wst_aux ev f H [-1, -1, -1, -1] rfl).2 k hk).1
  have e : ([-1, -1, -1, -1] : List Int).getD k 0 = -1 := by rcases k with _ | _ | _ | _ | k <;> first | rfl | omega
  rw [e] at this; exact this
theorem wst_len (ev : List Int) (f : List Ap) (H : List Int) : (wstL ev f H).length = 4 := (wst_aux ev f H _ rfl).1

set_option maxRecDepth 100000 in
set_option maxHeartbeats 8000000 in
theorem isBestChoiceS_c (n : Int) (s : Value) (l : List St) (v : Value) (f : List Ap) (x : Int) (vn : Value) (need : List Int) (vq : Value) (q : List ByteArray) (w : World) (hr : Rd w s l.length (l.flatMap St.cells)) (hz : ∀ x ∈ f, x.nm.size ≤ 9223372036854775807) (hf : Rd w v f.length (f.flatMap Ap.cells)) (hvn : RdI w vn need) (hq : RdS w vq q) :
    Calls Try.prog 45 #[.agg #[.int .i64 n, s], v, .int .i64 x, vn, vq] w (BestIs n l f x need q w) := by
  have HR := Lib.hid hr
  have HF := Lib.hid hf
  have HZ := Lib.hid hz
  have HN := Lib.hid hvn
  have HQ := Lib.hid hq
  obtain ⟨i0', hi, hz0, hz1, hz2⟩ := info_parts Try.infoInt
  obtain ⟨A, c, rfl, hc, hm, hcell0⟩ := hf
  rw [maxLen_eq] at hm
  have HCELL := Lib.hid hcell0
  obtain ⟨AN, cn, rfl, hcn, hmn, hcelln⟩ := hvn
  rw [maxLen_eq] at hmn
  have HCN := Lib.hid hcelln
  obtain ⟨AQ, cq, rfl, hcq, hmq, hcellq⟩ := hq
  rw [maxLen_eq] at hmq
  clear hr hz hcell0 hcelln hcellq
  go_enter Try.func45, Try.ntmps45
  go_wp2_with fail
  (generalize hw1 : World.alloc w _ = w1; have k0 : w1.cell? ⟨w.heap.size, 0, none⟩ = some (.int .i64 n) := (by subst hw1; simp [go_sem]); have k1 : w1.cell? ⟨w.heap.size, 1, none⟩ = some s := (by subst hw1; simp [go_sem]); have hb0 : Below w.heap.size w w1 := (by subst hw1; exact bel_al (Below.refl _ _) _); have hsz1 : w.heap.size < w1.heap.size := (by subst hw1; simp); clear hw1)
  have HB := Lib.hid hb0
  refine (dsAsked_c n s l _ f x _ (rd_below HR.out HB.out) HZ.out (rd_below HF.out HB.out)).mono ?_; rintro e w2 ⟨rfl, hb1⟩
  have e0 := (hb1.cell (p := ⟨w.heap.size, 0, none⟩) (by show w.heap.size < _; omega)).trans k0
  have e1 := (hb1.cell (p := ⟨w.heap.size, 1, none⟩) (by show w.heap.size < _; omega)).trans k1
  have hsb := hb1.size
  have HB1 := Lib.hid (bel_then HB.out hb1)
  clear k0 k1 hb0 hb1
  by_cases hg : askD n l f x = true
  · have HASK := Lib.hid hg
    rw [hg]
    obtain ⟨hds, hx0, hx1⟩ := askD_true hg
    obtain ⟨hgt, hgf, hnd⟩ := goodDs_true hds
    have hn1 := (goodTown_true hgt).1
    have hf12 := (goodFl_true hgf).1
    obtain ⟨N, rfl⟩ := Int.eq_ofNat_of_zero_le (show 0 ≤ n by omega)
    obtain ⟨src, rfl⟩ := Int.eq_ofNat_of_zero_le hx0
    have hs : src < N := by omega
    have HGT := Lib.hid hgt
    have HGF := Lib.hid hgf
    have HND := Lib.hid hnd
    have HND2 : Hid (∀ a ∈ f, 0 ≤ a.nd ∧ a.nd ≤ ((distT N (arcs l) src).length : Int) - 1) := Lib.hid (by rw [dist_len]; exact hnd)
    clear hg hds hgt hgf hnd hx0 hx1
    go_wp2_with fail
    refine (tbNeed_c _ need _ (rd_below HN.out HB1.out)).mono ?_; rintro e w3 ⟨rfl, rfl⟩
    by_cases hne : needB need = true
    · have HNE := Lib.hid hne
      rw [hne]
      obtain ⟨hn4, hnb⟩ := needB_true hne
      have HN4 := Lib.hid hn4
      have HNB := Lib.hid hnb
      clear hne hnb hn4
      go_wp2_with fail
      refine (dsReady_c N s l _ f src _ HGT.out HGF.out HND.out hs (rd_below HR.out HB1.out) (rd_below HF.out HB1.out)).mono ?_
      rintro e w3 ⟨v5, u5, rfl, hv5, hu5, hb2⟩
      have HB2 := Lib.hid (bel_then HB1.out hb2)
      have e0 := (hb2.cell (p := ⟨w.heap.size, 0, none⟩) (by show w.heap.size < _; omega)).trans e0
      have e1 := (hb2.cell (p := ⟨w.heap.size, 1, none⟩) (by show w.heap.size < _; omega)).trans e1
      have HV5 := Lib.hid hv5
      have HU5 := Lib.hid hu5
      clear hb2 hv5 hu5
      go_wp2_with fail
      refine (dsPick_c N s l _ f src _ need _ HGT.out HGF.out HND.out hs HNE.out (rd_below HR.out HB2.out) (rd_below HF.out HB2.out) (rd_below HN.out HB2.out)).mono ?_
      rintro e w4 ⟨vp, vm, vt, rfl, _, hom, _, hb3⟩
      have HB3 := Lib.hid (bel_then HB2.out hb3)
      have hv5 := rd_below HV5.out hb3
      have hu5 := rd_below HU5.out hb3
      obtain ⟨hm5, hl5⟩ := readyTimes_mem (ev := distT N (arcs l) src) HGF.out
      obtain ⟨ev, hev⟩ : ∃ ev, distT N (arcs l) src = ev := ⟨_, rfl⟩
      rw [hev] at hv5 hu5 hm5 hl5 HND2 hom
      have HEV := Lib.hid hev
      obtain ⟨L, hL⟩ : ∃ L, readyL ev f = L := ⟨_, rfl⟩
      rw [hL] at hv5 hm5 hl5 hom
      have hml : (pickL f L need).2.length = 4 := by rw [← pick_miss, missL_len2, HN4.out]
      have hmv : ∀ j, j < 4 → 0 ≤ (pickL f L need).2.getD j 0 ∨ True := fun _ _ => .inr trivial
      obtain ⟨mis, hmis⟩ : ∃ mis, (pickL f L need).2 = mis := ⟨_, rfl⟩
      rw [hmis] at hom hml
      rw [hml] at hom
      have HV := Lib.hid (best_yes (q := q) HASK.out HNE.out hev hL hmis)
      have HMIS := Lib.hid hmis
      have HLL := Lib.hid hL
      have HLM := Lib.hid hm5
      have HML := Lib.hid hml
      have HOM := Lib.hid hom
      obtain ⟨gm, cm, rfl, _, hgm, hcm4, _⟩ := own_shape hom (by omega)
      obtain ⟨A5, c5, rfl, hc5, hm5', hcell5⟩ := hv5
      rw [maxLen_eq] at hm5'
      have HC5 := Lib.hid hcell5
      obtain ⟨A6, c6, rfl, hc6, hm6, hcell6⟩ := hu5
      rw [maxLen_eq] at hm6
      rw [allT_len] at hc6 hcell6 ⊢
      have HC6 := Lib.hid hcell6
      clear hm5 hb3 hcell5 hcell6 hev hL hom hmis hml e0 e1 HV5 HU5
      go_wp2_with fail
      refine (dsNames_c _ q _ (rd_below HQ.out HB3.out)).mono ?_; rintro e w5 ⟨rfl, rfl⟩
      by_cases hnam : namesB q = true
      · have HNAM := Lib.hid hnam
        rw [hnam]
        clear hnam
        go_wp2_with (at_make; refine wpList_make_full _ rfl _ _ 56 rfl w4.heap.size 3 i0' _ 1 Try.underlying56 hi hz0 hz1 _ _ _ _ 4 rfl rfl rfl rfl (by rw [hz2]; omega) (by rw [maxLen_eq]; omega) (Nat.le_refl _) ?_; intro w1 hown1 hg1; rw [made_ints] at hown1)
        generalize hW : World.alloc w1 _ = wB
        have hs1 := hg1.size
        have hrow2 : wB.ownsRow w4.heap.size 3 1 (.slice (some ⟨w1.heap.size, 0, none⟩) 4 4) 4 (ints [-1, -1, -1, -1]) := by subst hW; exact heap_own (heap_alloc_new w1 _) rfl hs1 (by rw [maxLen_eq]; omega)
        have hrow1 := own_below hown1 (show Below w1.heap.size w1 wB by subst hW; exact bel_al (Below.refl _ _) _)
        have hbB : Below w4.heap.size w4 wB := by subst hW; exact bel_al (bel_grown (Below.refl _ _) hg1 (fun k h => by cases h)) _
        obtain ⟨gw, hgw⟩ : ∃ gw, w1.heap.size = gw := ⟨_, rfl⟩
        have hgwB : gw < wB.heap.size := by subst hW; rw [← hgw]; simp
        have hgc : w4.heap.size < gw := by have h : w4.heap.size < w1.heap.size := (hown1.lt w4.heap.size rfl).2; omega
        rw [hgw] at hrow2 ⊢
        have HW0 := Lib.hid hrow2
        have HC0 := Lib.hid hrow1
        have HBB := Lib.hid hbB
        clear hW hg1 hown1 hrow2 hrow1 hbB hgw hs1
        go_loopw [59] (fun vi wr => ∃ (k : Nat) (H d t : List Int), k ≤ L.length ∧ vi = .int .i64 k ∧ Hid (hasL f q (L.take k) = H) ∧ Hid (cntL f H = d) ∧ Hid (wstL ev f H = t) ∧ Hid (wr.ownsRow w4.heap.size 3 1 (.slice (some ⟨w4.heap.size, 0, none⟩) 4 4) 4 (ints d)) ∧ Hid (wr.ownsRow w4.heap.size 3 1 (.slice (some ⟨gw, 0, none⟩) 4 4) 4 (ints t)) ∧ Hid (Below w4.heap.size w4 wr)) (fun vi _ => L.length - (intOf vi).toNat)
        case atStart => exact ⟨0, [], [0, 0, 0, 0], [-1, -1, -1, -1], Nat.zero_le _, rfl, Lib.hid rfl, Lib.hid rfl, Lib.hid rfl, HC0, HW0, HBB⟩
        case round =>
          obtain ⟨k, H, d, t, hk, rfl, HH, HD, HT, HRC, HRW, HBL⟩ := hrel
          obtain ⟨wA, rfl⟩ : ∃ wA : World, wA = wr := ⟨_, rfl⟩
          have hsA := HBL.out.size
          by_cases hlt : k < L.length
          · obtain ⟨b5, off5, rfl, hb5, hcl5⟩ := HC5.out (by omega)
            obtain ⟨y, hy⟩ : ∃ y, L[k]? = some y := ⟨_, List.getElem?_eq_getElem hlt⟩
            obtain ⟨i, a, rfl, ha⟩ := HLM.out y (List.mem_of_getElem? hy)
            have hnn := HND2.out _ (List.mem_of_getElem? ha)
            have hkey := rdyKey_at (ev := ev) ha
            have hnm := nmI_at ha
            have hkq := kdOf_at ha
            have hgd := goodAp_true ((goodFl_true HGF.out).2 _ (List.mem_of_getElem? ha))
            have htt := allT_get (ev := ev) ha
            obtain ⟨nm, kd, nd, cr, sv⟩ := a
            dsimp only at hnn hkey hnm hkq hgd htt
            obtain ⟨_, hkd0, hkd3, _, _, _⟩ := hgd
            obtain ⟨kq, rfl⟩ := Int.eq_ofNat_of_zero_le hkd0
            rw [Int.toNat_natCast] at hkq
            have hif : i < f.length := (List.getElem?_eq_some_iff.1 ha).1
            obtain ⟨b, off, rfl, hbl, hcell⟩ := HCELL.out (by omega)
            obtain ⟨d0, d1, _, _, _⟩ := ap_at hcell (bel_then HB3.out HBL.out) hbl ha
            dsimp only at d0 d1
            obtain ⟨b6, off6, rfl, hb6, hcl6⟩ := HC6.out (by omega)
            obtain ⟨tm, htm⟩ : ∃ tm, ev.getD nd.toNat 0 = tm := ⟨_, rfl⟩
            rw [htm] at htt hkey
            have co := cell_at hcl5 HBL.out hb5 (ints_get hy)
            have ct := cell_at hcl6 HBL.out hb6 (ints_get htt)
            have i0 : (0 : Int) ≤ (i : Int) := by omega
            have i1 : (i : Int) < (f.length : Int) := by omega
            have q0 : (0 : Int) ≤ (kq : Int) := by omega
            have q4 : (kq : Int) < 4 := by omega
            have hq4 : kq < 4 := by omega
            have hH12 : H.length ≤ 12 := by have h1 := hasL_len f q (L.take k); rw [HH.out] at h1; have h2 : (L.take k).length ≤ L.length := by simp; omega
                                            omega
            have hcv := cnt_get f H hq4
            rw [HD.out] at hcv
            have hcf := List.length_filter_le (fun i => kdOf f i == kq) H
            obtain ⟨cv, hcvd⟩ : ∃ cv, d.getD kq 0 = cv := ⟨_, rfl⟩
            obtain ⟨wv, hwvd⟩ : ∃ wv, t.getD kq 0 = wv := ⟨_, rfl⟩
            have cc := own_cell HRC.out hq4
            have cw := own_cell HRW.out hq4
            rw [hcvd] at cc hcv
            rw [hwvd] at cw
            have fc := HRC.out.frozenAt kq
            have fw := HRW.out.frozenAt kq
            have hcv0 : 0 ≤ cv ∧ cv ≤ 12 := by omega
            have HKEY := Lib.hid hkey
            have HKQ := Lib.hid hkq
            have HY := Lib.hid hy
            have HNM := Lib.hid hnm
            have HCV := Lib.hid hcvd
            have HWV := Lib.hid hwvd
            clear hcl5 hy ha hcell hcl6 htt hkey hnm hkq hnn hcv hcvd hwvd hkd3 htm hcf
            go_wp2_with fail
            refine (dsHas_c _ q nm _ (rd_below HQ.out (bel_then HB3.out HBL.out))).mono ?_; rintro e w6 ⟨rfl, rfl⟩
            by_cases hh : hasN q nm = true
            · rw [hh]
              have HH2 : Hid (hasL f q (L.take (k + 1)) = H ++ [(i : Int)]) := Lib.hid (by rw [hasL_yes HY.out (by rw [HNM.out]; exact hh), HH.out])
              have HD2 : Hid (cntL f (H ++ [(i : Int)]) = d.set kq (cv + 1)) := Lib.hid (by rw [cnt_snoc, HD.out]; unfold cntStep; rw [HKQ.out, HCV.out])
              have HT2 : Hid (wstL ev f (H ++ [(i : Int)]) = t.set kq (maxI wv tm)) := Lib.hid (by rw [wst_snoc, HT.out]; unfold wstStep; rw [HKQ.out, HWV.out, HKEY.out, maxI_eq])
              have s3 : IntKind.i64.wrap (cv + 1) = cv + 1 := IntWalk.i64_in _ (by omega)
              have hne2 : gw ≠ w4.heap.size := by omega
              clear hh
              go_wp2_with fail
              generalize hWc : World.setCell wA _ _ = wC
              have hRC2 : wC.ownsRow w4.heap.size 3 1 (.slice (some ⟨w4.heap.size, 0, none⟩) 4 4) 4 (ints (d.set kq (cv + 1))) := by subst hWc; exact own_setI HRC.out kq (cv + 1)
              have hRW2 : wC.ownsRow w4.heap.size 3 1 (.slice (some ⟨gw, 0, none⟩) 4 4) 4 (ints t) := by subst hWc; exact own_far HRW.out (fun q' e => by have h : gw = q' := Option.some.inj e; omega) _ _
              have hBC : Below w4.heap.size w4 wC := by subst hWc; exact Below.setCell HBL.out (Nat.le_refl _) _
              have cw2 := own_cell hRW2 hq4
              rw [HWV.out] at cw2
              have fw2 := hRW2.frozenAt kq
              have d1' := (hBC.cell (p := ⟨b6, off6 + i, none⟩) hb6).trans ((HBL.out.cell (p := ⟨b6, off6 + i, none⟩) hb6).symm.trans ct)
              have HRC2 := Lib.hid hRC2
              have HRW2 := Lib.hid hRW2
              have HBC := Lib.hid hBC
              clear hWc hRC2 hRW2 hBC cc cw fc fw ct d0 d1 co s3
              go_region_with ((go_at_call 53; refine (l1Most_c _ _ _).mono ?_; rintro e w' ⟨rfl, rfl⟩))
              all_goals
                go_wp2
                exact ⟨⟨k + 1, H ++ [(i : Int)], _, _, by omega, by go_num, HH2, HD2, HT2, Lib.hid (own_far (own_dr HRC2.out) (fun q' e => by have h : w4.heap.size = q' := Option.some.inj e; omega) _ _), Lib.hid (own_setI (own_dr HRW2.out) kq (maxI wv tm)), Lib.hid (Below.setCell (bel_dr HBC.out) (by show w4.heap.size ≤ gw; omega) _)⟩, by simp [intOf]; omega⟩
            · have hh : hasN q nm = false := by simpa using hh
              rw [hh]
              have HH2 : Hid (hasL f q (L.take (k + 1)) = H) := Lib.hid (by rw [hasL_no HY.out (by rw [HNM.out]; exact hh), HH.out])
              go_wp2
              exact ⟨⟨k + 1, H, d, t, by omega, by go_num, HH2, HD, HT, HRC, HRW, HBL⟩, by simp [intOf]; omega⟩
          · obtain rfl : k = L.length := by omega
            have hhh := HH.out
            rw [List.take_length] at hhh
            subst hhh
            have hH12 : (hasL f q L).length ≤ 12 := by have := hasL_len f q L; omega
            have hdl := cnt_len f (hasL f q L)
            rw [HD.out] at hdl
            have HDL := Lib.hid hdl
            have hcb : ∀ j, j < 4 → 0 ≤ d.getD j 0 ∧ d.getD j 0 ≤ 12 := fun j hj => by
              have h1 := cnt_get f (hasL f q L) hj
              rw [HD.out] at h1
              have h2 := List.length_filter_le (fun i => kdOf f i == j) (hasL f q L)
              omega
            have HCB := Lib.hid hcb
            have hnbv : ∀ j, j < 4 → 0 ≤ need.getD j 0 ∧ need.getD j 0 ≤ 6 := fun j _ => ⟨getD_ge need 0 (by omega) (fun y hy => (HNB.out y hy).1) j, getD_le need 6 (by omega) (fun y hy => (HNB.out y hy).2) j⟩
            have hmbv : ∀ j, j < 4 → -12 ≤ mis.getD j 0 ∧ mis.getD j 0 ≤ 6 := fun j hj => by
              have h1 := (miss_aux f (pickL f L need).1 need HN4.out).2 j hj
              have h2 : missL f (pickL f L need).1 need = mis := by rw [pick_miss, HMIS.out]
              unfold missL at h2
              rw [h2] at h1
              have h3 := List.length_filter_le (fun i => kdOf f i == j) (pickL f L need).1
              have h4 := (pick_mem f (fun _ => True) L need (fun _ _ => trivial)).2
              have h5 := hnbv j hj
              omega
            have HNV := Lib.hid hnbv
            have HMV := Lib.hid hmbv
            clear hdl hcb hnbv hmbv
            go_wp2_with fail
            go_loopw [96] (fun vi wr => ∃ (j p : Nat), j ≤ 4 ∧ vi = .int .i64 j ∧ Hid (∀ k, k < j → d.getD k 0 = need.getD k 0 - mis.getD k 0) ∧ wr = wA.drewN p) (fun vi _ => 4 - (intOf vi).toNat)
            case atStart => exact ⟨0, 0, by omega, rfl, Lib.hid (fun k h => absurd h (by omega)), rfl⟩
            case round =>
              obtain ⟨j, p, hj, rfl, HE, rfl⟩ := hrel
              have HBJ := Lib.hid (below_drewN HBL.out p)
              have HRCJ := Lib.hid (own_drewN HRC.out p)
              have HRWJ := Lib.hid (own_drewN HRW.out p)
              obtain ⟨wJ, hwJ⟩ : ∃ wJ, wA.drewN p = wJ := ⟨_, rfl⟩
              by_cases hj4 : j < 4
              · obtain ⟨bn, on, rfl, hbn, hcln⟩ := HCN.out (by have := HN4.out; omega)
                have hnx : (ints need)[j]? = some (.int .i64 (need.getD j 0)) := by
                  have : need[j]? = some (need.getD j 0) := by rw [List.getD_eq_getElem?_getD, List.getElem?_eq_getElem (show j < need.length by have := HN4.out; omega)]; rfl
                  exact ints_get this
                have cn0 := cell_at hcln (bel_then HB3.out HBJ.out) hbn hnx
                have cm0 := (HBJ.out.cell (p := ⟨gm, j, none⟩) hgm).trans (own_cell HOM.out hj4)
                have cc0 := own_cell HRCJ.out hj4
                have hc12 := HCB.out j hj4
                have hn6 := HNV.out j hj4
                have hm6' := HMV.out j hj4
                obtain ⟨cv, hcv⟩ : ∃ cv, d.getD j 0 = cv := ⟨_, rfl⟩
                obtain ⟨nv, hnv⟩ : ∃ nv, need.getD j 0 = nv := ⟨_, rfl⟩
                obtain ⟨mv, hmv⟩ : ∃ mv, mis.getD j 0 = mv := ⟨_, rfl⟩
                rw [hcv] at cc0 hc12
                rw [hnv] at cn0 hn6
                rw [hmv] at cm0 hm6'
                have HCV := Lib.hid hcv
                have HNVV := Lib.hid hnv
                have HMVV := Lib.hid hmv
                have j0 : (0 : Int) ≤ (j : Int) := by omega
                have j1 : (j : Int) < 4 := by omega
                have j2 : (j : Int) < (need.length : Int) := by have := HN4.out; omega
                have s4 : IntKind.i64.wrap (nv - mv) = nv - mv := IntWalk.i64_in _ (by omega)
                clear hcln hnx hcv hnv hmv
                by_cases heq : cv = nv - mv
                · have hb : (cv != nv - mv) = false := by rw [heq]; simp
                  have HE2 : Hid (∀ k, k < j + 1 → d.getD k 0 = need.getD k 0 - mis.getD k 0) := Lib.hid (fun k hk => by
                    rcases Nat.lt_or_ge k j with h | h
                    · exact HE.out k h
                    · obtain rfl : k = j := by omega
                      rw [HCV.out, HNVV.out, HMVV.out]; exact heq)
                  clear heq
                  rw [hwJ] at cc0 cn0 cm0 ⊢
                  go_wp2_with fail
                  go_quiet (fail)
                  go_wp2
                  refine ⟨⟨j + 1, p + nq, by omega, by go_num, HE2, ?_⟩, by simp [intOf]; omega⟩
                  rw [← hwJ, World.drewN_drewN]
                · have hb : (cv != nv - mv) = true := by simp [heq]
                  have HNO : Hid (bestS ev f L need mis q = false) := Lib.hid (best_noK hj4 (by rw [HD.out, HCV.out, HNVV.out, HMVV.out]; exact heq))
                  clear heq
                  rw [hwJ] at cc0 cn0 cm0 ⊢
                  go_wp2_with fail
                  go_quiet (fail)
                  go_wp2
                  go_ret2
                  unfold BestIs
                  rw [HV.out, HNO.out]
                  refine ⟨rfl, below_drewN ?_ _⟩
                  rw [← hwJ]
                  exact bel_then HB3.out HBJ.out
              · obtain rfl : j = 4 := by omega
                have hd4 := sum4 HDL.out
                have c0 := own_cell HRCJ.out (show 0 < 4 by omega)
                have c1 := own_cell HRCJ.out (show 1 < 4 by omega)
                have c2 := own_cell HRCJ.out (show 2 < 4 by omega)
                have c3 := own_cell HRCJ.out (show 3 < 4 by omega)
                have r0 := HCB.out 0 (by omega)
                have r1 := HCB.out 1 (by omega)
                have r2 := HCB.out 2 (by omega)
                have r3 := HCB.out 3 (by omega)
                obtain ⟨a0, ha0⟩ : ∃ a, d.getD 0 0 = a := ⟨_, rfl⟩
                obtain ⟨a1, ha1⟩ : ∃ a, d.getD 1 0 = a := ⟨_, rfl⟩
                obtain ⟨a2, ha2⟩ : ∃ a, d.getD 2 0 = a := ⟨_, rfl⟩
                obtain ⟨a3, ha3⟩ : ∃ a, d.getD 3 0 = a := ⟨_, rfl⟩
                rw [ha0] at c0 r0 hd4
                rw [ha1] at c1 r1 hd4
                rw [ha2] at c2 r2 hd4
                rw [ha3] at c3 r3 hd4
                have s1 : IntKind.i64.wrap (a0 + a1) = a0 + a1 := IntWalk.i64_in _ (by omega)
                have s2 : IntKind.i64.wrap (a0 + a1 + a2) = a0 + a1 + a2 := IntWalk.i64_in _ (by omega)
                have s3 : IntKind.i64.wrap (a0 + a1 + a2 + a3) = a0 + a1 + a2 + a3 := IntWalk.i64_in _ (by omega)
                have HSUM := Lib.hid hd4
                clear ha0 ha1 ha2 ha3 hd4
                by_cases hsum : a0 + a1 + a2 + a3 = (q.length : Int)
                · have hb : (a0 + a1 + a2 + a3 != (q.length : Int)) = false := by rw [hsum]; simp
                  have HSS : Hid (((cntL f (hasL f q L)).sum == (q.length : Int)) = true) := Lib.hid (by rw [HD.out, HSUM.out]; exact beq_iff_eq.2 hsum)
                  clear hsum
                  rw [hwJ] at c0 c1 c2 c3 ⊢
                  go_wp2_with fail
                  go_quiet (fail)
                  clear c0 c1 c2 c3 s1 s2 s3 hb
                  rw [← hwJ, World.drewN_drewN]
                  have HBJ := Lib.hid (below_drewN HBL.out (p + nq))
                  have HRWJ := Lib.hid (own_drewN HRW.out (p + nq))
                  clear hwJ
                  generalize wA.drewN (p + nq) = wK at HBJ HRWJ ⊢
                  go_wp2_with fail
                  go_loopw [133] (fun vi wr => ∃ (k p : Nat), k ≤ L.length ∧ vi = .int .i64 k ∧ Hid (((L.take k).all fun i => hasN q (nmI f i) || !decide (rdyKey ev f i < t.getD (kdOf f i) 0)) = true) ∧ wr = wK.drewN p) (fun vi _ => L.length - (intOf vi).toNat)
                  case atStart => exact ⟨0, 0, by omega, rfl, Lib.hid rfl, rfl⟩
                  case round =>
                    obtain ⟨k, p2, hk2, rfl, HAL, rfl⟩ := hrel
                    have HBP := Lib.hid (below_drewN HBJ.out p2)
                    have HRWP := Lib.hid (own_drewN HRWJ.out p2)
                    obtain ⟨wP, hwP⟩ : ∃ wP, wK.drewN p2 = wP := ⟨_, rfl⟩
                    rw [hwP] at HBP HRWP
                    by_cases hlt2 : k < L.length
                    · obtain ⟨b5, off5, rfl, hb5, hcl5⟩ := HC5.out (by omega)
                      obtain ⟨y, hy⟩ : ∃ y, L[k]? = some y := ⟨_, List.getElem?_eq_getElem hlt2⟩
                      have HMEM := Lib.hid (List.mem_of_getElem? hy)
                      obtain ⟨i, a, rfl, ha⟩ := HLM.out y (List.mem_of_getElem? hy)
                      have hkey := rdyKey_at (ev := ev) ha
                      have hnm := nmI_at ha
                      have hkq := kdOf_at ha
                      have hgd := goodAp_true ((goodFl_true HGF.out).2 _ (List.mem_of_getElem? ha))
                      have htt := allT_get (ev := ev) ha
                      obtain ⟨nm, kd, nd, cr, sv⟩ := a
                      dsimp only at hkey hnm hkq hgd htt
                      obtain ⟨_, hkd0, hkd3, _, _, _⟩ := hgd
                      obtain ⟨kq, rfl⟩ := Int.eq_ofNat_of_zero_le hkd0
                      rw [Int.toNat_natCast] at hkq
                      have hif : i < f.length := (List.getElem?_eq_some_iff.1 ha).1
                      obtain ⟨b, off, rfl, hbl, hcell⟩ := HCELL.out (by omega)
                      obtain ⟨d0, d1, _, _, _⟩ := ap_at hcell (bel_then HB3.out HBP.out) hbl ha
                      dsimp only at d0 d1
                      obtain ⟨b6, off6, rfl, hb6, hcl6⟩ := HC6.out (by omega)
                      obtain ⟨tm, htm⟩ : ∃ tm, ev.getD nd.toNat 0 = tm := ⟨_, rfl⟩
                      rw [htm] at htt hkey
                      have co := cell_at hcl5 HBP.out hb5 (ints_get hy)
                      have ct := cell_at hcl6 HBP.out hb6 (ints_get htt)
                      have i0 : (0 : Int) ≤ (i : Int) := by omega
                      have i1 : (i : Int) < (f.length : Int) := by omega
                      have q0 : (0 : Int) ≤ (kq : Int) := by omega
                      have q4 : (kq : Int) < 4 := by omega
                      have hq4 : kq < 4 := by omega
                      have cw := own_cell HRWP.out hq4
                      obtain ⟨wv, hwvd⟩ : ∃ wv, t.getD kq 0 = wv := ⟨_, rfl⟩
                      rw [hwvd] at cw
                      have HSN : Hid (((L.take (k + 1)).all fun i => hasN q (nmI f i) || !decide (rdyKey ev f i < t.getD (kdOf f i) 0)) = (hasN q nm || !decide (tm < wv))) := Lib.hid (by
                        rw [take_succ_of hy, List.all_append, HAL.out]
                        simp only [List.all_cons, List.all_nil, Bool.true_and, Bool.and_true]
                        rw [hnm, hkey, hkq, hwvd])
                      have HNO : Hid ((hasN q nm || !decide (tm < wv)) = false → bestS ev f L need mis q = false) := Lib.hid (fun h => best_noR HMEM.out (by rw [HT.out, hnm, hkey, hkq, hwvd]; exact h))
                      clear hcl5 hy ha hcell hcl6 htt hkey hnm hkq hwvd hkd3 htm
                      by_cases hh : hasN q nm = true
                      · have HHH := Lib.hid hh
                        clear hh
                        rw [hwP]
                        go_wp2_with fail
                        go_quiet ((go_at_call 81; exact Calls.quiet_of_same ((dsHas_c _ q nm _ (rd_below HQ.out (below_drewN (bel_then HB3.out HBP.out) _))).mono fun _ _ h => ⟨h.1.trans (by rw [HHH.out]), h.2.symm⟩)))
                        go_wp2
                        refine ⟨⟨_, _, _, _, _, _, _, _, _, _, _, _, _, _, _, _, _, _, _, _, _, _, _, _, _, _, _, _, _, _, _, ?_, rfl⟩, by simp [intOf]; omega⟩
                        refine ⟨k + 1, p2 + nq, by omega, by go_num, Lib.hid (by rw [HSN.out, HHH.out]; rfl), ?_⟩
                        rw [← hwP, World.drewN_drewN]
                      · have HHH : Hid (hasN q nm = false) := Lib.hid (by simpa using hh)
                        clear hh
                        by_cases hlw : tm < wv
                        · have HN2 := Lib.hid (HNO.out (by rw [HHH.out, decide_eq_true hlw]; rfl))
                          rw [hwP]
                          go_wp2_with fail
                          go_quiet ((go_at_call 81; exact Calls.quiet_of_same ((dsHas_c _ q nm _ (rd_below HQ.out (below_drewN (bel_then HB3.out HBP.out) _))).mono fun _ _ h => ⟨h.1.trans (by rw [HHH.out]), h.2.symm⟩)))
                          go_wp2
                          go_ret2
                          unfold BestIs
                          rw [HV.out, HN2.out]
                          exact ⟨rfl, below_drewN (bel_then HB3.out HBP.out) _⟩
                        · have hlw2 : wv ≤ tm := by omega
                          have HY2 : Hid ((hasN q nm || !decide (tm < wv)) = true) := Lib.hid (by rw [decide_eq_false hlw]; simp)
                          clear hlw
                          rw [hwP]
                          go_wp2_with fail
                          go_quiet ((go_at_call 81; exact Calls.quiet_of_same ((dsHas_c _ q nm _ (rd_below HQ.out (below_drewN (bel_then HB3.out HBP.out) _))).mono fun _ _ h => ⟨h.1.trans (by rw [HHH.out]), h.2.symm⟩)))
                          go_wp2
                          refine ⟨⟨_, _, _, _, _, _, _, _, _, _, _, _, _, _, _, _, _, _, _, _, _, _, _, _, _, _, _, _, _, _, _, ?_, rfl⟩, by simp [intOf]; omega⟩
                          refine ⟨k + 1, p2 + nq, by omega, by go_num, Lib.hid (by rw [HSN.out]; exact HY2.out), ?_⟩
                          rw [← hwP, World.drewN_drewN]
                    · obtain rfl : k = L.length := by omega
                      have hal := HAL.out
                      rw [List.take_length] at hal
                      have HY := Lib.hid (best_all (ev := ev) HNAM.out (fun k hk => by rw [HD.out]; exact HE.out k hk) HSS.out (by rw [HT.out]; exact hal))
                      clear hal
                      rw [hwP]
                      go_wp2
                      go_ret2
                      unfold BestIs
                      rw [HV.out, HY.out]
                      exact ⟨rfl, bel_then HB3.out HBP.out⟩
                · have hb : (a0 + a1 + a2 + a3 != (q.length : Int)) = true := by simp [hsum]
                  have HNO : Hid (bestS ev f L need mis q = false) := Lib.hid (best_noS (by rw [HD.out, HSUM.out]; exact beq_false_of_ne hsum))
                  clear hsum
                  rw [hwJ] at c0 c1 c2 c3 ⊢
                  go_wp2_with fail
                  go_quiet (fail)
                  go_wp2
                  go_ret2
                  unfold BestIs
                  rw [HV.out, HNO.out]
                  refine ⟨rfl, below_drewN ?_ _⟩
                  rw [← hwJ]
                  exact bel_then HB3.out HBJ.out
      · have hnam : namesB q = false := by simpa using hnam
        have HNO := Lib.hid (best_noN (ev := ev) (f := f) (R := L) (need := need) (mis := mis) hnam)
        rw [hnam]
        go_wp2
        go_ret2
        unfold BestIs
        rw [HV.out, HNO.out]
        exact ⟨rfl, HB3.out⟩
    · have hne : needB need = false := by simpa using hne
      have HV := Lib.hid (best_no2 (n := N) (l := l) (f := f) (x := src) (q := q) hne)
      rw [hne]
      go_wp2
      go_ret2
      unfold BestIs
      rw [HV.out]
      exact ⟨rfl, HB1.out⟩
  · have hg : askD n l f x = false := by simpa using hg
    have HV := Lib.hid (best_no1 (need := need) (q := q) hg)
    rw [hg]
    go_wp2
    go_ret2
    unfold BestIs
    rw [HV.out]
    exact ⟨rfl, HB1.out⟩
end Go.Proofs.Ytcpchdbhpcebeaa

namespace Go.Proofs.Ytcpchdbhpcebeaa
open Go.RowKit

theorem taken_snoc {f : List Ap} {q : List ByteArray} {k : Nat} {nm : ByteArray} (h : q[k]? = some nm) : takenL f (q.take (k + 1)) = takenL f (q.take k) ++ [findA nm f] := by unfold takenL; rw [take_succ_of h, List.map_append]; rfl
theorem okTk_len {f : List Ap} {R : List Int} {q : List ByteArray} {k : Nat} (hR : ∀ y ∈ R, ∃ (i : Nat) (a : Ap), y = (i : Int) ∧ f[i]? = some a) (hk : k ≤ q.length) (h : (List.range k).all (okTk f R q) = true) : k ≤ R.length := by
  have hname : ∀ nm, findA nm f ∈ R → nmI f (findA nm f) = nm := fun nm h => by
    obtain ⟨i, a, e, ha⟩ := hR _ h
    obtain ⟨b, hb, hbp⟩ := idxG_get e
    rw [e, nmI_at hb]
    exact of_decide_eq_true hbp
  have hok : ∀ j, j < k → okNm q j = true ∧ ∀ nm, q[j]? = some nm → findA nm f ∈ R := fun j hj => by
    have h1 := List.all_eq_true.1 h j (List.mem_range.2 hj)
    unfold okTk at h1
    rw [Bool.and_eq_true] at h1
    refine ⟨h1.1, fun nm hnm => ?_⟩
    have h2 := h1.2
    rw [hnm] at h2
    exact of_decide_eq_true h2
  have hrise : ∀ j a b, (q.take k)[j]? = some a → (q.take k)[j + 1]? = some b → Op.bytesLess a.toList b.toList = true := fun j a b ha hb => by
    have hj : j + 1 < k := by have := (List.getElem?_eq_some_iff.1 hb).1; rw [List.length_take] at this; omega
    rw [List.getElem?_take_of_lt (by omega)] at ha
    rw [List.getElem?_take_of_lt hj] at hb
    have := (hok (j + 1) hj).1
    rw [okNm_next hb ha] at this
    unfold geS at this
    simpa using this
  have hnd : (q.take k).Nodup := nodup_idx fun _ _ _ hi hj => rise_inj hrise hi hj
  have hin : ∀ nm ∈ q.take k, findA nm f ∈ R := fun nm hm => by
    obtain ⟨j, hj, e⟩ := List.getElem_of_mem hm
    have hj' : j < k := by rw [List.length_take] at hj; omega
    exact (hok j hj').2 nm (by rw [← e, List.getElem_take]; exact List.getElem?_eq_getElem _)
  have h1 := nodup_len _ _ (nodup_map_of (fun nm => findA nm f) _ hnd (fun x hx y hy e => by have e' : findA x f = findA y f := e; rw [← hname x (hin x hx), ← hname y (hin y hy), e'])) (fun z hz => by
    obtain ⟨nm, hm, rfl⟩ := List.mem_map.1 hz
    exact hin nm hm)
  rw [List.length_map, List.length_take] at h1
  omega
theorem bestI_noT {ev : List Int} {f : List Ap} {R need mis : List Int} {q : List ByteArray} {k : Nat} (hk : k < q.length) (h : okTk f R q k = false) : bestI ev f R need mis q = false := by
  unfold bestI
  have : (List.range q.length).all (okTk f R q) = false := List.all_eq_false.2 ⟨k, List.mem_range.2 hk, by rw [h]; simp⟩
  rw [this]; rfl
theorem bestI_noM {ev : List Int} {f : List Ap} {R need mis : List Int} {q : List ByteArray} (h : decide (missL f (takenL f q) need = mis) = false) : bestI ev f R need mis q = false := by
  unfold bestI; rw [h]; simp
theorem bestI_noR {ev : List Int} {f : List Ap} {R need mis : List Int} {q : List ByteArray} {i : Int} (hi : i ∈ R) (h : (decide (i ∈ takenL f q) || !decide (rdyKey ev f i < (wstL ev f (takenL f q)).getD (kdOf f i) 0)) = false) : bestI ev f R need mis q = false := by
  unfold bestI
  have : (R.all fun i => decide (i ∈ takenL f q) || !decide (rdyKey ev f i < (wstL ev f (takenL f q)).getD (kdOf f i) 0)) = false := List.all_eq_false.2 ⟨i, hi, by rw [h]; simp⟩
  rw [this]; simp
theorem bestI_all {ev : List Int} {f : List Ap} {R need mis : List Int} {q : List ByteArray} (h1 : (List.range q.length).all (okTk f R q) = true) (h2 : decide (missL f (takenL f q) need = mis) = true) (h3 : (R.all fun i => decide (i ∈ takenL f q) || !decide (rdyKey ev f i < (wstL ev f (takenL f q)).getD (kdOf f i) 0)) = true) : bestI ev f R need mis q = true := by
  unfold bestI; rw [h1, h2, h3]; rfl
theorem taken_mem {f : List Ap} {R : List Int} {q : List ByteArray} (h : (List.range q.length).all (okTk f R q) = true) : ∀ y ∈ takenL f q, y ∈ R := fun y hy => by
  obtain ⟨nm, hm, rfl⟩ := List.mem_map.1 hy
  obtain ⟨j, hj, e⟩ := List.getElem_of_mem hm
  have h1 := List.all_eq_true.1 h j (List.mem_range.2 hj)
  unfold okTk at h1
  rw [Bool.and_eq_true, List.getElem?_eq_getElem hj, e] at h1
  exact of_decide_eq_true h1.2

set_option maxRecDepth 100000 in
set_option maxHeartbeats 8000000 in
theorem bestI_c (N : Nat) (s : Value) (l : List St) (v : Value) (f : List Ap) (src B : Nat) (vn : Value) (need : List Int) (vq : Value) (q : List ByteArray) (w : World) (hg : goodTown N l = true) (hfl : goodFl f = true) (hnd : ∀ a ∈ f, 0 ≤ a.nd ∧ a.nd ≤ (N : Int) - 1) (hs : src < N) (hne : needB need = true)
    (t0 : w.cell? ⟨B, 0, none⟩ = some (.int .i64 N)) (t1 : w.cell? ⟨B, 1, none⟩ = some s) (hr : Rd w s l.length (l.flatMap St.cells)) (hf : Rd w v f.length (f.flatMap Ap.cells)) (hvn : RdI w vn need) (hq : RdS w vq q) (ev L mis : List Int) (hev : distT N (arcs l) src = ev) (hL : readyL ev f = L) (hmis : (pickL f L need).2 = mis) :
    Calls Try.prog 82 #[.pointer (some ⟨B, 0, none⟩), v, .int .i64 src, vn, vq] w fun e w' => e = .returned (.bool (bestI ev f L need mis q)) ∧ Below w.heap.size w w' := by
  have hB : B < w.heap.size := World.block_lt_of_cell? w _ t0
  have hf12 := (goodFl_true hfl).1
  have HR := Lib.hid hr
  have HF := Lib.hid hf
  have HN := Lib.hid hvn
  have HQ := Lib.hid hq
  have HGT := Lib.hid hg
  have HGF := Lib.hid hfl
  have HND := Lib.hid hnd
  have HNE := Lib.hid hne
  have HEV := Lib.hid hev
  have HLL := Lib.hid hL
  have HMIS := Lib.hid hmis
  have T0 := Lib.hid t0
  have T1 := Lib.hid t1
  have HND2 : Hid (∀ a ∈ f, 0 ≤ a.nd ∧ a.nd ≤ (ev.length : Int) - 1) := Lib.hid (by rw [← hev, dist_len]; exact hnd)
  obtain ⟨i0', hi, hz0, hz1, hz2⟩ := info_parts Try.infoInt
  obtain ⟨A, c, rfl, hc, hm, hcell0⟩ := hf
  rw [maxLen_eq] at hm
  have HCELL := Lib.hid hcell0
  obtain ⟨AQ, cq, rfl, hcq, hmq, hcellq⟩ := hq
  rw [maxLen_eq] at hmq
  have HCQ := Lib.hid hcellq
  obtain ⟨hm5, hl5⟩ := readyTimes_mem (ev := ev) hfl
  rw [hL] at hm5 hl5
  have HLM := Lib.hid hm5
  clear hr hcell0 hcellq hvn hg hfl hnd hne hev hL hmis t0 t1 hm5
  go_enter Try.func82, Try.ntmps82
  go_wp2_with fail
  refine (timesI_c N s l B src _ HGT.out hs T0.out T1.out HR.out).mono ?_
  rintro e w3 ⟨v6, rfl, ho6, hb2⟩
  rw [HEV.out] at ho6
  have f0 := (hb2.cell (p := ⟨B, 0, none⟩) hB).trans T0.out
  have f1 := (hb2.cell (p := ⟨B, 1, none⟩) hB).trans T1.out
  have HB2 := Lib.hid hb2
  have HO6 := Lib.hid ho6
  have F0 := Lib.hid f0
  have F1 := Lib.hid f1
  clear hb2 ho6 f0 f1
  go_wp2_with fail
  refine (readyOrder_c N s l _ f src B _ HGT.out HGF.out HND.out hs F0.out F1.out (rd_below HR.out HB2.out) (rd_below HF.out HB2.out)).mono ?_
  rintro e w4 ⟨v5, rfl, ho5, hb3⟩
  rw [HEV.out, HLL.out] at ho5
  have HB3 := Lib.hid (bel_then HB2.out hb3)
  have hs4 := hb3.size
  have hs24 := HB2.out.size
  have F0 := Lib.hid ((hb3.cell (p := ⟨B, 0, none⟩) (by show B < _; omega)).trans F0.out)
  have F1 := Lib.hid ((hb3.cell (p := ⟨B, 1, none⟩) (by show B < _; omega)).trans F1.out)
  have hu5 := rdi_own (own_below HO6.out hb3)
  have HLI := Lib.hid (rdi_own ho5)
  obtain ⟨A5, c5, rfl, hc5, hm5', hcell5⟩ := rdi_own ho5
  rw [maxLen_eq] at hm5'
  have HC5 := Lib.hid hcell5
  obtain ⟨A6, c6, rfl, hc6, hm6, hcell6⟩ := hu5
  rw [maxLen_eq] at hm6
  have HC6 := Lib.hid hcell6
  clear hb3 hcell5 hcell6 ho5
  go_wp2_with fail
  generalize hW : World.alloc w4 _ = wB
  have hrow2 : wB.ownsRow w4.heap.size 3 1 (.slice (some ⟨w4.heap.size, 0, none⟩) 4 4) 4 (ints [-1, -1, -1, -1]) := by subst hW; exact heap_own (heap_alloc_new w4 _) rfl (Nat.le_refl _) (by rw [maxLen_eq]; omega)
  have hbB : Below w4.heap.size w4 wB := by subst hW; exact bel_al (Below.refl _ _) _
  have hgwB : w4.heap.size < wB.heap.size := by subst hW; simp
  have HW0 := Lib.hid hrow2
  have HBB := Lib.hid hbB
  clear hW hrow2 hbB
  go_loopw [13, 30] (fun vt vi wr => ∃ (k : Nat) (T t : List Int), k ≤ q.length ∧ T.length = k ∧ wB.heap.size ≤ wr.heap.size ∧ vi = .int .i64 k ∧ Hid (takenL f (q.take k) = T) ∧ Hid (wstL ev f T = t) ∧ Hid ((List.range k).all (okTk f L q) = true) ∧ Hid (wr.ownsRow wB.heap.size 3 1 vt T.length (ints T)) ∧ Hid (wr.ownsRow w4.heap.size 3 1 (.slice (some ⟨w4.heap.size, 0, none⟩) 4 4) 4 (ints t)) ∧ Hid (Below w4.heap.size w4 wr)) (fun _ vi _ => q.length - (intOf vi).toNat)
  case atStart => exact ⟨0, [], [-1, -1, -1, -1], Nat.zero_le _, rfl, Nat.le_refl _, rfl, Lib.hid rfl, Lib.hid rfl, Lib.hid rfl, Lib.hid (World.ownsRow_nil _ _ _ _), HW0, HBB⟩
  case round =>
    obtain ⟨k, T, t, hk, hTk, hsw, rfl, HT, HWT, HOKA, HOW, HRW, HBL⟩ := hrel
    have HTK := Lib.hid hTk
    obtain ⟨wA, rfl⟩ : ∃ wA : World, wA = wr := ⟨_, rfl⟩
    have hsA := HBL.out.size
    have hTk12 : T.length ≤ 12 := by have := okTk_len HLM.out hk HOKA.out; omega
    clear hTk
    by_cases hlt : k < q.length
    · obtain ⟨bq, offq, rfl, hbq, hclq⟩ := HCQ.out (by omega)
      obtain ⟨nm, hy⟩ : ∃ nm, q[k]? = some nm := ⟨_, List.getElem?_eq_getElem hlt⟩
      have c0 := cell_at hclq (bel_then HB3.out HBL.out) hbq (strs_get hy)
      have HY := Lib.hid hy
      clear hy
      go_wp2_with fail
      refine (findI_c _ f nm _ (rd_below HF.out (bel_then HB3.out HBL.out))).mono ?_; rintro e w5 ⟨rfl, hb5'⟩
      have HB5 := Lib.hid (bel_then HBL.out hb5')
      have HOW5 := Lib.hid (own_below HOW.out hb5')
      have HRW5 := Lib.hid (own_below HRW.out hb5')
      have HLI5 := Lib.hid (rd_below HLI.out HB5.out)
      have hs5 := hb5'.size
      clear hb5' c0
      rcases k with _ | kp
      · have HOK := Lib.hid (okNm_first HY.out)
        have hd0 : decide ((0 : Int) < 0) = false := by decide
        clear hclq
        obtain ⟨i, hi'⟩ : ∃ i : Int, findA nm f = i := ⟨_, rfl⟩
        rw [hi']
        by_cases hin : i ∈ L
        · have HOKT : Hid (okTk f L q 0 = true) := Lib.hid (by unfold okTk; rw [HOK.out, HY.out]; dsimp only; rw [hi', decide_eq_true hin]; rfl)
          obtain ⟨i, a, rfl, ha⟩ := HLM.out i hin
          have hnn := HND2.out _ (List.mem_of_getElem? ha)
          have hkey := rdyKey_at (ev := ev) ha
          have hkq := kdOf_at ha
          have hgd := goodAp_true ((goodFl_true HGF.out).2 _ (List.mem_of_getElem? ha))
          obtain ⟨anm, kd, nd, cr, sv⟩ := a
          dsimp only at hnn hkey hkq hgd
          obtain ⟨_, hkd0, hkd3, _, _, _⟩ := hgd
          obtain ⟨kq, rfl⟩ := Int.eq_ofNat_of_zero_le hkd0
          obtain ⟨nd0, nd1⟩ := hnn
          obtain ⟨p, rfl⟩ := Int.eq_ofNat_of_zero_le nd0
          rw [Int.toNat_natCast] at hkq hkey
          have hif : i < f.length := (List.getElem?_eq_some_iff.1 ha).1
          obtain ⟨b, off, rfl, hbl, hcell⟩ := HCELL.out (by omega)
          obtain ⟨_, d1, d2, _, _⟩ := ap_at hcell (bel_then HB3.out HB5.out) hbl ha
          dsimp only at d1 d2
          obtain ⟨b6, off6, rfl, hb6, hcl6⟩ := HC6.out (by omega)
          obtain ⟨tm, htm⟩ : ∃ tm, ev.getD p 0 = tm := ⟨_, rfl⟩
          have htt : ev[p]? = some tm := by rw [← htm, List.getD_eq_getElem?_getD, List.getElem?_eq_getElem (show p < ev.length by omega)]; rfl
          rw [htm] at hkey
          have ct := cell_at hcl6 HB5.out hb6 (ints_get htt)
          have i0 : (0 : Int) ≤ (i : Int) := by omega
          have i1 : (i : Int) < (f.length : Int) := by omega
          have p0 : (0 : Int) ≤ (p : Int) := by omega
          have p1 : (p : Int) < (ev.length : Int) := by omega
          have q0 : (0 : Int) ≤ (kq : Int) := by omega
          have q4 : (kq : Int) < 4 := by omega
          have hq4 : kq < 4 := by omega
          obtain ⟨wv, hwvd⟩ : ∃ wv, t.getD kq 0 = wv := ⟨_, rfl⟩
          have HOKA2 := Lib.hid (all_rng_succ HOKA.out HOKT.out)
          have hk12 : 0 + 1 ≤ 12 := Nat.le_trans (okTk_len HLM.out (show 0 + 1 ≤ q.length by omega) HOKA2.out) (by omega)
          have HT2 : Hid (takenL f (q.take (0 + 1)) = T ++ [(i : Int)]) := Lib.hid (by rw [taken_snoc HY.out, HT.out, hi'])
          have HW2 : Hid (wstL ev f (T ++ [(i : Int)]) = t.set kq (max wv tm)) := Lib.hid (by rw [wst_snoc, HWT.out]; unfold wstStep; rw [hkq, hwvd, hkey])
          have HWV := Lib.hid hwvd
          have D1 := Lib.hid d1
          have D2 := Lib.hid d2
          have CT := Lib.hid ct
          clear hcl6 ha hcell htt hkey hkq hwvd hkd3 htm hi' nd1 d1 d2 ct
          go_wp2_with (first | (go_at_call 104; refine (contains_c _ _ L _ HLI5.out).mono ?_; rw [decide_eq_true hin]; rintro e w6 ⟨rfl, rfl⟩) | (at_builtin; refine wpList_app_rd _ rfl _ _ 56 rfl wB.heap.size 3 i0' (.int .i64 0) 1 8 Try.underlying56 hi hz0 hz1 hz2 rfl (by decide) _ _ _ rfl (HOW5.out.alloc _) _ 1 [.int .i64 i] rfl (rd_new _ rfl (Nat.le_refl _) (by rw [maxLen_eq]; omega)) rfl (ints_one [(i : Int)]) (by rw [maxLen_eq]; omega) (by omega) (by simp; omega) ?_; intro v7 w7 hown7 hgrow7 _))
          have hlo7 := HOW5.out.lt
          have hs7 := hgrow7.size
          rw [World.size_alloc] at hs7
          have hB7 : Below w4.heap.size w4 w7 := bel_grown (bel_al HB5.out _) hgrow7 (fun q' e => by have := (hlo7 q' e).1; omega)
          have hRW7 : w7.ownsRow w4.heap.size 3 1 (.slice (some ⟨w4.heap.size, 0, none⟩) 4 4) 4 (ints t) := kept3 (HRW5.out.alloc _) hgrow7 (fun p' p'' e e' => by have := (hlo7 p'' e').1; have h : w4.heap.size = p' := Option.some.inj e; omega)
          have hO7 : w7.ownsRow wB.heap.size 3 1 v7 (T ++ [(i : Int)]).length (ints (T ++ [(i : Int)])) := by rw [ints_append, List.length_append]; exact hown7
          have d1 := (hB7.cell (p := ⟨b, off + i * 5 + 1, none⟩) (Nat.lt_of_lt_of_le hbl HB3.out.size)).trans ((HB5.out.cell (p := ⟨b, off + i * 5 + 1, none⟩) (Nat.lt_of_lt_of_le hbl HB3.out.size)).symm.trans D1.out)
          have d2 := (hB7.cell (p := ⟨b, off + i * 5 + 2, none⟩) (Nat.lt_of_lt_of_le hbl HB3.out.size)).trans ((HB5.out.cell (p := ⟨b, off + i * 5 + 2, none⟩) (Nat.lt_of_lt_of_le hbl HB3.out.size)).symm.trans D2.out)
          have ct := (hB7.cell (p := ⟨b6, off6 + p, none⟩) hb6).trans ((HB5.out.cell (p := ⟨b6, off6 + p, none⟩) hb6).symm.trans CT.out)
          have cw := own_cell hRW7 hq4
          rw [HWV.out] at cw
          have fw := hRW7.frozenAt kq
          have HB7 := Lib.hid hB7
          have HRW7 := Lib.hid hRW7
          have HO7 := Lib.hid hO7
          have hlo8 := Lib.hid hO7.lt
          clear hB7 hRW7 hO7 hown7 hgrow7 hlo7 D1 D2 CT
          go_region
          all_goals
            go_wp2
            exact ⟨⟨0 + 1, T ++ [(i : Int)], _, by omega, (by rw [List.length_append, HTK.out]; rfl), by simp; omega, by go_num, HT2, HW2, HOKA2, Lib.hid (own_other (own_dr HO7.out) (by omega) _ _), Lib.hid (own_setI (own_dr HRW7.out) kq (max wv tm)), Lib.hid (Below.setCell (bel_dr HB7.out) (Nat.le_refl _) _)⟩, by simp [intOf]; omega⟩
        · have HNO : Hid (bestI ev f L need mis q = false) := Lib.hid (bestI_noT (k := 0) (by omega) (by unfold okTk; rw [HY.out]; dsimp only; rw [hi', decide_eq_false hin]; simp))
          go_wp2_with (go_at_call 104; refine (contains_c _ _ L _ HLI5.out).mono ?_; rw [decide_eq_false hin]; rintro e w6 ⟨rfl, rfl⟩)
          go_ret
          rw [HNO.out]
          exact ⟨rfl, bel_then HB3.out HB5.out⟩
      · have hlt' : kp < q.length := by omega
        obtain ⟨p9, hp9⟩ : ∃ p, q[kp]? = some p := ⟨_, List.getElem?_eq_getElem hlt'⟩
        have HOK0 := Lib.hid (okNm_next HY.out hp9)
        have d9 := cell_at hclq (bel_then HB3.out HB5.out) hbq (strs_get hp9)
        have y0 : (0 : Int) ≤ (kp : Int) := Int.natCast_nonneg _
        have y1 : (kp : Int) < (q.length : Int) := by omega
        have y2 : (0 : Int) < (kp : Int) + 1 := by omega
        have s9 : IntKind.i64.wrap (kp : Int) = (kp : Int) := by rw [IntKind.wrap_i64]; omega
        clear hclq hp9
        by_cases hbs : Op.bytesLess p9.toList nm.toList = true
        · have HOK : Hid (okNm q (kp + 1) = true) := Lib.hid (by rw [HOK0.out]; unfold geS; rw [hbs]; rfl)
          obtain ⟨i, hi'⟩ : ∃ i : Int, findA nm f = i := ⟨_, rfl⟩
          rw [hi']
          by_cases hin : i ∈ L
          · have HOKT : Hid (okTk f L q (kp + 1) = true) := Lib.hid (by unfold okTk; rw [HOK.out, HY.out]; dsimp only; rw [hi', decide_eq_true hin]; rfl)
            obtain ⟨i, a, rfl, ha⟩ := HLM.out i hin
            have hnn := HND2.out _ (List.mem_of_getElem? ha)
            have hkey := rdyKey_at (ev := ev) ha
            have hkq := kdOf_at ha
            have hgd := goodAp_true ((goodFl_true HGF.out).2 _ (List.mem_of_getElem? ha))
            obtain ⟨anm, kd, nd, cr, sv⟩ := a
            dsimp only at hnn hkey hkq hgd
            obtain ⟨_, hkd0, hkd3, _, _, _⟩ := hgd
            obtain ⟨kq, rfl⟩ := Int.eq_ofNat_of_zero_le hkd0
            obtain ⟨nd0, nd1⟩ := hnn
            obtain ⟨p, rfl⟩ := Int.eq_ofNat_of_zero_le nd0
            rw [Int.toNat_natCast] at hkq hkey
            have hif : i < f.length := (List.getElem?_eq_some_iff.1 ha).1
            obtain ⟨b, off, rfl, hbl, hcell⟩ := HCELL.out (by omega)
            obtain ⟨_, d1, d2, _, _⟩ := ap_at hcell (bel_then HB3.out HB5.out) hbl ha
            dsimp only at d1 d2
            obtain ⟨b6, off6, rfl, hb6, hcl6⟩ := HC6.out (by omega)
            obtain ⟨tm, htm⟩ : ∃ tm, ev.getD p 0 = tm := ⟨_, rfl⟩
            have htt : ev[p]? = some tm := by rw [← htm, List.getD_eq_getElem?_getD, List.getElem?_eq_getElem (show p < ev.length by omega)]; rfl
            rw [htm] at hkey
            have ct := cell_at hcl6 HB5.out hb6 (ints_get htt)
            have i0 : (0 : Int) ≤ (i : Int) := by omega
            have i1 : (i : Int) < (f.length : Int) := by omega
            have p0 : (0 : Int) ≤ (p : Int) := by omega
            have p1 : (p : Int) < (ev.length : Int) := by omega
            have q0 : (0 : Int) ≤ (kq : Int) := by omega
            have q4 : (kq : Int) < 4 := by omega
            have hq4 : kq < 4 := by omega
            obtain ⟨wv, hwvd⟩ : ∃ wv, t.getD kq 0 = wv := ⟨_, rfl⟩
            have HOKA2 := Lib.hid (all_rng_succ HOKA.out HOKT.out)
            have hk12 : (kp + 1) + 1 ≤ 12 := Nat.le_trans (okTk_len HLM.out (show (kp + 1) + 1 ≤ q.length by omega) HOKA2.out) (by omega)
            have HT2 : Hid (takenL f (q.take ((kp + 1) + 1)) = T ++ [(i : Int)]) := Lib.hid (by rw [taken_snoc HY.out, HT.out, hi'])
            have HW2 : Hid (wstL ev f (T ++ [(i : Int)]) = t.set kq (max wv tm)) := Lib.hid (by rw [wst_snoc, HWT.out]; unfold wstStep; rw [hkq, hwvd, hkey])
            have HWV := Lib.hid hwvd
            have D1 := Lib.hid d1
            have D2 := Lib.hid d2
            have CT := Lib.hid ct
            clear hcl6 ha hcell htt hkey hkq hwvd hkd3 htm hi' nd1 d1 d2 ct
            go_wp2_with (first | (go_at_call 104; refine (contains_c _ _ L _ HLI5.out).mono ?_; rw [decide_eq_true hin]; rintro e w6 ⟨rfl, rfl⟩) | (at_builtin; refine wpList_app_rd _ rfl _ _ 56 rfl wB.heap.size 3 i0' (.int .i64 0) 1 8 Try.underlying56 hi hz0 hz1 hz2 rfl (by decide) _ _ _ rfl (HOW5.out.alloc _) _ 1 [.int .i64 i] rfl (rd_new _ rfl (Nat.le_refl _) (by rw [maxLen_eq]; omega)) rfl (ints_one [(i : Int)]) (by rw [maxLen_eq]; omega) (by omega) (by simp; omega) ?_; intro v7 w7 hown7 hgrow7 _))
            have hlo7 := HOW5.out.lt
            have hs7 := hgrow7.size
            rw [World.size_alloc] at hs7
            have hB7 : Below w4.heap.size w4 w7 := bel_grown (bel_al HB5.out _) hgrow7 (fun q' e => by have := (hlo7 q' e).1; omega)
            have hRW7 : w7.ownsRow w4.heap.size 3 1 (.slice (some ⟨w4.heap.size, 0, none⟩) 4 4) 4 (ints t) := kept3 (HRW5.out.alloc _) hgrow7 (fun p' p'' e e' => by have := (hlo7 p'' e').1; have h : w4.heap.size = p' := Option.some.inj e; omega)
            have hO7 : w7.ownsRow wB.heap.size 3 1 v7 (T ++ [(i : Int)]).length (ints (T ++ [(i : Int)])) := by rw [ints_append, List.length_append]; exact hown7
            have d1 := (hB7.cell (p := ⟨b, off + i * 5 + 1, none⟩) (Nat.lt_of_lt_of_le hbl HB3.out.size)).trans ((HB5.out.cell (p := ⟨b, off + i * 5 + 1, none⟩) (Nat.lt_of_lt_of_le hbl HB3.out.size)).symm.trans D1.out)
            have d2 := (hB7.cell (p := ⟨b, off + i * 5 + 2, none⟩) (Nat.lt_of_lt_of_le hbl HB3.out.size)).trans ((HB5.out.cell (p := ⟨b, off + i * 5 + 2, none⟩) (Nat.lt_of_lt_of_le hbl HB3.out.size)).symm.trans D2.out)
            have ct := (hB7.cell (p := ⟨b6, off6 + p, none⟩) hb6).trans ((HB5.out.cell (p := ⟨b6, off6 + p, none⟩) hb6).symm.trans CT.out)
            have cw := own_cell hRW7 hq4
            rw [HWV.out] at cw
            have fw := hRW7.frozenAt kq
            have HB7 := Lib.hid hB7
            have HRW7 := Lib.hid hRW7
            have HO7 := Lib.hid hO7
            have hlo8 := Lib.hid hO7.lt
            clear hB7 hRW7 hO7 hown7 hgrow7 hlo7 D1 D2 CT
            go_region
            all_goals
              go_wp2
              exact ⟨⟨(kp + 1) + 1, T ++ [(i : Int)], _, by omega, (by rw [List.length_append, HTK.out]; rfl), by simp; omega, by go_num, HT2, HW2, HOKA2, Lib.hid (own_other (own_dr HO7.out) (by omega) _ _), Lib.hid (own_setI (own_dr HRW7.out) kq (max wv tm)), Lib.hid (Below.setCell (bel_dr HB7.out) (Nat.le_refl _) _)⟩, by simp [intOf]; omega⟩
          · have HNO : Hid (bestI ev f L need mis q = false) := Lib.hid (bestI_noT (k := (kp + 1)) (by omega) (by unfold okTk; rw [HY.out]; dsimp only; rw [hi', decide_eq_false hin]; simp))
            go_wp2_with (go_at_call 104; refine (contains_c _ _ L _ HLI5.out).mono ?_; rw [decide_eq_false hin]; rintro e w6 ⟨rfl, rfl⟩)
            go_ret
            rw [HNO.out]
            exact ⟨rfl, bel_then HB3.out HB5.out⟩
        · have hbs : Op.bytesLess p9.toList nm.toList = false := by simpa using hbs
          have HNO : Hid (bestI ev f L need mis q = false) := Lib.hid (bestI_noT hlt (by unfold okTk; rw [HOK0.out]; unfold geS; rw [hbs]; rfl))
          go_wp2
          go_ret
          rw [HNO.out]
          exact ⟨rfl, bel_then HB3.out HB5.out⟩
    · obtain rfl : k = q.length := by omega
      have ht := HT.out
      rw [List.take_length] at ht
      have HTT := Lib.hid ht
      have HTM : Hid (∀ y ∈ T, ∃ (i : Nat) (a : Ap), y = (i : Int) ∧ f[i]? = some a) := Lib.hid (fun y hy => HLM.out y (taken_mem HOKA.out y (by rw [ht]; exact hy)))
      clear ht
      go_wp2_with fail
      refine (missing_c _ f _ T _ need _ HGF.out HNE.out HTM.out hTk12 (rd_below HF.out (bel_then HB3.out HBL.out)) (rdi_own HOW.out) (rd_below HN.out (bel_then HB3.out HBL.out))).mono ?_
      rintro e w5 ⟨vm1, rfl, hom1, hb5⟩
      have HB5 := Lib.hid (bel_then HBL.out hb5)
      have HOW5 := Lib.hid (own_below HOW.out hb5)
      have HRW5 := Lib.hid (own_below HRW.out hb5)
      have HM1 := Lib.hid hom1
      have F05 := Lib.hid ((HB5.out.cell (p := ⟨B, 0, none⟩) (by show B < _; omega)).trans F0.out)
      have F15 := Lib.hid ((HB5.out.cell (p := ⟨B, 1, none⟩) (by show B < _; omega)).trans F1.out)
      clear hom1 hb5
      go_wp2_with fail
      refine (choose_c N s l _ f src B _ need _ HGT.out HGF.out HND.out hs HNE.out F05.out F15.out (rd_below HR.out (bel_then HB3.out HB5.out)) (rd_below HF.out (bel_then HB3.out HB5.out)) (rd_below HN.out (bel_then HB3.out HB5.out))).mono ?_
      rintro e w6 ⟨vc, rfl, hoc, hb6⟩
      rw [HEV.out, HLL.out] at hoc
      have HB6 := Lib.hid (bel_then HB5.out hb6)
      have HOW6 := Lib.hid (own_below HOW5.out hb6)
      have HRW6 := Lib.hid (own_below HRW5.out hb6)
      have HM16 := Lib.hid (own_below HM1.out hb6)
      have HCH := Lib.hid hoc
      obtain ⟨hpm, hpl⟩ := pick_mem f (fun y => ∃ (i : Nat) (a : Ap), y = (i : Int) ∧ f[i]? = some a) L need HLM.out
      have HPM := Lib.hid hpm
      have hpl12 : (pickL f L need).1.length ≤ 12 := by omega
      clear hoc hb6 hpm
      go_wp2_with fail
      refine (missing_c _ f _ (pickL f L need).1 _ need _ HGF.out HNE.out HPM.out hpl12 (rd_below HF.out (bel_then HB3.out HB6.out)) (rdi_own HCH.out) (rd_below HN.out (bel_then HB3.out HB6.out))).mono ?_
      rintro e w7 ⟨vm2, rfl, hom2, hb7⟩
      rw [pick_miss, HMIS.out] at hom2
      have HB7 := Lib.hid (bel_then HB6.out hb7)
      have HOW7 := Lib.hid (own_below HOW6.out hb7)
      have HRW7 := Lib.hid (own_below HRW6.out hb7)
      have HM17 := Lib.hid (own_below HM16.out hb7)
      have HM2 := Lib.hid hom2
      clear hom2 hb7 hpl hpl12
      go_wp2_with fail
      refine (equal_c _ _ (missL f T need) mis _ (rdi_own HM17.out) (rdi_own HM2.out)).mono ?_
      rintro e w8 ⟨rfl, hb8⟩
      have HB8 := Lib.hid (bel_then HB7.out hb8)
      have HOW8 := Lib.hid (own_below HOW7.out hb8)
      have HRW8 := Lib.hid (own_below HRW7.out hb8)
      clear hb8
      by_cases hmm : decide (missL f T need = mis) = true
      · have HMM := Lib.hid hmm
        rw [hmm]
        clear hmm
        go_wp2_with fail
        go_loopw [100] (fun vi wr => ∃ (k p : Nat), k ≤ L.length ∧ vi = .int .i64 k ∧ Hid (((L.take k).all fun i => decide (i ∈ T) || !decide (rdyKey ev f i < t.getD (kdOf f i) 0)) = true) ∧ wr = w8.drewN p) (fun vi _ => L.length - (intOf vi).toNat)
        case atStart => exact ⟨0, 0, by omega, rfl, Lib.hid rfl, rfl⟩
        case round =>
          obtain ⟨k, p2, hk2, rfl, HAL, rfl⟩ := hrel
          have HBP := Lib.hid (below_drewN HB8.out p2)
          have HRWP := Lib.hid (own_drewN HRW8.out p2)
          have HTWP := Lib.hid (own_drewN HOW8.out p2)
          obtain ⟨wP, hwP⟩ : ∃ wP, w8.drewN p2 = wP := ⟨_, rfl⟩
          rw [hwP] at HBP HRWP HTWP
          by_cases hlt2 : k < L.length
          · obtain ⟨b5, off5, rfl, hb5, hcl5⟩ := HC5.out (by omega)
            obtain ⟨y, hy⟩ : ∃ y, L[k]? = some y := ⟨_, List.getElem?_eq_getElem hlt2⟩
            have HMEM := Lib.hid (List.mem_of_getElem? hy)
            obtain ⟨i, a, rfl, ha⟩ := HLM.out y (List.mem_of_getElem? hy)
            have hnn := HND2.out _ (List.mem_of_getElem? ha)
            have hkey := rdyKey_at (ev := ev) ha
            have hkq := kdOf_at ha
            have hgd := goodAp_true ((goodFl_true HGF.out).2 _ (List.mem_of_getElem? ha))
            obtain ⟨nm, kd, nd, cr, sv⟩ := a
            dsimp only at hnn hkey hkq hgd
            obtain ⟨_, hkd0, hkd3, _, _, _⟩ := hgd
            obtain ⟨kq, rfl⟩ := Int.eq_ofNat_of_zero_le hkd0
            obtain ⟨nd0, nd1⟩ := hnn
            obtain ⟨p, rfl⟩ := Int.eq_ofNat_of_zero_le nd0
            rw [Int.toNat_natCast] at hkq hkey
            have hif : i < f.length := (List.getElem?_eq_some_iff.1 ha).1
            obtain ⟨b, off, rfl, hbl, hcell⟩ := HCELL.out (by omega)
            obtain ⟨_, d1, d2, _, _⟩ := ap_at hcell (bel_then HB3.out HBP.out) hbl ha
            dsimp only at d1 d2
            obtain ⟨b6, off6, rfl, hb6, hcl6⟩ := HC6.out (by omega)
            obtain ⟨tm, htm⟩ : ∃ tm, ev.getD p 0 = tm := ⟨_, rfl⟩
            have htt : ev[p]? = some tm := by rw [← htm, List.getD_eq_getElem?_getD, List.getElem?_eq_getElem (show p < ev.length by omega)]; rfl
            rw [htm] at hkey
            have co := cell_at hcl5 HBP.out hb5 (ints_get hy)
            have ct := cell_at hcl6 HBP.out hb6 (ints_get htt)
            have i0 : (0 : Int) ≤ (i : Int) := by omega
            have i1 : (i : Int) < (f.length : Int) := by omega
            have p0 : (0 : Int) ≤ (p : Int) := by omega
            have p1 : (p : Int) < (ev.length : Int) := by omega
            have q0 : (0 : Int) ≤ (kq : Int) := by omega
            have q4 : (kq : Int) < 4 := by omega
            have hq4 : kq < 4 := by omega
            have cw := own_cell HRWP.out hq4
            obtain ⟨wv, hwvd⟩ : ∃ wv, t.getD kq 0 = wv := ⟨_, rfl⟩
            rw [hwvd] at cw
            have HSN : Hid (((L.take (k + 1)).all fun i => decide (i ∈ T) || !decide (rdyKey ev f i < t.getD (kdOf f i) 0)) = (decide ((i : Int) ∈ T) || !decide (tm < wv))) := Lib.hid (by
              rw [take_succ_of hy, List.all_append, HAL.out]
              simp only [List.all_cons, List.all_nil, Bool.true_and, Bool.and_true]
              rw [hkey, hkq, hwvd])
            have HNO : Hid ((decide ((i : Int) ∈ T) || !decide (tm < wv)) = false → bestI ev f L need mis q = false) := Lib.hid (fun h => bestI_noR HMEM.out (by rw [HTT.out, HWT.out, hkey, hkq, hwvd]; exact h))
            clear hcl5 hy ha hcell hcl6 htt hkey hkq hwvd hkd3 htm nd1
            by_cases hh : (i : Int) ∈ T
            · have HHH : Hid (decide ((i : Int) ∈ T) = true) := Lib.hid (decide_eq_true hh)
              clear hh
              rw [hwP]
              go_wp2_with fail
              go_quiet ((go_at_call 104; exact Calls.quiet_of_same ((contains_c _ _ T _ (rdi_own (own_drewN HTWP.out _))).mono fun _ _ h => ⟨h.1.trans (by rw [HHH.out]), h.2.symm⟩)))
              go_wp2
              refine ⟨⟨k + 1, p2 + nq, by omega, by go_num, Lib.hid (by rw [HSN.out, HHH.out]; rfl), ?_⟩, by simp [intOf]; omega⟩
              rw [← hwP, World.drewN_drewN]
            · have HHH : Hid (decide ((i : Int) ∈ T) = false) := Lib.hid (decide_eq_false hh)
              clear hh
              by_cases hlw : tm < wv
              · have HN2 := Lib.hid (HNO.out (by rw [HHH.out, decide_eq_true hlw]; rfl))
                rw [hwP]
                go_wp2_with fail
                go_quiet ((go_at_call 104; exact Calls.quiet_of_same ((contains_c _ _ T _ (rdi_own (own_drewN HTWP.out _))).mono fun _ _ h => ⟨h.1.trans (by rw [HHH.out]), h.2.symm⟩)))
                go_wp2
                go_ret
                rw [HN2.out]
                exact ⟨rfl, below_drewN (bel_then HB3.out HBP.out) _⟩
              · have hlw2 : wv ≤ tm := by omega
                have HY2 : Hid ((decide ((i : Int) ∈ T) || !decide (tm < wv)) = true) := Lib.hid (by rw [decide_eq_false hlw]; simp)
                clear hlw
                rw [hwP]
                go_wp2_with fail
                go_quiet ((go_at_call 104; exact Calls.quiet_of_same ((contains_c _ _ T _ (rdi_own (own_drewN HTWP.out _))).mono fun _ _ h => ⟨h.1.trans (by rw [HHH.out]), h.2.symm⟩)))
                go_wp2
                refine ⟨⟨k + 1, p2 + nq, by omega, by go_num, Lib.hid (by rw [HSN.out]; exact HY2.out), ?_⟩, by simp [intOf]; omega⟩
                rw [← hwP, World.drewN_drewN]
          · obtain rfl : k = L.length := by omega
            have hal := HAL.out
            rw [List.take_length] at hal
            have HY := Lib.hid (bestI_all (ev := ev) (mis := mis) HOKA.out (by rw [HTT.out]; exact HMM.out) (by rw [HTT.out, HWT.out]; exact hal))
            clear hal
            rw [hwP]
            go_wp2
            go_ret
            rw [HY.out]
            exact ⟨rfl, bel_then HB3.out HBP.out⟩
      · have hmm : decide (missL f T need = mis) = false := by simpa using hmm
        have HNO : Hid (bestI ev f L need mis q = false) := Lib.hid (bestI_noM (by rw [HTT.out]; exact hmm))
        rw [hmm]
        go_wp2
        go_ret
        rw [HNO.out]
        exact ⟨rfl, bel_then HB3.out HB8.out⟩

set_option maxRecDepth 100000 in
set_option maxHeartbeats 4000000 in
theorem isBestChoiceI_c (n : Int) (s : Value) (l : List St) (v : Value) (f : List Ap) (x : Int) (vn : Value) (need : List Int) (vq : Value) (q : List ByteArray) (w : World) (hr : Rd w s l.length (l.flatMap St.cells)) (hz : ∀ x ∈ f, x.nm.size ≤ 9223372036854775807) (hf : Rd w v f.length (f.flatMap Ap.cells)) (hvn : RdI w vn need) (hq : RdS w vq q) :
    Calls Try.prog 46 #[.agg #[.int .i64 n, s], v, .int .i64 x, vn, vq] w (BestIs n l f x need q w) := by
  have HR := Lib.hid hr
  have HF := Lib.hid hf
  have HZ := Lib.hid hz
  have HN := Lib.hid hvn
  have HQ := Lib.hid hq
  clear hr hz hf hvn hq
  go_enter Try.func46, Try.ntmps46
  go_wp2_with fail
  (generalize hw1 : World.alloc w _ = w1; have k0 : w1.cell? ⟨w.heap.size, 0, none⟩ = some (.int .i64 n) := (by subst hw1; simp [go_sem]); have k1 : w1.cell? ⟨w.heap.size, 1, none⟩ = some s := (by subst hw1; simp [go_sem]); have hb0 : Below w.heap.size w w1 := (by subst hw1; exact bel_al (Below.refl _ _) _); have hsz1 : w.heap.size < w1.heap.size := (by subst hw1; simp); clear hw1)
  have HB := Lib.hid hb0
  refine (dispatchFits_c n s l _ f w.heap.size _ k0 k1 (rd_below HR.out HB.out) HZ.out (rd_below HF.out HB.out)).mono ?_; rintro e w2 ⟨rfl, hb1⟩
  have e0 := (hb1.cell (p := ⟨w.heap.size, 0, none⟩) (by show w.heap.size < _; omega)).trans k0
  have e1 := (hb1.cell (p := ⟨w.heap.size, 1, none⟩) (by show w.heap.size < _; omega)).trans k1
  have hs1 := hb1.size
  have HB1 := Lib.hid (bel_then HB.out hb1)
  clear k0 k1 hb0 hb1
  by_cases hg : goodDs n l f = true
  · have HDS := Lib.hid hg
    rw [hg]
    obtain ⟨hgt, hgf, hnd⟩ := goodDs_true hg
    obtain ⟨hn1, hn2, _⟩ := goodTown_true hgt
    have HGT := Lib.hid hgt
    have HGF := Lib.hid hgf
    have HND := Lib.hid hnd
    clear hg hgt hgf hnd
    go_wp2_with fail
    refine (has_c n x _ _ hn1 hn2 e0).mono ?_; rintro e w3 ⟨rfl, rfl⟩
    by_cases hx : inB x 0 (n - 1) = true
    · have HASK : Hid (askD n l f x = true) := Lib.hid (by unfold askD; rw [HDS.out, hx]; rfl)
      rw [hx]
      obtain ⟨hx0, hx1⟩ := inB_true hx
      obtain ⟨N, rfl⟩ := Int.eq_ofNat_of_zero_le (show 0 ≤ n by omega)
      obtain ⟨src, rfl⟩ := Int.eq_ofNat_of_zero_le hx0
      have hs : src < N := by omega
      have E0 := Lib.hid e0
      have E1 := Lib.hid e1
      clear hx hx0 hx1
      go_wp2_with fail
      refine (isNeed_c _ need _ (rd_below HN.out HB1.out)).mono ?_; rintro e w3 ⟨rfl, rfl⟩
      by_cases hne : needB need = true
      · have HNE := Lib.hid hne
        have HN4 := Lib.hid (needB_true hne).1
        rw [hne]
        clear hne
        obtain ⟨hm5, hl5⟩ := readyTimes_mem (ev := distT N (arcs l) src) HGF.out
        have HM5 := Lib.hid hm5
        clear hm5
        go_wp2_with fail
        have HV := Lib.hid (best_yes (q := q) HASK.out HNE.out rfl rfl rfl)
        refine (bestI_c N s l _ f src w.heap.size _ need _ q _ HGT.out HGF.out HND.out hs HNE.out E0.out E1.out (rd_below HR.out HB1.out) (rd_below HF.out HB1.out) (rd_below HN.out HB1.out) (rd_below HQ.out HB1.out) _ _ _ rfl rfl rfl).mono ?_
        rintro e w3 ⟨rfl, hb2⟩
        have HB2 := Lib.hid (bel_then HB1.out hb2)
        have HE := Lib.hid (best_eq (distT N (arcs l) src) f (readyL (distT N (arcs l) src) f) need q (pickL f (readyL (distT N (arcs l) src) f) need).1 HGF.out HM5.out (readyL_nodup _ _) HN4.out)
        clear hb2
        go_wp2
        go_ret2
        unfold BestIs
        have he := HE.out
        rw [pick_miss] at he
        rw [HV.out, ← he]
        exact ⟨rfl, HB2.out⟩
      · have hne : needB need = false := by simpa using hne
        have HV := Lib.hid (best_no2 (n := N) (l := l) (f := f) (x := src) (q := q) hne)
        rw [hne]
        go_wp2
        go_ret2
        unfold BestIs
        rw [HV.out]
        exact ⟨rfl, HB1.out⟩
    · have hx : inB x 0 (n - 1) = false := by simpa using hx
      have HV := Lib.hid (best_no1 (l := l) (f := f) (x := x) (n := n) (need := need) (q := q) (by unfold askD; rw [hx]; simp))
      rw [hx]
      go_wp2
      go_ret2
      unfold BestIs
      rw [HV.out]
      exact ⟨rfl, HB1.out⟩
  · have hg : goodDs n l f = false := by simpa using hg
    have HV := Lib.hid (best_no1 (x := x) (n := n) (l := l) (f := f) (need := need) (q := q) (by unfold askD; rw [hg]; rfl))
    rw [hg]
    go_wp2
    go_ret2
    unfold BestIs
    rw [HV.out]
    exact ⟨rfl, HB1.out⟩
end Go.Proofs.Ytcpchdbhpcebeaa
