/-
  Lists of Street: sizes, copy, comparison. A good town: the plain word, and spec.toGood. impl's look at a town: has, fits, compareStreets, isTown. impl.isTown. Travel times: rounds of improvement over all streets end, after at most as many rounds as there are nodes, in the least weights of ways. Plain; no program. (joined by pack.py: StS TownG TownI TownJ Times)
-/
import Derived.Test.YtgcdgcidjjdhmaaGreatDoorK10
import Derived.Deep.RegionHeld3
import Derived.Deep.RegionWith
import Derived.BigQuiet
namespace Go.Proofs.YtgcdgcidjjdhmaaGreatDoor
set_option linter.unusedVariables false
set_option linter.unusedSimpArgs false
open Go.RowKit

def St.zs : List Value := [.int .i64 0, .int .i64 0, .int .i64 0]
end Go.Proofs.YtgcdgcidjjdhmaaGreatDoor

namespace Go.Proofs.YtgcdgcidjjdhmaaGreatDoor
set_option linter.unusedVariables false
set_option linter.unusedSimpArgs false
open Go.RowKit

def strS (n : Int) (s : St) : Bool := inB s.f 0 (n - 1) && inB s.t 0 (n - 1) && decide (s.f ≠ s.t) && inB s.s 1 3600
def goodSt (n : Int) (s : St) : Bool := inB s.f 0 (n - 1) && inB s.t 0 (n - 1) && decide (s.f < s.t) && inB s.s 1 3600
def befSt (a b : St) : Bool := decide (a.f < b.f) || (decide (a.f = b.f) && decide (a.t < b.t))
def befAt (l : List St) (i : Nat) (s : St) : Bool := decide (i = 0) || (match l[i - 1]? with | none => true | some p => befSt p s)
def okAt (n : Int) (l : List St) (i : Nat) : Bool := match l[i]? with | none => true | some s => goodSt n s && befAt l i s
def goodTown (n : Int) (l : List St) : Bool := inB n 1 14 && decide (l.length ≤ 40) && (List.range l.length).all (okAt n l)

theorem goodTown_true {n : Int} {l : List St} (h : goodTown n l = true) : 1 ≤ n ∧ n ≤ 14 ∧ l.length ≤ 40 ∧ ∀ s ∈ l, 0 ≤ s.f ∧ s.f < s.t ∧ s.t < n ∧ 1 ≤ s.s ∧ s.s ≤ 3600 := by
  simp only [goodTown, Bool.and_eq_true, decide_eq_true_eq, List.all_eq_true, List.mem_range] at h
  obtain ⟨⟨h1, h2⟩, h3⟩ := h
  have := inB_true h1
  refine ⟨this.1, this.2, h2, fun s hs => ?_⟩
  obtain ⟨i, hi, rfl⟩ := List.getElem_of_mem hs
  have h4 := h3 i hi
  unfold okAt at h4
  rw [List.getElem?_eq_getElem hi] at h4
  simp only [Bool.and_eq_true] at h4
  have h5 := h4.1
  simp only [goodSt, inB, Bool.and_eq_true, decide_eq_true_eq] at h5
  omega

end Go.Proofs.YtgcdgcidjjdhmaaGreatDoor

namespace Go.Proofs.YtgcdgcidjjdhmaaGreatDoor
set_option linter.unusedVariables false
set_option linter.unusedSimpArgs false
open Go.RowKit

def cmpI (a b : Int) : Int := if a < b then -1 else if b < a then 1 else 0
def orI (a b : Int) : Int := if a = 0 then b else a
def cmpS (a b : St) : Int := orI (cmpI a.f b.f) (cmpI a.t b.t)
theorem cmpS_bef (a b : St) : decide (cmpS a b ≥ 0) = !befSt a b := by
  unfold cmpS befSt
  rcases Int.lt_trichotomy a.f b.f with h | h | h
  · have e : cmpI a.f b.f = -1 := by unfold cmpI; rw [if_pos h]
    rw [e]; simp [orI, h]
  · have e : cmpI a.f b.f = 0 := by unfold cmpI; rw [if_neg (by omega), if_neg (by omega)]
    rw [e]
    rcases Int.lt_trichotomy a.t b.t with g | g | g
    · have e2 : cmpI a.t b.t = -1 := by unfold cmpI; rw [if_pos g]
      rw [e2]; simp [orI, h, g]
    · have e2 : cmpI a.t b.t = 0 := by unfold cmpI; rw [if_neg (by omega), if_neg (by omega)]
      rw [e2]; simp [orI, h, g]
    · have e2 : cmpI a.t b.t = 1 := by unfold cmpI; rw [if_neg (by omega), if_pos g]
      rw [e2]; simp [orI, h]; omega
  · have e : cmpI a.f b.f = 1 := by unfold cmpI; rw [if_neg (by omega), if_pos h]
    rw [e]; simp [orI]; omega

end Go.Proofs.YtgcdgcidjjdhmaaGreatDoor

namespace Go.Proofs.YtgcdgcidjjdhmaaGreatDoor
set_option linter.unusedVariables false
set_option linter.unusedSimpArgs false
open Go.RowKit

end Go.Proofs.YtgcdgcidjjdhmaaGreatDoor

namespace Go.Proofs.YtgcdgcidjjdhmaaGreatDoor
set_option linter.unusedVariables false
set_option linter.unusedSimpArgs false
set_option linter.unusedSectionVars false

abbrev Arc := Nat × Nat × Int
def arcs2 (s : St) : List Arc := [(s.f.toNat, s.t.toNat, s.s), (s.t.toNat, s.f.toNat, s.s)]
def arcs (l : List St) : List Arc := l.flatMap arcs2
def better (d : List Int) (a b : Nat) (w : Int) : Bool := decide (0 ≤ d.getD a 0) && (decide (d.getD b 0 < 0) || decide (d.getD a 0 + w < d.getD b 0))
def relax1 (d : List Int) (x : Arc) : List Int := if better d x.1 x.2.1 x.2.2 then d.set x.2.1 (d.getD x.1 0 + x.2.2) else d
def roundT (ar : List Arc) (d : List Int) : List Int := ar.foldl relax1 d
def flag1 (p : List Int × Bool) (x : Arc) : List Int × Bool := if better p.1 x.1 x.2.1 x.2.2 then (p.1.set x.2.1 (p.1.getD x.1 0 + x.2.2), true) else p
def iterT (ar : List Arc) (d : List Int) : Nat → List Int
  | 0 => d
  | k + 1 => roundT ar (iterT ar d k)
def startT (n src : Nat) : List Int := (List.replicate n (-1)).set src 0
def distT (n : Nat) (ar : List Arc) (src : Nat) : List Int := iterT ar (startT n src) n

theorem flag1_fst (p : List Int × Bool) (x : Arc) : (flag1 p x).1 = relax1 p.1 x := by
  unfold flag1 relax1; split <;> rfl
theorem flags_fst (ar : List Arc) : ∀ p : List Int × Bool, (ar.foldl flag1 p).1 = roundT ar p.1 := by
  induction ar with
  | nil => intro p; rfl
  | cons x ar ih => intro p; rw [List.foldl_cons, ih, flag1_fst]; rfl
theorem flags_true (ar : List Arc) : ∀ d, (ar.foldl flag1 (d, true)).2 = true := by
  induction ar with
  | nil => intro d; rfl
  | cons x ar ih =>
    intro d; rw [List.foldl_cons]
    unfold flag1; split <;> exact ih _
theorem flags_false (ar : List Arc) : ∀ d, (ar.foldl flag1 (d, false)).2 = false → roundT ar d = d := by
  induction ar with
  | nil => intro d _; rfl
  | cons x ar ih =>
    intro d h; rw [List.foldl_cons] at h
    by_cases hb : better d x.1 x.2.1 x.2.2 = true
    · have e : flag1 (d, false) x = (d.set x.2.1 (d.getD x.1 0 + x.2.2), true) := by unfold flag1; rw [if_pos hb]
      rw [e, flags_true] at h; cases h
    · have e : flag1 (d, false) x = (d, false) := by unfold flag1; rw [if_neg hb]
      rw [e] at h
      have e2 : relax1 d x = d := by unfold relax1; rw [if_neg hb]
      show ar.foldl relax1 (relax1 d x) = d
      rw [e2]; exact ih d h
theorem flags_stable (ar : List Arc) (d : List Int) (h : ∀ x ∈ ar, better d x.1 x.2.1 x.2.2 = false) : ar.foldl flag1 (d, false) = (d, false) := by
  induction ar with
  | nil => rfl
  | cons x ar ih =>
    rw [List.foldl_cons]
    have e : flag1 (d, false) x = (d, false) := by unfold flag1; rw [if_neg (by simp [h x (by simp)])]
    rw [e]; exact ih fun y hy => h y (by simp [hy])

theorem getD_set (d : List Int) (i j : Nat) (x : Int) : (d.set i x).getD j 0 = if i = j ∧ j < d.length then x else d.getD j 0 := by
  simp only [List.getD, List.getElem?_set]
  by_cases h : i = j
  · subst h
    by_cases h2 : i < d.length
    · simp [h2]
    · simp [h2]
  · simp [h]
theorem relax1_len (d : List Int) (x : Arc) : (relax1 d x).length = d.length := by unfold relax1; split <;> simp
theorem roundT_len (ar : List Arc) : ∀ d, (roundT ar d).length = d.length := by
  induction ar with
  | nil => intro d; rfl
  | cons x ar ih => intro d; exact (ih _).trans (relax1_len d x)
theorem iterT_len (ar : List Arc) (d : List Int) : ∀ k, (iterT ar d k).length = d.length := by
  intro k
  induction k with
  | zero => rfl
  | succ k ih => exact (roundT_len ar _).trans ih
theorem startT_len (n src : Nat) : (startT n src).length = n := by simp [startT]

/-- d is at least ar good ar e, at each node. -/
def Le (d e : List Int) : Prop := ∀ v, 0 ≤ e.getD v 0 → v < e.length → 0 ≤ d.getD v 0 ∧ d.getD v 0 ≤ e.getD v 0
theorem le_rfl' (d : List Int) : Le d d := fun _ h _ => ⟨h, Int.le_refl _⟩
theorem le_trans' {a b c : List Int} (hl : b.length = c.length) (h : Le a b) (k : Le b c) : Le a c := fun v hv hlt => by
  have h1 := k v hv hlt
  have h2 := h v h1.1 (by omega)
  exact ⟨h2.1, by omega⟩
theorem relax1_le (d : List Int) (x : Arc) (hw : 0 < x.2.2) : Le (relax1 d x) d := by
  intro v hv hlt
  unfold relax1
  split
  · rename_i h
    simp only [better, Bool.and_eq_true, Bool.or_eq_true, decide_eq_true_eq] at h
    rw [getD_set]
    split
    · rename_i h2
      rw [← h2.1] at hv ⊢
      omega
    · exact ⟨hv, Int.le_refl _⟩
  · exact ⟨hv, Int.le_refl _⟩
theorem roundT_le (ar : List Arc) (hw : ∀ x ∈ ar, 0 < x.2.2) : ∀ d, Le (roundT ar d) d := by
  induction ar with
  | nil => intro d; exact le_rfl' d
  | cons x ar ih =>
    intro d
    exact le_trans' (relax1_len d x) (ih (fun y hy => hw y (by simp [hy])) _) (relax1_le d x (hw x (by simp)))
theorem roundT_arc (ar : List Arc) (hw : ∀ x ∈ ar, 0 < x.2.2) : ∀ (d : List Int), ∀ x ∈ ar, x.1 < d.length → x.2.1 < d.length → 0 ≤ d.getD x.1 0 →
    0 ≤ (roundT ar d).getD x.2.1 0 ∧ (roundT ar d).getD x.2.1 0 ≤ d.getD x.1 0 + x.2.2 := by
  induction ar with
  | nil => intro d x hx; simp at hx
  | cons y ar ih =>
    intro d x hx h1 h2 h3
    have hw' : ∀ z ∈ ar, 0 < z.2.2 := fun z hz => hw z (by simp [hz])
    have hy := hw y (by simp)
    rcases List.mem_cons.1 hx with rfl | hx
    · have hr : 0 ≤ (relax1 d x).getD x.2.1 0 ∧ (relax1 d x).getD x.2.1 0 ≤ d.getD x.1 0 + x.2.2 := by
        unfold relax1
        by_cases hb : better d x.1 x.2.1 x.2.2 = true
        · rw [if_pos hb, getD_set, if_pos ⟨rfl, h2⟩]; omega
        · rw [if_neg hb]
          have hb' : better d x.1 x.2.1 x.2.2 = false := by simpa using hb
          simp only [better, Bool.and_eq_false_iff, Bool.or_eq_false_iff, decide_eq_false_iff_not] at hb'
          omega
      have := roundT_le ar hw' (relax1 d x) x.2.1 hr.1 (by rw [relax1_len]; exact h2)
      show 0 ≤ (roundT ar (relax1 d x)).getD x.2.1 0 ∧ (roundT ar (relax1 d x)).getD x.2.1 0 ≤ _
      omega
    · have hl := relax1_le d y hy x.1 h3 h1
      have := ih hw' (relax1 d y) x hx (by rw [relax1_len]; exact h1) (by rw [relax1_len]; exact h2) hl.1
      show 0 ≤ (roundT ar (relax1 d y)).getD x.2.1 0 ∧ (roundT ar (relax1 d y)).getD x.2.1 0 ≤ _
      omega

/-- A way from src to a node, and its weight. -/
inductive Way (ar : List Arc) (src : Nat) : Nat → Int → Prop
  | here : Way ar src src 0
  | step {u v : Nat} {c w : Int} : Way ar src u c → (u, v, w) ∈ ar → Way ar src v (c + w)

section
variable {ar : List Arc} {n src : Nat} (hA : ∀ x ∈ ar, x.1 < n ∧ x.2.1 < n ∧ 0 < x.2.2) (hs : src < n)
include hA hs
theorem way_node {v : Nat} {c : Int} (h : Way ar src v c) : v < n := by
  cases h with
  | here => exact hs
  | step _ hm => exact (hA _ hm).2.1
theorem way_nonneg {v : Nat} {c : Int} (h : Way ar src v c) : 0 ≤ c := by
  induction h with
  | here => omega
  | step _ hm ih => have := (hA _ hm).2.2; simp at this; omega
/-- The least weight of a way. -/
def Least (ar : List Arc) (src v : Nat) (c : Int) : Prop := Way ar src v c ∧ ∀ c', Way ar src v c' → c ≤ c'
theorem least_ex : ∀ (m : Nat) {v : Nat} {c : Int}, c.toNat = m → Way ar src v c → ∃ c0, Least ar src v c0 := by
  intro m
  induction m using Nat.strongRecOn with
  | _ m ih =>
    intro v c hm h
    by_cases hex : ∃ c', Way ar src v c' ∧ c' < c
    · obtain ⟨c', h1, h2⟩ := hex
      have := way_nonneg hA hs h1
      have := way_nonneg hA hs h
      exact ih c'.toNat (by omega) rfl h1
    · exact ⟨c, h, fun c' h' => by
        rcases Int.lt_or_le c' c with h2 | h2
        · exact absurd ⟨c', h', h2⟩ hex
        · exact h2⟩
omit hA hs in
theorem least_fun {v : Nat} {c c' : Int} (h : Least ar src v c) (h' : Least ar src v c') : c = c' := by
  have := h.2 _ h'.1; have := h'.2 _ h.1; omega

/-- Each value is -1 or the weight of a way. -/
def Sound (ar : List Arc) (n src : Nat) (d : List Int) : Prop := d.length = n ∧ ∀ v, v < n → d.getD v 0 = -1 ∨ (0 ≤ d.getD v 0 ∧ Way ar src v (d.getD v 0))
omit hs in
theorem sound_relax1 {d : List Int} (h : Sound ar n src d) {x : Arc} (hx : x ∈ ar) : Sound ar n src (relax1 d x) := by
  refine ⟨(relax1_len d x).trans h.1, fun v hv => ?_⟩
  unfold relax1
  by_cases hb : better d x.1 x.2.1 x.2.2 = true
  · rw [if_pos hb, getD_set]
    by_cases e : x.2.1 = v ∧ v < d.length
    · rw [if_pos e]
      simp only [better, Bool.and_eq_true, decide_eq_true_eq] at hb
      have hxn := hA x hx
      rcases h.2 x.1 hxn.1 with h1 | h1
      · omega
      · right
        refine ⟨by omega, ?_⟩
        have := Way.step h1.2 (v := x.2.1) (w := x.2.2) hx
        rw [← e.1]; exact this
    · rw [if_neg e]; exact h.2 v hv
  · rw [if_neg hb]; exact h.2 v hv
omit hs in
theorem sound_fold : ∀ (bs : List Arc), (∀ x ∈ bs, x ∈ ar) → ∀ d, Sound ar n src d → Sound ar n src (roundT bs d) := by
  intro bs
  induction bs with
  | nil => intro _ d h; exact h
  | cons x bs ih => intro hb d h; exact ih (fun y hy => hb y (by simp [hy])) _ (sound_relax1 hA h (hb x (by simp)))
omit hA in
theorem sound_start : Sound ar n src (startT n src) := by
  refine ⟨startT_len n src, fun v hv => ?_⟩
  unfold startT
  rw [getD_set]
  by_cases e : src = v
  · subst e
    rw [if_pos ⟨rfl, by simpa using hv⟩]
    exact Or.inr ⟨by omega, Way.here⟩
  · rw [if_neg (fun h => e h.1)]
    left; simp [List.getD, hv]
theorem sound_iter : ∀ k, Sound ar n src (iterT ar (startT n src) k) := by
  intro k
  induction k with
  | zero => exact sound_start hs
  | succ k ih => exact sound_fold hA ar (fun _ h => h) _ ih

omit hA hs in
theorem countP_lt {α : Type} {p q : α → Bool} : ∀ (l : List α), (∀ x ∈ l, p x = true → q x = true) → (∃ x ∈ l, q x = true ∧ p x = false) → l.countP p < l.countP q := by
  intro l
  induction l with
  | nil => rintro _ ⟨x, hx, _⟩; simp at hx
  | cons y l ih =>
    rintro h ⟨x, hx, h1, h2⟩
    have hle : l.countP p ≤ l.countP q := List.countP_mono_left fun z hz => h z (by simp [hz])
    rw [List.countP_cons, List.countP_cons]
    rcases List.mem_cons.1 hx with rfl | hx
    · rw [h1, h2]; simp; omega
    · have := ih (fun z hz => h z (by simp [hz])) ⟨x, hx, h1, h2⟩
      have hy := h y (by simp)
      cases hp : p y <;> cases hq : q y <;> simp <;> first | omega | (rw [hp, hq] at hy; simp at hy)

open Classical in
noncomputable def rank (ar : List Arc) (n src : Nat) (c : Int) : Nat := (List.range n).countP fun u => decide (∃ c', c' < c ∧ Least ar src u c')

open Classical in
theorem rank_lt {u : Nat} {c c1 : Int} (h : Least ar src u c1) (hc : c1 < c) : rank ar n src c1 < rank ar n src c := by
  refine countP_lt _ (fun x _ hx => ?_) ⟨u, List.mem_range.2 (way_node hA hs h.1), ?_, ?_⟩
  · obtain ⟨c', h1, h2⟩ := of_decide_eq_true hx
    exact decide_eq_true ⟨c', by omega, h2⟩
  · exact decide_eq_true ⟨c1, hc, h⟩
  · refine decide_eq_false ?_
    rintro ⟨c', h1, h2⟩
    have := least_fun h h2
    omega
open Classical in
theorem rank_bd {v : Nat} {c : Int} (h : Least ar src v c) : rank ar n src c < n := by
  have hle : rank ar n src c ≤ (List.range n).length := List.countP_le_length
  rw [List.length_range] at hle
  rcases Nat.lt_or_ge (rank ar n src c) n with h1 | h1
  · exact h1
  · exfalso
    have he : rank ar n src c = (List.range n).length := by rw [List.length_range]; omega
    have := List.countP_eq_length.1 he v (List.mem_range.2 (way_node hA hs h.1))
    obtain ⟨c', h2, h3⟩ := of_decide_eq_true this
    have := least_fun h h3
    omega

theorem iter_le_start (k : Nat) : Le (iterT ar (startT n src) k) (startT n src) := by
  induction k with
  | zero => exact le_rfl' _
  | succ k ih => exact le_trans' (by rw [iterT_len]) (roundT_le ar (fun x hx => (hA x hx).2.2) _) ih

theorem final : ∀ (k : Nat) (v : Nat) (c : Int), Least ar src v c → rank ar n src c ≤ k → (iterT ar (startT n src) k).getD v 0 = c := by
  intro k
  induction k with
  | zero =>
    intro v c h hr
    have hc := h.1
    cases hc with
    | here => unfold iterT startT; rw [getD_set, if_pos ⟨rfl, by simpa using hs⟩]
    | step hu hm =>
      rename_i u c1 w
      obtain ⟨c0, h0⟩ := least_ex hA hs _ rfl hu
      have := (hA _ hm).2.2
      have h3 := h0.2 _ hu
      have := rank_lt hA hs h0 (c := c1 + w) (by simp at this; omega)
      omega
  | succ k ih =>
    intro v c h hr
    have hv := way_node hA hs h.1
    have hso := (sound_iter hA hs (k + 1)).2 v hv
    have hup : 0 ≤ (iterT ar (startT n src) (k + 1)).getD v 0 ∧ (iterT ar (startT n src) (k + 1)).getD v 0 ≤ c := by
      have hc := h.1
      cases hc with
      | here =>
        have h1 : (startT n src).getD src 0 = 0 := by unfold startT; rw [getD_set, if_pos ⟨rfl, by simpa using hs⟩]
        have := iter_le_start hA hs (k + 1) src (by rw [h1]; omega) (by rw [startT_len]; exact hs)
        rw [h1] at this; exact this
      | step hu hm =>
        rename_i u c1 w
        have hn := hA _ hm
        simp at hn
        have hl : Least ar src u c1 := ⟨hu, fun c' hc' => by
          have := h.2 _ (Way.step hc' hm)
          omega⟩
        have hrk := rank_lt hA hs hl (c := c1 + w) (by omega)
        have hi := ih u c1 hl (by omega)
        have h0 := way_nonneg hA hs hu
        have hlen : (iterT ar (startT n src) k).length = n := by rw [iterT_len, startT_len]
        have := roundT_arc ar (fun x hx => (hA x hx).2.2) (iterT ar (startT n src) k) (u, v, w) hm (by rw [hlen]; exact hn.1) (by rw [hlen]; exact hn.2.1) (by rw [hi]; exact h0)
        rw [hi] at this
        exact this
    rcases hso with h1 | h1
    · omega
    · have := h.2 _ h1.2
      omega

/-- What the travel times are. -/
def IsDist (ar : List Arc) (n src : Nat) (d : List Int) : Prop := d.length = n ∧ ∀ v, v < n → (d.getD v 0 = -1 ∧ ∀ c, ¬ Way ar src v c) ∨ (0 ≤ d.getD v 0 ∧ Least ar src v (d.getD v 0))
theorem iter_is (k : Nat) (hk : n ≤ k + 1) : IsDist ar n src (iterT ar (startT n src) k) := by
  have hso := sound_iter hA hs k
  refine ⟨hso.1, fun v hv => ?_⟩
  by_cases hex : ∃ c, Way ar src v c
  · obtain ⟨c, hc⟩ := hex
    obtain ⟨c0, h0⟩ := least_ex hA hs _ rfl hc
    have h1 := final hA hs k v c0 h0 (by have := rank_bd hA hs h0; omega)
    right
    rw [h1]
    exact ⟨way_nonneg hA hs h0.1, h0⟩
  · left
    refine ⟨?_, fun c hc => hex ⟨c, hc⟩⟩
    rcases hso.2 v hv with h1 | h1
    · exact h1
    · exact absurd ⟨_, h1.2⟩ hex
omit hA hs in
theorem is_uniq {d e : List Int} (h : IsDist ar n src d) (k : IsDist ar n src e) : d = e := by
  apply List.ext_getElem
  · rw [h.1, k.1]
  · intro v h1 h2
    have hv : v < n := by rw [← h.1]; exact h1
    have e1 : d[v] = d.getD v 0 := by simp [List.getD, h1]
    have e2 : e[v] = e.getD v 0 := by simp [List.getD, h2]
    rw [e1, e2]
    rcases h.2 v hv with ⟨p, q⟩ | ⟨p, q⟩ <;> rcases k.2 v hv with ⟨p', q'⟩ | ⟨p', q'⟩
    · omega
    · exact absurd q'.1 (q _)
    · exact absurd q.1 (q' _)
    · exact least_fun q q'
omit hs in
theorem is_stable {d : List Int} (h : IsDist ar n src d) : ∀ x ∈ ar, better d x.1 x.2.1 x.2.2 = false := by
  intro x hx
  have hn := hA x hx
  unfold better
  rcases h.2 x.1 hn.1 with ⟨p, _⟩ | ⟨p, q⟩
  · simp only [p]; rfl
  · have hw := Way.step q.1 (v := x.2.1) (w := x.2.2) hx
    rcases h.2 x.2.1 hn.2.1 with ⟨p', q'⟩ | ⟨p', q'⟩
    · exact absurd hw (q' _)
    · have := q'.2 _ hw
      simp only [Bool.and_eq_false_iff, Bool.or_eq_false_iff, decide_eq_false_iff_not]
      omega
theorem dist_is : IsDist ar n src (distT n ar src) := iter_is hA hs n (by omega)
/-- The rounds that stop at the first one without a change. -/
theorem iter_last {k : Nat} (hk : n ≤ k + 1) : ar.foldl flag1 (iterT ar (startT n src) k, false) = (iterT ar (startT n src) k, false) :=
  flags_stable ar _ (is_stable hA (iter_is hA hs k hk))
end
theorem iter_fix {ar : List Arc} {d : List Int} {k : Nat} (h : roundT ar (iterT ar d k) = iterT ar d k) : ∀ m, k ≤ m → iterT ar d m = iterT ar d k := by
  intro m
  induction m with
  | zero => intro hm; obtain rfl : k = 0 := by omega
            rfl
  | succ m ih =>
    intro hm
    rcases Nat.lt_or_ge m k with h1 | h1
    · obtain rfl : k = m + 1 := by omega
      rfl
    · show roundT ar (iterT ar d m) = _
      rw [ih h1, h]

/-! ### Both ways -/
theorem way_front {ar : List Arc} {a b : Nat} {w : Int} (h : (a, b, w) ∈ ar) {v : Nat} {c : Int} (k : Way ar b v c) : Way ar a v (c + w) := by
  induction k with
  | here => have := Way.step (Way.here (ar := ar) (src := a)) h; simpa [Int.add_comm] using this
  | step _ hm ih => have := Way.step ih hm; rwa [Int.add_right_comm] at this
theorem way_back {ar : List Arc} (hsym : ∀ a b w, (a, b, w) ∈ ar → (b, a, w) ∈ ar) {u v : Nat} {c : Int} (h : Way ar u v c) : Way ar v u c := by
  induction h with
  | here => exact Way.here
  | step _ hm ih => exact way_front (hsym _ _ _ hm) ih
theorem least_back {ar : List Arc} (hsym : ∀ a b w, (a, b, w) ∈ ar → (b, a, w) ∈ ar) {u v : Nat} {c : Int} (h : Least ar u v c) : Least ar v u c :=
  ⟨way_back hsym h.1, fun c' hc' => h.2 _ (way_back hsym hc')⟩
theorem arcs_sym (l : List St) : ∀ a b w, (a, b, w) ∈ arcs l → (b, a, w) ∈ arcs l := by
  intro a b w h
  unfold arcs at h ⊢
  obtain ⟨s, hs, hm⟩ := List.mem_flatMap.1 h
  refine List.mem_flatMap.2 ⟨s, hs, ?_⟩
  unfold arcs2 at hm ⊢
  simp at hm ⊢
  rcases hm with ⟨rfl, rfl, rfl⟩ | ⟨rfl, rfl, rfl⟩ <;> simp
theorem dist_sym {n : Nat} {l : List St} (hA : ∀ x ∈ arcs l, x.1 < n ∧ x.2.1 < n ∧ 0 < x.2.2) {u v : Nat} (hu : u < n) (hv : v < n) : (distT n (arcs l) u).getD v 0 = (distT n (arcs l) v).getD u 0 := by
  rcases (dist_is hA hu).2 v hv with ⟨p, q⟩ | ⟨p, q⟩ <;> rcases (dist_is hA hv).2 u hu with ⟨p', q'⟩ | ⟨p', q'⟩
  · omega
  · exact absurd (way_back (arcs_sym l) q'.1) (q _)
  · exact absurd (way_back (arcs_sym l) q.1) (q' _)
  · exact least_fun q (least_back (arcs_sym l) q')
theorem arcs_good {n : Int} {l : List St} (h : goodTown n l = true) : ∀ x ∈ arcs l, x.1 < n.toNat ∧ x.2.1 < n.toNat ∧ 0 < x.2.2 := by
  intro x hx
  obtain ⟨_, _, _, hg⟩ := goodTown_true h
  obtain ⟨s, hs, hm⟩ := List.mem_flatMap.1 hx
  have := hg s hs
  unfold arcs2 at hm
  simp at hm
  rcases hm with rfl | rfl <;> simp <;> omega

/-! ### Bounds -/
def Bd (m : Int) (d : List Int) : Prop := ∀ v, -1 ≤ d.getD v 0 ∧ d.getD v 0 ≤ m
theorem bd_relax1 {m : Int} {d : List Int} (h : Bd m d) {x : Arc} (h0 : 0 ≤ m) (hx : 0 < x.2.2) (hx' : x.2.2 ≤ 3600) : Bd (m + 3600) (relax1 d x) := by
  intro v
  unfold relax1
  by_cases hb : better d x.1 x.2.1 x.2.2 = true
  · rw [if_pos hb, getD_set]
    simp only [better, Bool.and_eq_true, decide_eq_true_eq] at hb
    split
    · have := h x.1; omega
    · have := h v; omega
  · rw [if_neg hb]; have := h v; omega
theorem bd_fold : ∀ (ar : List Arc) (m : Int) (d : List Int), Bd m d → 0 ≤ m → (∀ x ∈ ar, 0 < x.2.2 ∧ x.2.2 ≤ 3600) → Bd (m + 3600 * ar.length) (roundT ar d) := by
  intro ar
  induction ar with
  | nil => intro m d h _ _; simpa [roundT] using h
  | cons x ar ih =>
    intro m d h h0 hx
    have h1 := ih (m + 3600) (relax1 d x) (bd_relax1 h h0 (hx x (by simp)).1 (hx x (by simp)).2) (by omega) (fun y hy => hx y (by simp [hy]))
    intro v
    have h2 := h1 v
    show -1 ≤ (roundT ar (relax1 d x)).getD v 0 ∧ (roundT ar (relax1 d x)).getD v 0 ≤ _
    have e : ((x :: ar).length : Int) = (ar.length : Int) + 1 := by simp
    rw [e]
    omega
theorem bd_iter {ar : List Arc} (hA : ∀ x ∈ ar, 0 < x.2.2 ∧ x.2.2 ≤ 3600) (n src : Nat) : ∀ k : Nat, Bd (3600 * ar.length * k) (iterT ar (startT n src) k) := by
  intro k
  induction k with
  | zero =>
    intro v
    unfold iterT startT
    rw [getD_set]
    split
    · simp
    · simp only [List.getD]
      rcases Nat.lt_or_ge v n with h | h
      · simp [h]
      · have h' : ¬ v < n := by omega
        simp [h']
  | succ k ih =>
    have h0 : (0 : Int) ≤ 3600 * ar.length * k := Int.mul_nonneg (by omega) (by omega)
    have := bd_fold ar _ _ ih h0 hA
    intro v
    have h2 := this v
    have e : (3600 * (ar.length : Int) * ((k + 1 : Nat) : Int)) = 3600 * ar.length * k + 3600 * ar.length := by
      rw [Int.natCast_add, Int.mul_add]; simp
    rw [e]
    exact h2
theorem arcs_len (l : List St) : (arcs l).length = 2 * l.length := by
  unfold arcs
  induction l with
  | nil => rfl
  | cons s l ih => rw [List.flatMap_cons, List.length_append, ih]; simp [arcs2]; omega
theorem arcs_bd {n : Int} {l : List St} (h : goodTown n l = true) : ∀ x ∈ arcs l, 0 < x.2.2 ∧ x.2.2 ≤ 3600 := by
  intro x hx
  obtain ⟨_, _, _, hg⟩ := goodTown_true h
  obtain ⟨s, hs, hm⟩ := List.mem_flatMap.1 hx
  have := hg s hs
  unfold arcs2 at hm
  simp at hm
  rcases hm with rfl | rfl <;> simp <;> omega
end Go.Proofs.YtgcdgcidjjdhmaaGreatDoor
