/-
  slices.Clone, slices.Delete (one element), slices.IndexFunc, slices.ContainsFunc and slices.DeleteFunc at ints. slices.Delete of one element, in a row of the call's own. slices.DeleteFunc in a row of the call's own. (joined by pack.py: Del Del1 Del2)
-/
import Derived.Test.YtahehdgkbhjpoaaK5
import Derived.Test.YtahehdgkbhjpoaaK7
import Derived.Lib.SliceRun
import Derived.Laws.IdiomCopy
import Derived.Deep.RegionLaw
import Derived.Deep.LoopGhost
import Derived.Outline
namespace Go.Proofs.Ytahehdgkbhjpoaa
set_option linter.unusedVariables false
set_option linter.unusedSimpArgs false
open Go.RowKit

theorem setCells_many (g : Nat) : ∀ (us : List Value) (w : World) (j : Nat), w.setCells g j us = setMany w g j us := by
  intro us
  induction us with
  | nil => intro w j; rfl
  | cons u us ih => intro w j; exact ih _ _
theorem own_setCells {w : World} {base : Nat} {e : TypeId} {sz g n cap : Nat} {xs : List Value} (h : w.ownsRow base e sz (.slice (some ⟨g, 0, none⟩) n cap) n xs) (j : Nat) (us : List Value) : (w.setCells g j us).ownsRow base e sz (.slice (some ⟨g, 0, none⟩) n cap) n (putAt xs j us) := by
  rw [setCells_many]; exact own_put us w xs j h
theorem only_setCells {a w : World} {g : Nat} (h : a.grownBy w (some g)) (j : Nat) (us : List Value) : a.grownBy (w.setCells g j us) (some g) := by
  rw [setCells_many]; exact only_put us w j h
/-- An owned row cut to its first elements. -/
theorem own_cut {w : World} {base : Nat} {e : TypeId} {g n cap : Nat} {xs : List Value} (h : w.ownsRow base e 1 (.slice (some ⟨g, 0, none⟩) n cap) n xs) {k : Nat} (hk : k ≤ n) : w.ownsRow base e 1 (.slice (some ⟨g, 0, none⟩) k cap) k (xs.take k) := by
  have hl := h.1
  rcases h.2 with ⟨h1, _⟩ | ⟨g', cap', cur, h1, h2, h3, h4, h5, h6, h7⟩
  · cases h1
  · injection h1 with h1 _ h8
    injection h1 with h1
    injection h1 with h1
    subst h1; subst h8
    refine ⟨by rw [List.length_take]; omega, .inr ⟨g, cap, cur, rfl, h2, h3, by omega, h5, h6, ?_⟩⟩
    rw [← h7, List.take_take]
    congr 1
    omega

set_option maxRecDepth 100000 in
set_option maxHeartbeats 1000000 in
theorem clone_c (v : Value) (l : List Int) (w : World) (hr : RdI w v l) (hn : l.length ≤ 1000000) :
    Calls Try.prog 116 #[v] w (OwnI l w) := by
  have HR := Lib.hid hr
  obtain ⟨A, c, rfl, hc, hm, hr⟩ := hr
  obtain ⟨i0, hi, hz0, hz1, hz2⟩ := info_parts Try.infoInt
  have heq := fun (W : World) (n c n' c' : Nat) => Lib.run_eql_slice_nil (P := Try.prog) W 27 3 A n c n' c' Try.underlying27
  rcases A with _ | ad
  · have hl : l = [] := by
      cases l with
      | nil => rfl
      | cons x l => obtain ⟨b, off, h, _⟩ := hr (by simp); cases h
    subst hl
    clear hr HR
    go_enter Try.func116, Try.ntmps116
    go_wp2
    go_ret
    exact ⟨_, rfl, World.ownsRow_nil _ _ _ _, Below.refl _ _⟩
  · clear hr
    go_enter Try.func116, Try.ntmps116
    go_wp2_with (at_builtin; refine wpList_app_rd _ rfl _ _ 27 rfl w.heap.size 3 i0 (.int .i64 0) 1 8 Try.underlying27 hi hz0 hz1 hz2 rfl (by decide) _ _ _ rfl (World.ownsRow_made (size := 1) w #[] 0 (Nat.le_refl _) (Nat.zero_le _) rfl) _ l.length (ints l) rfl (rd_below HR.out (bel_al (Below.refl _ _) _)) (by rw [ints_len]; omega) (ints_one l) (by rw [maxLen_eq]; omega) (by omega) (by simp) ?_; intro v' w' hown' hgrow _)
    go_ret
    refine ⟨_, rfl, by simpa using hown', ?_⟩
    refine bel_grown (bel_al (Below.refl _ _) _) hgrow (fun q e => ?_)
    have h : w.heap.size = q := Option.some.inj e
    omega

/-! ### A predicate that is handed over as a function value -/
/-- The function value g (with what it captured) answers p, and leaves the world as it is. -/
def Says (g : Nat) (lb : Array Value) (p : Int → Bool) (l : List Int) (w : World) : Prop := ∀ x ∈ l, Calls Try.prog g (#[.int .i64 x] ++ lb) w fun e w' => e = .returned (.bool (p x)) ∧ w = w'
def idxP (p : Int → Bool) : List Int → Int
  | [] => -1
  | y :: l => if p y = true then 0 else if idxP p l < 0 then -1 else idxP p l + 1
theorem idxP_none {p : Int → Bool} {l : List Int} (h : ∀ x ∈ l, p x = false) : idxP p l = -1 := by
  induction l with
  | nil => rfl
  | cons y l ih =>
    simp only [idxP]
    rw [if_neg (by rw [h y (by simp)]; simp), ih (fun x hx => h x (by simp [hx]))]; rfl
theorem idxP_at {p : Int → Bool} : ∀ {l : List Int} {x : Int} {k : Nat}, l[k]? = some x → p x = true → (∀ y ∈ l.take k, p y = false) → idxP p l = (k : Int) := by
  intro l
  induction l with
  | nil => intro x k h; simp at h
  | cons y l ih =>
    intro x k h hp hn
    cases k with
    | zero => simp at h; subst h; simp only [idxP]; rw [if_pos hp]; rfl
    | succ k =>
      simp at h
      have e := ih h hp (fun z hz => hn z (by simp [hz]))
      simp only [idxP]
      rw [if_neg (by rw [hn y (by simp)]; simp), e, if_neg (by omega)]
      omega
/-- Either no element is picked, or there is a first one. -/
theorem idxP_cases (p : Int → Bool) (l : List Int) : (idxP p l = -1 ∧ ∀ x ∈ l, p x = false) ∨ ∃ k x, l[k]? = some x ∧ p x = true ∧ (∀ y ∈ l.take k, p y = false) ∧ idxP p l = (k : Int) := by
  by_cases h : ∀ x ∈ l, p x = false
  · exact Or.inl ⟨idxP_none h, h⟩
  · right
    have : ∃ k, ∃ x, l[k]? = some x ∧ p x = true ∧ (∀ y ∈ l.take k, p y = false) := by
      induction l with
      | nil => exact absurd (by simp) h
      | cons y l ih =>
        by_cases hy : p y = true
        · exact ⟨0, y, rfl, hy, by simp⟩
        · have hy' : p y = false := by simpa using hy
          obtain ⟨k, x, h1, h2, h3⟩ := ih (fun hall => h (fun x hx => by
            rcases List.mem_cons.1 hx with rfl | hx
            · exact hy'
            · exact hall x hx))
          exact ⟨k + 1, x, by simpa using h1, h2, fun z hz => by
            rw [List.take_succ_cons] at hz
            rcases List.mem_cons.1 hz with rfl | hz
            · exact hy'
            · exact h3 z hz⟩
    obtain ⟨k, x, h1, h2, h3⟩ := this
    exact ⟨k, x, h1, h2, h3, idxP_at h1 h2 h3⟩

theorem idxP_any (p : Int → Bool) (l : List Int) : decide (0 ≤ idxP p l) = l.any p := by
  rcases idxP_cases p l with ⟨h1, h2⟩ | ⟨k, x, h1, h2, _, h4⟩
  · have e : l.any p = false := List.any_eq_false.2 (fun x hx => by rw [h2 x hx]; simp)
    rw [h1, e]; rfl
  · have e : l.any p = true := List.any_eq_true.2 ⟨x, List.mem_of_getElem? h1, h2⟩
    rw [h4, e]; exact decide_eq_true (by omega)

set_option maxRecDepth 100000 in
set_option maxHeartbeats 1000000 in
theorem indexFunc_c (g : Nat) (lb : Array Value) (eg : ∀ args w, (callFunc g args).run Try.prog w = .ok (.enter g args) w) (p : Int → Bool) (v : Value) (l : List Int) (w : World) (hp : Says g lb p l w) (hr : RdI w v l) :
    Calls Try.prog 114 #[v, .func (.func g) #[] lb] w fun e w' => e = .returned (.int .i64 (idxP p l)) ∧ w = w' := by
  obtain ⟨A, c, rfl, hc, hm, hr⟩ := hr
  rw [maxLen_eq] at hm
  have HP := Lib.hid hp
  clear hp
  go_enter Try.func114, Try.ntmps114
  go_wp2
  go_loopw [8] (fun i wr => ∃ k : Nat, k ≤ l.length ∧ i = .int .i64 k ∧ Hid (∀ y ∈ l.take k, p y = false) ∧ wr = w) (fun i _ => l.length - (intOf i).toNat)
  case atStart => exact ⟨0, Nat.zero_le _, rfl, Lib.hid (by simp), rfl⟩
  case round =>
    obtain ⟨k, hk, rfl, HN, rfl⟩ := hrel
    by_cases hlt : k < l.length
    · obtain ⟨b, off, rfl, hbl, hcell⟩ := hr (by omega)
      obtain ⟨y, hy⟩ : ∃ y, l[k]? = some y := ⟨_, List.getElem?_eq_getElem hlt⟩
      have c0 := hcell _ _ (ints_get hy)
      have HY := Lib.hid hy
      have hcall := HP.out y (List.mem_of_getElem? hy)
      clear hcell hy hr
      by_cases hpy : p y = true
      · rw [hpy] at hcall
        have HPY := Lib.hid hpy
        clear hpy
        go_wp2_with fail
        refine hcall.mono ?_; rintro e w' ⟨rfl, rfl⟩
        go_wp2
        go_ret
        exact ⟨ret_int1 (idxP_at HY.out HPY.out HN.out).symm, (by first | rfl | trivial)⟩
      · have hpy' : p y = false := by simpa using hpy
        rw [hpy'] at hcall
        have HPY := Lib.hid hpy'
        clear hpy hpy'
        go_wp2_with fail
        refine hcall.mono ?_; rintro e w' ⟨rfl, rfl⟩
        go_wp2
        refine ⟨⟨k + 1, by omega, by go_num, Lib.hid ?_, (by first | rfl | trivial)⟩, by simp [intOf]; omega⟩
        intro z hz
        rw [take_succ_of HY.out] at hz
        rcases List.mem_append.1 hz with h | h
        · exact HN.out z h
        · simp at h; subst h; exact HPY.out
    · obtain rfl : k = l.length := by omega
      have h := HN.out
      rw [List.take_length] at h
      have H := Lib.hid h
      clear h
      go_wp2
      go_ret
      exact ⟨ret_int1 (idxP_none H.out).symm, (by first | rfl | trivial)⟩
set_option maxHeartbeats 400000 in
theorem containsFunc_c (g : Nat) (lb : Array Value) (eg : ∀ args w, (callFunc g args).run Try.prog w = .ok (.enter g args) w) (p : Int → Bool) (v : Value) (l : List Int) (w : World) (hp : Says g lb p l w) (hr : RdI w v l) :
    Calls Try.prog 73 #[v, .func (.func g) #[] lb] w fun e w' => e = .returned (.bool (l.any p)) ∧ w = w' := by
  have HR := Lib.hid hr
  have HP := Lib.hid hp
  clear hr hp
  rw [← idxP_any]
  go_enter Try.func73, Try.ntmps73
  go_wp2_with (go_at_call 114; refine (indexFunc_c g lb eg p _ l _ HP.out HR.out).mono ?_; rintro e w' ⟨rfl, rfl⟩)
  go_ret
  exact ⟨rfl, rfl⟩

end Go.Proofs.Ytahehdgkbhjpoaa

namespace Go.Proofs.Ytahehdgkbhjpoaa
set_option linter.unusedVariables false
set_option linter.unusedSimpArgs false
open Go.RowKit

theorem putAt_take : ∀ (us xs : List Value) (i m : Nat), m ≤ i → (putAt xs i us).take m = xs.take m := by
  intro us
  induction us with
  | nil => intro xs i m _; rfl
  | cons u us ih =>
    intro xs i m h
    show (putAt (xs.set i u) (i + 1) us).take m = _
    rw [ih _ _ _ (by omega)]
    exact List.take_set_of_le h
theorem put_left {l : List Int} {i j n : Nat} (hl : l.length = n) (hj : j = i + 1) (hn : j ≤ n) : putAt (ints l) i (ints (l.drop j)) = ints (l.take i ++ l.drop j ++ l.drop (n - 1)) := by
  have e : l = l.take i ++ ((l.drop i).take (n - j) ++ l.drop (n - 1)) := by
    have h1 : l.drop i = (l.drop i).take (n - j) ++ (l.drop i).drop (n - j) := (List.take_append_drop _ _).symm
    have h2 : (l.drop i).drop (n - j) = l.drop (n - 1) := by rw [List.drop_drop]; congr 1; omega
    rw [h2] at h1
    rw [← h1, List.take_append_drop]
  have hb := putAt_block (ints (l.drop j)) (ints ((l.drop i).take (n - j))) (ints (l.take i)) (ints (l.drop (n - 1))) (by rw [ints_len, ints_len, List.length_drop, List.length_take, List.length_drop]; omega) i (by rw [ints_len, List.length_take]; omega)
  rw [← ints_append, ← ints_append, ← e] at hb
  rw [hb, ints_append, ints_append, List.append_assoc]

set_option maxRecDepth 100000 in
set_option maxHeartbeats 1000000 in
theorem delete1_c (g cap n i j base : Nat) (l : List Int) (w : World) (ho : w.ownsRow base 3 1 (.slice (some ⟨g, 0, none⟩) n cap) n (ints l)) (hj : j = i + 1) (hjn : j ≤ n) :
    Calls Try.prog 115 #[.slice (some ⟨g, 0, none⟩) n cap, .int .i64 i, .int .i64 j] w fun e w' => e = .returned (.slice (some ⟨g, 0, none⟩) (n - 1) cap) ∧ w'.ownsRow base 3 1 (.slice (some ⟨g, 0, none⟩) (n - 1) cap) (n - 1) (ints (l.take i ++ l.drop j)) ∧ w.grownBy w' (some g) := by
  obtain ⟨g', cap', h1, hbg, hgl, hc, hm⟩ := own_shape ho (by omega)
  injection h1 with h1 _ h2
  injection h1 with h1
  injection h1 with h1
  subst h1; subst h2
  have hll := ho.1
  rw [ints_len, Nat.mul_one] at hll
  obtain ⟨i0, hi, hz0, hz1, hz2⟩ := info_parts Try.infoInt
  have hne : ((i : Int) == (j : Int)) = false := by simp; omega
  have q0 : (0 : Int) ≤ (i : Int) := by omega
  have q1 : (i : Int) ≤ (j : Int) := by omega
  have q2 : (j : Int) ≤ (n : Int) := by omega
  have q3 : (n : Int) ≤ (cap : Int) := by omega
  have q6 : (i : Int) ≤ (cap : Int) := by omega
  have q7 : (j : Int) ≤ (cap : Int) := by omega
  have q4 : ¬ (n = i) := by omega
  have q5 : ¬ (cap = i) := by omega
  -- the cells that are moved to the left
  obtain ⟨news, hnews⟩ : ∃ news, news = ints (l.drop j) := ⟨_, rfl⟩
  have hnl : news.length = n - j := by rw [hnews, ints_len, List.length_drop, hll]
  have N1 : Hid (news.length = (n - j) * 1) := Lib.hid (by rw [hnl, Nat.mul_one])
  have N2 : Hid (∀ u ∈ news, u.oneCell' = true) := Lib.hid (by rw [hnews]; exact ints_one _)
  have hspare : ∀ t, t < news.length → (w.drew.cell? ⟨g, 0 + i * 1 + t, none⟩).isSome = true ∧ w.drew.frozen? ⟨g, 0 + i * 1 + t, none⟩ = false := by
    intro t ht
    have e : 0 + i * 1 + t = i + t := by omega
    rw [e]
    exact ⟨by rw [show w.drew.cell? ⟨g, i + t, none⟩ = w.cell? ⟨g, i + t, none⟩ from rfl, own_cell ho (by omega)]; rfl, ho.frozenAt _⟩
  have N3 := Lib.hid hspare
  obtain ⟨A, hA, hsrc⟩ : ∃ A : Addr, (if cap = j then some (⟨g, 0, none⟩ : Addr) else some ⟨g, j, none⟩) = some A ∧ Hid (∀ t u, news[t]? = some u → w.drew.cell? (A.add t) = some u) := by
    by_cases h : cap = j
    · refine ⟨⟨g, 0, none⟩, by simp [h], Lib.hid fun t u hu => ?_⟩
      have h0 : news.length = 0 := by rw [hnl]; omega
      rw [List.length_eq_zero_iff.1 h0] at hu
      simp at hu
    · refine ⟨⟨g, j, none⟩, by simp [h], Lib.hid fun t u hu => ?_⟩
      have ht : t < n - j := by have := (List.getElem?_eq_some_iff.1 hu).1; rwa [hnl] at this
      have hx : l[j + t]? = some (l[j + t]'(by omega)) := List.getElem?_eq_getElem (by omega)
      rw [hnews] at hu
      have hu2 : (ints (l.drop j))[t]? = some (.int .i64 (l[j + t]'(by omega))) := ints_get (by rw [List.getElem?_drop]; exact hx)
      rw [hu2] at hu
      rw [Addr.add_lit, ← Option.some.inj hu]
      have := own_cell ho (show j + t < n by omega)
      rw [show l.getD (j + t) 0 = l[j + t]'(by omega) by simp [List.getD, hx]] at this
      exact this
  have hroom : i + (n - j) ≤ cap := by omega
  have hnc : ¬ (cap = i + (n - j)) := by omega
  have HO := Lib.hid ho
  have HJ := Lib.hid hj
  have HLL := Lib.hid hll
  have HNW := Lib.hid hnews
  clear ho hj hll hnews hspare hnl
  go_enter Try.func115, Try.ntmps115
  go_wp2_with fail
  go_region_held3 (fun w' => w'.heap.size = w'.heap.size) (first | exact rfl | trivial) ((refine step_append_room rfl (.tmp 22) (.tmp 25) 27 (by rfl) 3 i0 1 Try.underlying27 hi hz1 g 0 i cap (by rfl) A (n - j) (cap - j) news (by first | (simp [Act.eval]; done) | (simp [Act.eval]; exact hA)) N1.out hsrc.out N2.out hroom N3.out ?_))
  generalize hW4 : World.setCells _ g _ news = w4
  have hp : putAt (ints l) (0 + i * 1) news = ints (l.take i ++ l.drop j ++ l.drop (n - 1)) := by
    rw [show 0 + i * 1 = i by omega, HNW.out]
    exact put_left HLL.out HJ.out hjn
  have ho4 : w4.ownsRow base 3 1 (.slice (some ⟨g, 0, none⟩) n cap) n (ints (l.take i ++ l.drop j ++ l.drop (n - 1))) := by
    rw [← hp, ← hW4]; exact own_setCells (own_dr HO.out) _ _
  have hg4 : w.grownBy w4 (some g) := by rw [← hW4]; exact only_setCells (gro_dr (World.grownBy.refl _ _)) _ _
  clear hW4 hp
  obtain ⟨k, hk, hk2⟩ : ∃ k, i + (n - j) = k ∧ k + 1 = n := ⟨_, rfl, by have := HJ.out; omega⟩
  rw [hk] at hnc ⊢
  have hcl : ∀ ty, (Builtin.clear_ #[27] ty #[.slice (some ⟨g, k, none⟩) (n - k) (cap - k)]).run Try.prog w4 = .ok (.tuple #[]) (w4.setCells g k (List.replicate (n - k) (.int .i64 0))) :=
    fun ty => Lib.run_clear_slice w4 27 3 ty (.int .i64 0) Try.underlying27 (fun _ => by kernel_rfl) rfl rfl g k (n - k) (cap - k) (by omega) (fun t ht => by rw [own_cell ho4 (by omega)]; rfl) (fun t ht => ho4.frozenAt _)
  have HO4 := Lib.hid ho4
  have HG4 := Lib.hid hg4
  have HK := Lib.hid hk
  have HK2 := Lib.hid hk2
  have u0 : (0 : Int) ≤ (k : Int) := by omega
  have u1 : (k : Int) ≤ (n : Int) := by omega
  have u2 : (k : Int) ≤ (cap : Int) := by omega
  clear ho4 hg4 hk hk2
  go_wp2
  go_ret
  have e1 : n - 1 = k := by have := HK2.out; omega
  rw [e1]
  refine ⟨rfl, ?_, only_setCells HG4.out _ _⟩
  have h := own_cut (own_setCells HO4.out k (List.replicate (n - k) (.int .i64 0))) (show k ≤ n by omega)
  rw [putAt_take _ _ _ _ (Nat.le_refl k)] at h
  have e2 : (ints (l.take i ++ l.drop j ++ l.drop (n - 1))).take k = ints (l.take i ++ l.drop j) := by
    rw [ints_append, List.take_left' (by rw [ints_len, List.length_append, List.length_take, List.length_drop]; have := HK.out; have := HLL.out; omega)]
  rw [e2] at h
  exact h
end Go.Proofs.Ytahehdgkbhjpoaa

namespace Go.Proofs.Ytahehdgkbhjpoaa
set_option linter.unusedVariables false
set_option linter.unusedSimpArgs false
open Go.RowKit

/-- What stands in the row when j elements have been looked at and i of them kept. -/
def DelInv (p : Int → Bool) (l d : List Int) (i j : Nat) : Prop := d.length = l.length ∧ i < j ∧ j ≤ l.length ∧ d.take i = (l.take j).filter (fun x => !p x) ∧ d.drop j = l.drop j
theorem del_start {p : Int → Bool} {l : List Int} {k : Nat} {x : Int} (h : l[k]? = some x) (hp : p x = true) (hn : ∀ y ∈ l.take k, p y = false) : DelInv p l l k (k + 1) := by
  have hk := (List.getElem?_eq_some_iff.1 h).1
  refine ⟨rfl, by omega, by omega, ?_, rfl⟩
  rw [take_succ_of h, List.filter_append]
  have e1 : (l.take k).filter (fun x => !p x) = l.take k := List.filter_eq_self.2 (fun y hy => by rw [hn y hy]; rfl)
  rw [e1]; simp [hp]
theorem del_get {p : Int → Bool} {l d : List Int} {i j : Nat} {x : Int} (h : DelInv p l d i j) (hx : l[j]? = some x) : d.getD j 0 = x := by
  have e : d[j]? = l[j]? := by
    have h1 := congrArg (fun q => q[0]?) h.2.2.2.2
    simpa [List.getElem?_drop] using h1
  simp [List.getD, e, hx]
theorem del_skip {p : Int → Bool} {l d : List Int} {i j : Nat} {x : Int} (h : DelInv p l d i j) (hx : l[j]? = some x) (hp : p x = true) : DelInv p l d i (j + 1) := by
  obtain ⟨h1, h2, h3, h4, h5⟩ := h
  have hj := (List.getElem?_eq_some_iff.1 hx).1
  refine ⟨h1, by omega, by omega, ?_, ?_⟩
  · rw [h4, take_succ_of hx, List.filter_append]; simp [hp]
  · rw [← List.drop_drop, ← List.drop_drop, h5]
theorem del_keep {p : Int → Bool} {l d : List Int} {i j : Nat} {x : Int} (h : DelInv p l d i j) (hx : l[j]? = some x) (hp : p x = false) : DelInv p l (d.set i x) (i + 1) (j + 1) := by
  obtain ⟨h1, h2, h3, h4, h5⟩ := h
  have hj := (List.getElem?_eq_some_iff.1 hx).1
  refine ⟨by simpa using h1, by omega, by omega, ?_, ?_⟩
  · have hg : (d.set i x)[i]? = some x := by simp [List.getElem?_set]; omega
    rw [take_succ_of hg, List.take_set_of_le (Nat.le_refl i), h4, take_succ_of hx, List.filter_append]; simp [hp]
  · rw [List.drop_set_of_lt (by omega), ← List.drop_drop, ← List.drop_drop, h5]
theorem del_end {p : Int → Bool} {l d : List Int} {i : Nat} (h : DelInv p l d i l.length) : d.take i = l.filter (fun x => !p x) := by
  have := h.2.2.2.1; rwa [List.take_length] at this

set_option maxRecDepth 100000 in
set_option maxHeartbeats 1000000 in
theorem deleteFunc_c (g : Nat) (lb : Array Value) (eg : ∀ args w, (callFunc g args).run Try.prog w = .ok (.enter g args) w) (p : Int → Bool) (v : Value) (n base : Nat) (l : List Int) (w : World) (hp : ∀ W, w.grownBy W v.ownBlock → Says g lb p l W) (ho : w.ownsRow base 3 1 v n (ints l)) :
    Calls Try.prog 117 #[v, .func (.func g) #[] lb] w fun e w' => ∃ v', e = .returned v' ∧ w'.ownsRow base 3 1 v' (l.filter fun x => !p x).length (ints (l.filter fun x => !p x)) ∧ w.grownBy w' v.ownBlock := by
  have hll := ho.1
  rw [ints_len, Nat.mul_one] at hll
  subst hll
  have hs := indexFunc_c g lb eg p v l w (hp w (World.grownBy.refl _ _)) (rdi_own ho)
  have HI := Lib.hid hs
  have HP := Lib.hid hp
  have HO := Lib.hid ho
  clear hs hp
  obtain ⟨kept, hkept⟩ : ∃ kept, (l.filter fun x => !p x) = kept := ⟨_, rfl⟩
  have HKE := Lib.hid hkept
  rw [hkept]
  rcases idxP_cases p l with ⟨e1, hall⟩ | ⟨k0, x0, h1, h2, h3, e1⟩
  · have e2 : kept = l := by rw [← hkept]; exact List.filter_eq_self.2 (fun y hy => by rw [hall y hy]; rfl)
    subst e2
    have HE := Lib.hid e1
    obtain ⟨A, cc, rfl, hcc, hcm, _⟩ := rdi_own ho
    clear hall hkept ho e1
    go_enter Try.func117, Try.ntmps117
    go_wp2_with fail
    refine HI.out.mono ?_; rw [HE.out]; rintro e w' ⟨rfl, rfl⟩
    go_wp2
    go_ret
    exact ⟨_, rfl, HO.out, World.grownBy.refl _ _⟩
  · have hk0 := (List.getElem?_eq_some_iff.1 h1).1
    obtain ⟨g0, cap, rfl, hbg, hgl, hc, hm⟩ := own_shape ho (by omega)
    have HE := Lib.hid e1
    have HD0 := Lib.hid (del_start h1 h2 h3)
    have hne1 : ((k0 : Int) == -1) = false := beq_eq_false_iff_ne.2 (by omega)
    have q0 : (0 : Int) ≤ (k0 : Int) := by omega
    clear h1 h2 h3 e1 ho hkept
    go_enter Try.func117, Try.ntmps117
    go_wp2_with fail
    refine HI.out.mono ?_; rw [HE.out]; rintro e w' ⟨rfl, rfl⟩
    clear HI
    go_wp2_with fail
    go_loopw [5, 6] (fun v5 v6 wr => ∃ (i j : Nat) (d : List Int), v5 = .int .i64 i ∧ v6 = .int .i64 j ∧ i < j ∧ j ≤ l.length ∧ Hid (DelInv p l d i j) ∧ Hid (wr.ownsRow base 3 1 (.slice (some ⟨g0, 0, none⟩) l.length cap) l.length (ints d)) ∧ Hid (w.grownBy wr (some g0))) (fun _ v6 _ => l.length - (intOf v6).toNat)
    case atStart => exact ⟨k0, k0 + 1, l, rfl, by go_num, by omega, by omega, HD0, HO, Lib.hid (World.grownBy.refl _ _)⟩
    case round =>
      obtain ⟨i, j, d, rfl, rfl, hij, hjl, HD, HOD, HGR⟩ := hrel
      obtain ⟨wA, rfl⟩ : ∃ wA : World, wA = wr := ⟨_, rfl⟩
      have i0 : (0 : Int) ≤ (i : Int) := by omega
      have i1 : (i : Int) < (l.length : Int) := by omega
      by_cases hlt : j < l.length
      · obtain ⟨x, hx⟩ : ∃ x, l[j]? = some x := ⟨_, List.getElem?_eq_getElem hlt⟩
        have cj := own_cell HOD.out hlt
        rw [del_get HD.out hx] at cj
        have ci := own_cell HOD.out (show i < l.length by omega)
        have fi := HOD.out.frozenAt i
        obtain ⟨o, ho⟩ : ∃ o, d.getD i 0 = o := ⟨_, rfl⟩
        rw [ho] at ci
        have HX := Lib.hid hx
        have hcall := HP.out wA HGR.out x (List.mem_of_getElem? hx)
        clear hx ho
        by_cases hpx : p x = true
        · rw [hpx] at hcall
          have HD' := Lib.hid (del_skip HD.out HX.out hpx)
          clear hpx
          go_wp2_with fail
          refine hcall.mono ?_; rintro e w' ⟨rfl, rfl⟩
          go_wp2
          exact ⟨⟨i, j + 1, d, rfl, by go_num, by omega, by omega, HD', HOD, HGR⟩, by simp [intOf]; omega⟩
        · have hpx' : p x = false := by simpa using hpx
          rw [hpx'] at hcall
          have HD' := Lib.hid (del_keep HD.out HX.out hpx')
          clear hpx hpx'
          go_wp2_with fail
          refine hcall.mono ?_; rintro e w' ⟨rfl, rfl⟩
          go_wp2
          exact ⟨⟨i + 1, j + 1, _, by go_num, by go_num, by omega, by omega, HD', Lib.hid (own_setI HOD.out i x), Lib.hid (only_setCell HGR.out i _)⟩, by simp [intOf]; omega⟩
      · obtain rfl : j = l.length := by omega
        have hde := del_end HD.out
        have hcl : ∀ ty, (Builtin.clear_ #[27] ty #[.slice (some ⟨g0, i, none⟩) (l.length - i) (cap - i)]).run Try.prog wA = .ok (.tuple #[]) (wA.setCells g0 i (List.replicate (l.length - i) (.int .i64 0))) :=
          fun ty => Lib.run_clear_slice wA 27 3 ty (.int .i64 0) Try.underlying27 (fun _ => by kernel_rfl) rfl rfl g0 i (l.length - i) (cap - i) (by omega) (fun t ht => by rw [own_cell HOD.out (by omega)]; rfl) (fun t ht => HOD.out.frozenAt _)
        have u1 : (i : Int) ≤ (l.length : Int) := by omega
        have u2 : (i : Int) ≤ (cap : Int) := by omega
        have u3 : ¬ (cap = i) := by omega
        have HDE := Lib.hid hde
        clear hde
        go_wp2
        go_ret
        refine ⟨_, rfl, ?_, only_setCells HGR.out _ _⟩
        have h := own_cut (own_setCells HOD.out i (List.replicate (l.length - i) (.int .i64 0))) (show i ≤ l.length by omega)
        rw [putAt_take _ _ _ _ (Nat.le_refl i)] at h
        have e2 : (ints d).take i = ints kept := by unfold ints; rw [← List.map_take, HDE.out, HKE.out]
        have e3 : kept.length = i := by rw [← HKE.out, ← HDE.out, List.length_take]; have := HD.out.1; omega
        rw [e2] at h
        rw [e3]
        exact h
end Go.Proofs.Ytahehdgkbhjpoaa
