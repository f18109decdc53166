/-
  Plain laws of FnAppliances: a changed one has its state and may have it; a moved one stands where it was sent; a crew that is given back is as it was; a text gives its fleet. (joined by pack.py: ApLaw)
-/
import Derived.Test.YtgcdgcidjjdhmaaGreatDoorK32
import Derived.Test.YtgcdgcidjjdhmaaGreatDoorK37
import Derived.Test.YtgcdgcidjjdhmaaGreatDoorK38
namespace Go.Proofs.YtgcdgcidjjdhmaaGreatDoor
set_option linter.unusedVariables false
set_option linter.unusedSimpArgs false
open Go.RowKit

theorem nm_at {f g : List Ap} (h : f.map (·.nm) = g.map (·.nm)) {i : Nat} {y : Ap} (hy : g[i]? = some y) : ∃ x, f[i]? = some x ∧ x.nm = y.nm := by
  have e := congrArg (fun l : List ByteArray => l[i]?) h
  simp only [List.getElem?_map, hy, Option.map_some] at e
  exact Option.map_eq_some_iff.1 e
theorem good_names {f g : List Ap} (hf : goodFl f = true) (h : f.map (·.nm) = g.map (·.nm)) (hg : ∀ y ∈ g, goodAp y = true) : goodFl g = true := by
  have hl : f.length = g.length := by have := congrArg List.length h; simpa using this
  unfold goodFl at hf ⊢
  simp only [Bool.and_eq_true, decide_eq_true_eq, List.all_eq_true, List.mem_range] at hf ⊢
  refine ⟨by omega, fun i hi => ?_⟩
  have h2 := hf.2 i (by omega)
  have hy : g[i]? = some g[i] := List.getElem?_eq_getElem hi
  have hgood := hg g[i] (List.getElem_mem hi)
  generalize g[i] = y at hy hgood
  obtain ⟨x, hx, hxy⟩ := nm_at h hy
  unfold okAp at h2 ⊢
  rw [hx] at h2
  rw [hy]
  simp only [Bool.and_eq_true] at h2 ⊢
  refine ⟨hgood, ?_⟩
  cases hp : g[i - 1]? with
  | none => simp
  | some p =>
    obtain ⟨q, hq, hqp⟩ := nm_at h hp
    have h3 := h2.2
    rw [hq] at h3
    dsimp only at h3 ⊢
    rw [hqp, hxy] at h3
    exact h3
theorem find_names (nm : ByteArray) : ∀ {f g : List Ap}, f.map (·.nm) = g.map (·.nm) → findA nm f = findA nm g
  | [], [], _ => rfl
  | [], _ :: _, h => by cases h
  | _ :: _, [], h => by cases h
  | x :: f, y :: g, h => by
    rw [List.map_cons, List.map_cons] at h
    injection h with h1 h2
    have ih := find_names nm (f := f) (g := g) h2
    unfold findA at ih ⊢
    simp only [idxG]
    rw [ih]
    simp only [h1]
theorem names_set {f : List Ap} {i : Nat} {a b : Ap} (ha : f[i]? = some a) (hb : b.nm = a.nm) : f.map (·.nm) = (f.set i b).map (·.nm) := by
  rw [List.map_set, hb]
  apply List.ext_getElem?
  intro j
  rw [List.getElem?_set]
  by_cases hj : i = j
  · subst hj
    have hl := (List.getElem?_eq_some_iff.1 ha).1
    rw [if_pos rfl, if_pos (by simpa using hl), List.getElem?_map, ha]
    rfl
  · rw [if_neg hj]
theorem mem_set_good {f : List Ap} {i : Nat} {b : Ap} (hf : ∀ y ∈ f, goodAp y = true) (hb : goodAp b = true) : ∀ y ∈ f.set i b, goodAp y = true := by
  intro y hy
  rcases List.mem_or_eq_of_mem_set hy with h | h
  · exact hf y h
  · rw [h]; exact hb
theorem findV_of {nm : ByteArray} {f : List Ap} {i : Nat} (hg : goodFl f = true) (hi : findA nm f = (i : Int)) : findV nm f = ((i : Int), true) := by
  unfold findV
  rw [hi, if_pos ⟨hg, by omega⟩]
theorem goodAp_st {a : Ap} {s : Int} (h : goodAp a = true) (hs : inB s 0 5 = true) : goodAp (stAp a s) = true := by
  unfold goodAp at h ⊢
  simp only [Bool.and_eq_true] at h ⊢
  exact ⟨h.1, hs⟩
theorem goodAp_nd {a : Ap} {n : Int} (h : goodAp a = true) (hn : inB n 0 13 = true) : goodAp (ndAp a n) = true := by
  unfold goodAp at h ⊢
  simp only [Bool.and_eq_true] at h ⊢
  exact ⟨⟨⟨⟨h.1.1.1.1, h.1.1.1.2⟩, hn⟩, h.1.2⟩, h.2⟩
theorem goodAp_sv {a : Ap} (h : goodAp a = true) : inB a.sv 0 5 = true := by
  unfold goodAp at h
  simp only [Bool.and_eq_true] at h
  exact h.2
/-- A changed one. -/
theorem ch_law {nm : ByteArray} {s : Int} {f : List Ap} (h : (chV nm s f).2 = true) : ∃ (i : Nat) (a : Ap), findV nm f = ((i : Int), true) ∧ f[i]? = some a ∧ (chV nm s f).1[i]? = some (stAp a s) ∧ inB a.sv 0 5 = true ∧ inB s 0 5 = true ∧ mayB a.sv s = true ∧ goodFl (chV nm s f).1 = true := by
  by_cases hc : goodFl f = true ∧ 0 ≤ findA nm f ∧ inB s 0 5 = true ∧ mayB (f.getD (findA nm f).toNat ap0).sv s = true
  · obtain ⟨hg, h0, hs, hm⟩ := hc
    obtain ⟨i, hi⟩ := Int.eq_ofNat_of_zero_le h0
    obtain ⟨a, ha, -, hl⟩ := find_some hi
    rw [hi, Int.toNat_natCast, show f.getD i ap0 = a by simp [List.getD, ha]] at hm
    have e := chV_yes hg hi ha hs hm
    have hga := (goodFl_true hg).2 a (List.mem_of_getElem? ha)
    refine ⟨i, a, findV_of hg hi, ha, ?_, goodAp_sv hga, hs, hm, ?_⟩
    · rw [e, List.getElem?_set_self hl]
    · rw [e]
      exact good_names hg (names_set ha rfl) (mem_set_good (goodFl_true hg).2 (goodAp_st hga hs))
  · unfold chV at h
    rw [if_neg hc] at h
    cases h
/-- A moved one. -/
theorem mv_law {nm : ByteArray} {n : Int} {f : List Ap} (h : (mvV nm n f).2 = true) : ∃ (i : Nat) (a : Ap), findV nm (mvV nm n f).1 = ((i : Int), true) ∧ f[i]? = some a ∧ (mvV nm n f).1[i]? = some (ndAp a n) ∧ goodFl (mvV nm n f).1 = true := by
  by_cases hc : goodFl f = true ∧ 0 ≤ findA nm f ∧ inB n 0 13 = true ∧ ((f.getD (findA nm f).toNat ap0).sv = 2 ∨ (f.getD (findA nm f).toNat ap0).sv = 4)
  · obtain ⟨hg, h0, hs, hm⟩ := hc
    obtain ⟨i, hi⟩ := Int.eq_ofNat_of_zero_le h0
    obtain ⟨a, ha, -, hl⟩ := find_some hi
    rw [hi, Int.toNat_natCast, show f.getD i ap0 = a by simp [List.getD, ha]] at hm
    have e := mvV_yes hg hi ha hs hm
    have hga := (goodFl_true hg).2 a (List.mem_of_getElem? ha)
    have hn := names_set (b := ndAp a n) ha rfl
    have hgg := good_names hg hn (mem_set_good (goodFl_true hg).2 (goodAp_nd hga hs))
    refine ⟨i, a, ?_, ha, ?_, ?_⟩
    · rw [e]
      exact findV_of hgg (by rw [← find_names nm hn]; exact hi)
    · rw [e, List.getElem?_set_self hl]
    · rw [e]
      exact hgg
  · unfold mvV at h
    rw [if_neg hc] at h
    cases h
theorem set_self {f : List Ap} {i : Nat} {a : Ap} (ha : f[i]? = some a) : f.set i a = f := by
  apply List.ext_getElem?
  intro j
  rw [List.getElem?_set]
  by_cases hj : i = j
  · subst hj
    rw [if_pos rfl, if_pos (List.getElem?_eq_some_iff.1 ha).1, ha]
  · rw [if_neg hj]
/-- A crew that is given back. -/
theorem sh_law {nm nm' : ByteArray} {n : Int} {f : List Ap} (h : (shV nm nm' n f).2 = true) : shV nm' nm n (shV nm nm' n f).1 = (f, true) ∧ goodFl (shV nm nm' n f).1 = true := by
  by_cases hc : goodFl f = true ∧ 0 ≤ findA nm f ∧ 0 ≤ findA nm' f ∧ findA nm f ≠ findA nm' f ∧ inB n 1 8 = true ∧ (f.getD (findA nm f).toNat ap0).nd = (f.getD (findA nm' f).toNat ap0).nd ∧ goodFl (shF (findA nm f).toNat (findA nm' f).toNat (f.getD (findA nm f).toNat ap0) (f.getD (findA nm' f).toNat ap0) n f) = true
  · obtain ⟨hg, h0, h1, hne, hn, hnd, hgg⟩ := hc
    obtain ⟨i, hi⟩ := Int.eq_ofNat_of_zero_le h0
    obtain ⟨k, hk⟩ := Int.eq_ofNat_of_zero_le h1
    obtain ⟨a, ha, -, hil⟩ := find_some hi
    obtain ⟨b, hb, -, hkl⟩ := find_some hk
    have hik : i ≠ k := fun e => hne (by rw [hi, hk, e])
    rw [hi, hk, Int.toNat_natCast, Int.toNat_natCast, show f.getD i ap0 = a by simp [List.getD, ha], show f.getD k ap0 = b by simp [List.getD, hb]] at hnd hgg
    have e := shV_yes hg hi ha hk hb hik hn hnd hgg
    rw [e]
    refine ⟨?_, hgg⟩
    dsimp only
    have hb1 : (f.set i (crAp a (a.cr - n)))[k]? = some b := by rw [List.getElem?_set_ne hik]; exact hb
    have hnm : f.map (·.nm) = (shF i k a b n f).map (·.nm) := (names_set (b := crAp a (a.cr - n)) ha rfl).trans (names_set (b := crAp b (b.cr + n)) hb1 rfl)
    have hGk : (shF i k a b n f)[k]? = some (crAp b (b.cr + n)) := by
      unfold shF
      rw [List.getElem?_set_self (by rw [List.length_set]; exact hkl)]
    have hGi : (shF i k a b n f)[i]? = some (crAp a (a.cr - n)) := by
      unfold shF
      rw [List.getElem?_set_ne (Ne.symm hik), List.getElem?_set_self hil]
    have hback : shF k i (crAp b (b.cr + n)) (crAp a (a.cr - n)) n (shF i k a b n f) = f := by
      have ea : crAp (crAp a (a.cr - n)) ((crAp a (a.cr - n)).cr + n) = a := by
        obtain ⟨nm, kd, nd, cr, sv⟩ := a
        show (⟨nm, kd, nd, cr - n + n, sv⟩ : Ap) = _
        congr 1
        omega
      have eb : crAp (crAp b (b.cr + n)) ((crAp b (b.cr + n)).cr - n) = b := by
        obtain ⟨nm, kd, nd, cr, sv⟩ := b
        show (⟨nm, kd, nd, cr + n - n, sv⟩ : Ap) = _
        congr 1
        omega
      unfold shF
      rw [ea, eb, List.set_set, List.set_comm _ _ (Ne.symm hik), List.set_set, set_self ha, set_self hb]
    have hgood : goodFl (shF k i (crAp b (b.cr + n)) (crAp a (a.cr - n)) n (shF i k a b n f)) = true := by rw [hback]; exact hg
    rw [shV_yes hgg (by rw [← find_names nm' hnm]; exact hk) hGk (by rw [← find_names nm hnm]; exact hi) hGi (Ne.symm hik) hn (by exact hnd.symm) hgood, hback]
  · unfold shV at h
    rw [if_neg hc] at h
    cases h
/-- A text gives its fleet. -/
theorem text_law {x : List Ap} (h : (fleetTextV x).2 = true) : parI (fleetTextV x).1 = (x, true) := by
  unfold fleetTextV at h ⊢
  by_cases hg : goodFl x = true
  · rw [if_pos hg]
    exact parI_of hg
  · rw [if_neg hg] at h
    cases h
theorem text_ok (x : List Ap) : (fleetTextV x).2 = goodFl x := by
  unfold fleetTextV
  cases goodFl x <;> rfl
theorem text_size (x : List Ap) : (fleetTextV x).1.size ≤ 1000 := by
  unfold fleetTextV
  by_cases hg : goodFl x = true
  · rw [if_pos hg]
    have h1 := goodFl_true hg
    have h2 := flT_size (l := x) (fun a ha => (goodAp_true (h1.2 a ha)).1) x.length
    have := h1.1
    dsimp only
    omega
  · rw [if_neg hg]
    decide
end Go.Proofs.YtgcdgcidjjdhmaaGreatDoor
