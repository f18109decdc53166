/-
  A row of rows that the library has sorted: words.
-/
import Derived.Test.YtbjiipicbcamnaaCmpL
import Derived.Test.YtbjiipicbcamnaaSS
import Derived.Sort.OwnSortedInts
import Derived.Shelf.SlSortCmp.NoneTotal
namespace Go.Proofs.Ytbjiipicbcamnaa
open Go.RowKit Go.Sort Go.Shelf

section
variable {α : Type} [Inhabited α] {enc : α → Value}
theorem holds_of_blockG {w : World} {g : Nat} {cur : Array Value} {e : TypeId} {d : Array α} (hb : w.heap[g]? = some (.cells cur e (0, 0))) (ht : cur.toList.take d.size = d.toList.map enc) : Holds enc w g 0 d := by
  intro j hj
  refine ⟨?_, by simp [World.frozen?, hb]⟩
  have h1 : (cur.toList.take d.size)[j]? = (d.toList.map enc)[j]? := by rw [ht]
  rw [List.getElem?_take_of_lt hj] at h1
  simp only [World.cell?, hb, Nat.zero_add]
  simp only [Option.isSome_none, Bool.false_eq_true, if_false]
  rw [← Array.getElem?_toList, h1]
  simp [hj]
theorem heap_sortedG {w : World} {g n : Nat} {os : Array Obj} {cur : Array Value} {e : TypeId} {fr : Nat × Nat} (d : Array α) (hb : w.heap[g]? = some (.cells cur e fr)) :
    (sortWorld enc w g 0 n d os).heap[g]? = some (.cells (putCells enc 0 d cur) e fr) := by
  have hg : g < w.heap.size := (Array.getElem?_eq_some_iff.1 hb).1
  unfold sortWorld
  rw [heap_grow_old _ _ (by simpa using hg)]
  simp [putRow, mapBlock, Sort.ahead, Array.getElem?_modify, hb, onCells]
theorem grownBy_sortedG {w : World} {g n : Nat} {os : Array Obj} (d : Array α) : w.grownBy (sortWorld enc w g 0 n d os) (some g) := by
  unfold sortWorld
  refine ⟨rfl, rfl, rfl, by simp, fun k hk hne => ?_⟩
  rw [heap_grow_old _ _ (by simpa using hk)]
  have : g ≠ k := fun e => hne (by rw [e])
  simp [putRow, mapBlock, Sort.ahead, Array.getElem?_modify, this]
theorem take_putCellsG (cur : Array Value) (d : Array α) (h : d.size ≤ cur.size) : (putCells enc 0 d cur).toList.take d.size = d.toList.map enc := by
  apply List.ext_getElem?
  intro j
  by_cases hj : j < d.size
  · rw [List.getElem?_take_of_lt hj, Array.getElem?_toList]
    simp [putCells, hj, show j < cur.size by omega]
  · rw [List.getElem?_take_eq_none (by omega), List.getElem?_eq_none (by simp; omega)]
theorem ownsRow_sortedG {w : World} {base g cap n m : Nat} {e : TypeId} {os : Array Obj} {cur : Array Value} (d : Array α) (hl : d.size = m) (hbase : base ≤ g) (hb : w.heap[g]? = some (.cells cur e (0, 0)))
    (h1 : m ≤ cap) (h2 : cap ≤ maxLen) (h3 : cur.size = cap * 1) :
    (sortWorld enc w g 0 n d os).ownsRow base e 1 (.slice (some ⟨g, 0, none⟩) m cap) m (d.toList.map enc) :=
  ⟨by simp [hl], .inr ⟨g, cap, _, rfl, hbase, heap_sortedG _ hb, h1, h2, by simp [putCells, h3], by rw [Nat.mul_one, ← hl]; exact take_putCellsG cur d (by omega)⟩⟩
end

/-- What a sort of rows needs of the library's contract: it is laid elsewhere. -/
theorem own_one {w : World} {base : Nat} {e : TypeId} {sz : Nat} {v : Value} {n : Nat} {xs : List Value} (h : w.ownsRow base e sz v n xs) : v.oneCell' = true := by
  rcases h.2 with ⟨rfl, _⟩ | ⟨_, _, _, rfl, _⟩ <;> rfl

def encF {N : Nat} (vs : List Value) (hv : vs.length = N) (i : Fin N) : Value := vs[i.1]'(hv ▸ i.2)
def llF {N : Nat} (ls : List (List Int)) (hl : ls.length = N) (i : Fin N) : List Int := ls[i.1]'(hl ▸ i.2)
theorem encF_get {N : Nat} (vs : List Value) (hv : vs.length = N) (i : Fin N) : vs[i.1]? = some (encF vs hv i) := List.getElem?_eq_getElem _
theorem map_encF {N : Nat} (vs : List Value) (hv : vs.length = N) : (List.finRange N).map (encF vs hv) = vs := by
  apply List.ext_getElem (by simp [hv])
  intro i h1 h2
  simp [encF]
section
variable {N : Nat} (ls : List (List Int)) (hl : ls.length = N)
theorem llF_get (i : Fin N) : ls[i.1]? = some (llF ls hl i) := List.getElem?_eq_getElem _
theorem map_llF : (List.finRange N).map (llF ls hl) = ls := by
  apply List.ext_getElem (by simp [hl])
  intro i h1 h2
  simp [llF]
theorem llF_inj (hn : ls.Nodup) (i j : Fin N) (h : llF ls hl i = llF ls hl j) : i = j := by
  have e : ls[i.1]? = ls[j.1]? := by rw [llF_get ls hl i, llF_get ls hl j, h]
  exact Fin.ext ((List.getElem?_inj (hl ▸ i.2) hn).1 e)
def cfF (i j : Fin N) : Int := cmpL (llF ls hl i) (llF ls hl j)
theorem ltF (i j : Fin N) : ltOf (cfF ls hl) i j = true ↔ cmpL (llF ls hl i) (llF ls hl j) < 0 := by unfold ltOf cfF; rw [decide_eq_true_iff]
theorem ltF' (i j : Fin N) : ltOf (cfF ls hl) i j = false ↔ 0 ≤ cmpL (llF ls hl i) (llF ls hl j) := by unfold ltOf cfF; rw [decide_eq_false_iff_not]; omega
theorem cmpL_ntrans (a b c : List Int) (h1 : 0 ≤ cmpL a b) (h2 : 0 ≤ cmpL b c) : 0 ≤ cmpL a c := by
  have a1 := cmpL_anti a b; have a2 := cmpL_anti b c; have a3 := cmpL_anti a c
  by_cases e1 : cmpL a b = 0
  · rw [cmpL_zero _ _ e1]; exact h2
  by_cases e2 : cmpL b c = 0
  · rw [← cmpL_zero _ _ e2]; exact h1
  have := cmpL_trans c b a (by omega) (by omega)
  omega
theorem swoF : SWO (ltOf (cfF ls hl)) where
  irrefl x := by rw [ltF']; rw [cmpL_self]; omega
  trans x y z h1 h2 := by rw [ltF] at *; exact cmpL_trans _ _ _ h1 h2
  ntrans x y z h1 h2 := by rw [ltF'] at *; exact cmpL_ntrans _ _ _ h1 h2
theorem totF (hn : ls.Nodup) (x y : Fin N) (h1 : ltOf (cfF ls hl) x y = false) (h2 : ltOf (cfF ls hl) y x = false) : x = y := by
  rw [ltF'] at h1 h2
  have a1 := cmpL_anti (llF ls hl x) (llF ls hl y)
  exact llF_inj ls hl hn x y (cmpL_zero _ _ (by omega))
theorem sortedF (hn : ls.Nodup) (S : List (List Int)) (hm : ∀ x, x ∈ S ↔ x ∈ ls) (hS : S.Pairwise fun a b => cmpL a b < 0) :
    ((List.finRange N).mergeSort fun x y => !(ltOf (cfF ls hl)) y x).map (llF ls hl) = S := by
  have hp := List.mergeSort_perm (List.finRange N) (fun x y => !(ltOf (cfF ls hl)) y x)
  have hs := List.pairwise_mergeSort (le := fun x y : Fin N => !(ltOf (cfF ls hl)) y x) (fun a b c h1 h2 => by
      simp only [Bool.not_eq_true'] at *
      exact (swoF ls hl).ntrans c b a h2 h1) (fun a b => by
      cases h : ltOf (cfF ls hl) b a
      · rfl
      · have k := (ltF ls hl b a).1 h
        have a1 := cmpL_anti (llF ls hl a) (llF ls hl b)
        have : ltOf (cfF ls hl) a b = false := by rw [ltF']; omega
        rw [this]; rfl) (List.finRange N)
  have hd := hp.symm.nodup (List.nodup_finRange N)
  refine rise_eq (fun a b => cmpL a b < 0) (fun a h => by rw [cmpL_self] at h; omega) (fun a b h k => by have := cmpL_anti a b; omega) _ _ ?_ hS (fun x => ?_)
  · rw [List.pairwise_map]
    refine (hs.and hd).imp fun {a b} h => ?_
    have h1 := h.1
    simp only [Bool.not_eq_true'] at h1
    rw [ltF'] at h1
    have a1 := cmpL_anti (llF ls hl a) (llF ls hl b)
    have : cmpL (llF ls hl a) (llF ls hl b) ≠ 0 := fun e => h.2 (llF_inj ls hl hn _ _ (cmpL_zero _ _ e))
    omega
  · rw [hm, show x ∈ ls ↔ x ∈ (List.finRange N).map (llF ls hl) by rw [map_llF ls hl]]
    exact ((hp.map (llF ls hl)).mem_iff)
end
end Go.Proofs.Ytbjiipicbcamnaa
