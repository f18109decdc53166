/-
  What a law's arguments look like: out of the reading of an argument as data the cells that its walk reads. (joined by pack.py: Open)
-/
import Derived.Test.YtgcdgcidjjdhmaaGreatDoorK1
import Derived.Test.YtgcdgcidjjdhmaaGreatDoorRows
import Derived.ProofKit
import Derived.OpenShut
import Derived.Deep.Slices
import Derived.Deep.Fields
import Derived.ChangeSame
namespace Go.Proofs.YtgcdgcidjjdhmaaGreatDoor
set_option linter.unusedVariables false
set_option linter.unusedSimpArgs false
open Go.RowKit Go.ChangeShapes Go.WideShapes Go.Deep

section
variable {H : Type} {enc : TypeId × Value → H} {P : Program} {w : World} {spare : Nat → Bool} {held : Bool}

theorem add_add' (a : Addr) (i j : Nat) : (a.add i).add j = a.add (i + j) := by
  unfold Addr.add
  by_cases hi : i = 0 <;> by_cases hj : j = 0 <;> simp [hi, hj, Nat.add_assoc]

/-- A slice that came in: its rows of cells, one an element, each read as its type. -/
theorem open_rows {t e : TypeId} {fuel sz : Nat} {cs : List Value} {x : DataW H × List MemPlace} (ht : P.underlying t = some (.slice e)) (hC : P.cellsOf e = sz) (hp : 0 < sz) (h : DataW.trod enc P w 0 spare held fuel t cs = some x) :
    ∃ (v : Value) (rows : List (List Value)), cs = [v] ∧ (∀ r ∈ rows, r.length = sz ∧ ∃ n y, DataW.trod enc P w 0 spare held n e r = some y) ∧ Rd w v rows.length rows.flatten := by
  rcases open_slice ht h with ⟨rfl, _⟩ | ⟨a, len, cap, m, n, D, Pl, rfl, hb, hl, hm, hmm, rfl, hx⟩
  · exact ⟨_, [], rfl, by simp, none, 0, rfl, Nat.le_refl _, Nat.zero_le _, fun h => absurd h (by simp)⟩
  · have hlm : len ≤ m := by subst hmm; split <;> omega
    have hex : ∀ i, i < len → ∃ r, w.cells? 0 (a.add (i * sz)) sz = some r ∧ ∃ y, DataW.trod enc P w 0 spare held n e r = some y := fun i hi => by
      obtain ⟨r, h1, h2⟩ := hx i (by omega)
      rw [hC] at h1
      exact ⟨r, h1, _, h2⟩
    let f : Nat → List Value := fun i => (w.cells? 0 (a.add (i * sz)) sz).getD []
    have hf : ∀ i, i < len → w.cells? 0 (a.add (i * sz)) sz = some (f i) := fun i hi => by
      obtain ⟨r, h1, _⟩ := hex i hi
      simp [f, h1]
    have hlen : ∀ i, i < len → (f i).length = sz := fun i hi => (World.cells?_some (hf i hi)).2.1
    have hcell : ∀ i, i < len → ∀ j u, (f i)[j]? = some u → w.cell? (a.add (i * sz + j)) = some u := fun i hi j u hu => by
      have hj : j < sz := by have := (List.getElem?_eq_some_iff.1 hu).1; rw [hlen i hi] at this; exact this
      have := (World.cells?_some (hf i hi)).2.2 j hj
      rw [add_add'] at this
      rw [this]; exact hu
    refine ⟨_, (List.range len).map f, rfl, ?_, some a, cap, by simp, by simpa using hl, hm, fun hn => ?_⟩
    · intro r hr
      obtain ⟨i, hi, rfl⟩ := List.mem_map.1 hr
      have hi' : i < len := by simpa using hi
      obtain ⟨r', h1, y, h2⟩ := hex i hi'
      have e : r' = f i := by have := hf i hi'; rw [h1] at this; exact Option.some.inj this
      exact ⟨hlen i hi', n, y, by rw [← e]; exact h2⟩
    · have hn' : 0 < len := by simpa using hn
      have h0 : (f 0).length = sz := hlen 0 hn'
      have hc0 := hcell 0 hn' 0 ((f 0)[0]'(by omega)) (List.getElem?_eq_getElem (by omega))
      have hspot : a.spot = none := by
        have := World.cell?_spot hc0
        simpa [Addr.add] using this
      obtain ⟨b, off, spot⟩ := a
      subst hspot
      refine ⟨b, off, rfl, ?_, fun j u hu => ?_⟩
      · have := World.block_lt_of_cell? w _ hc0
        simpa [Addr.add] using this
      · have key : ∀ (k : Nat), k ≤ len → ∀ j u, (((List.range len).map f).take k).flatten[j]? = some u → ∃ i q, i < k ∧ j = i * sz + q ∧ (f i)[q]? = some u := by
          intro k
          induction k with
          | zero => intro _ j u h; simp at h
          | succ k ih =>
            intro hk j u h
            have hg : ((List.range len).map f)[k]? = some (f k) := by simp [show k < len by omega]
            rw [List.take_add_one, hg, List.flatten_append] at h
            have hl2 : ((((List.range len).map f).take k).flatten).length = k * sz := by
              have : ∀ q, q ≤ len → ((((List.range len).map f).take q).flatten).length = q * sz := by
                intro q
                induction q with
                | zero => intro _; simp
                | succ q ihq =>
                  intro hq
                  have hgq : ((List.range len).map f)[q]? = some (f q) := by simp [show q < len by omega]
                  rw [List.take_add_one, hgq, List.flatten_append, List.length_append, ihq (by omega), Nat.add_one_mul]
                  simp [hlen q (by omega)]
              exact this k (by omega)
            by_cases hj : j < k * sz
            · rw [List.getElem?_append_left (by rw [hl2]; exact hj)] at h
              obtain ⟨i, q, hi, e1, e2⟩ := ih (by omega) j u h
              exact ⟨i, q, by omega, e1, e2⟩
            · rw [List.getElem?_append_right (by rw [hl2]; omega), hl2] at h
              refine ⟨k, j - k * sz, by omega, by omega, ?_⟩
              simpa using h
        have hfull : ((List.range len).map f).take len = (List.range len).map f := List.take_of_length_le (by simp)
        obtain ⟨i, q, hi, e1, e2⟩ := key len (Nat.le_refl _) j u (by rw [hfull]; exact hu)
        have := hcell i hi q u e2
        rw [← e1, Addr.add_lit] at this
        exact this

/-- A struct of one-cell fields: each field's cell, read as its type. -/
theorem decode_struct {e : TypeId} {fs : Array Field} {fuel : Nat} {cs : List Value} {x : DataW H × List MemPlace} (hs : P.underlying e = some (.struct fs)) (hone : oneCellFields P fs = true) (hC : P.cellsOf e = fs.size)
    (h : DataW.trod enc P w 0 spare held fuel e cs = some x) :
    cs.length = fs.size ∧ ∃ n, ∀ (i : Nat) (f : Field), fs[i]? = some f → ∃ v y, cs[i]? = some v ∧ DataW.trod enc P w 0 spare held n f.type [v] = some y := by
  obtain ⟨xs, n, _, _, hlen, hxl, hf⟩ := DataW.trod_struct hs h
  rw [hC] at hlen
  refine ⟨hlen, n, fun i f hi => ?_⟩
  obtain ⟨ho, hk⟩ := hone_of hone i f hi
  have hil : i < fs.size := (Array.getElem?_eq_some_iff.1 hi).1
  have h1 := hf i f hi
  rw [ho, hk] at h1
  have hone' : (cs.drop i).take 1 = [cs[i]'(by omega)] := by
    rw [List.drop_eq_getElem_cons (by omega)]; rfl
  rw [hone'] at h1
  refine ⟨_, _, List.getElem?_eq_getElem (by omega), h1.trans (List.getElem?_eq_getElem (by omega))⟩

theorem list_of_rows {α : Type} {f : α → List Value} : ∀ (rows : List (List Value)), (∀ r ∈ rows, ∃ x : α, r = f x) → ∃ l : List α, l.length = rows.length ∧ rows.flatten = l.flatMap f := by
  intro rows
  induction rows with
  | nil => intro _; exact ⟨[], rfl, rfl⟩
  | cons r rows ih =>
    intro h
    obtain ⟨x, rfl⟩ := h r (by simp)
    obtain ⟨l, h1, h2⟩ := ih fun r hr => h r (by simp [hr])
    exact ⟨x :: l, by simp [h1], by simp [h2]⟩

theorem list4 {cs : List Value} {a b c d : Value} (h : cs.length = 4) (h0 : cs[0]? = some a) (h1 : cs[1]? = some b) (h2 : cs[2]? = some c) (h3 : cs[3]? = some d) : cs = [a, b, c, d] := by
  match cs, h with
  | [x, y, z, u], _ => simp at h0 h1 h2 h3; simp [h0, h1, h2, h3]
theorem list5 {cs : List Value} {a b c d f : Value} (h : cs.length = 5) (h0 : cs[0]? = some a) (h1 : cs[1]? = some b) (h2 : cs[2]? = some c) (h3 : cs[3]? = some d) (h4 : cs[4]? = some f) : cs = [a, b, c, d, f] := by
  match cs, h with
  | [x, y, z, u, v], _ => simp at h0 h1 h2 h3 h4; simp [h0, h1, h2, h3, h4]
theorem list3 {cs : List Value} {a b c : Value} (h : cs.length = 3) (h0 : cs[0]? = some a) (h1 : cs[1]? = some b) (h2 : cs[2]? = some c) : cs = [a, b, c] := by
  match cs, h with
  | [x, y, z], _ => simp at h0 h1 h2; simp [h0, h1, h2]
theorem list2 {cs : List Value} {a b : Value} (h : cs.length = 2) (h0 : cs[0]? = some a) (h1 : cs[1]? = some b) : cs = [a, b] := by
  match cs, h with
  | [x, y], _ => simp at h0 h1; simp [h0, h1]

theorem one_int {k : IntKind} {t : TypeId} {n : Nat} {v : Value} {y : DataW H × List MemPlace} (ht : P.underlying t = some (.int k)) (h : DataW.trod enc P w 0 spare held n t [v] = some y) : ∃ q, v = .int k q ∧ (Lit.int k q).wf = true := by
  obtain ⟨q, h1, _, h2⟩ := DataW.trod_int ht h
  exact ⟨q, by simpa using h1, h2⟩
theorem one_string {t : TypeId} {n : Nat} {v : Value} {y : DataW H × List MemPlace} (ht : P.underlying t = some .string) (h : DataW.trod enc P w 0 spare held n t [v] = some y) : ∃ s : ByteArray, v = .string s ∧ s.size ≤ maxLen := by
  obtain ⟨q, h1, _, h2⟩ := DataW.trod_string ht h
  exact ⟨q, by simpa using h1, h2⟩
end
end Go.Proofs.YtgcdgcidjjdhmaaGreatDoor
