/-
  From the listed tables of the library to what the contract of math.Sin asks.
-/
import Derived.Test.YtibkadkodblefaaDoorSinW
import Derived.Lib.LaidU8
import Derived.MakeChecks
namespace Go.Proofs.YtibkadkodblefaaDoor
open Go Go.RowKit

theorem float_of_trod {H : Type} {enc : TypeId × Value → H} {P : Program} {w : World} {base : Nat} {sp : Nat → Bool} {held : Bool} {fuel : Nat} {t : TypeId} {k : FloatKind} {cs : List Value} {d : DataW H} {q : List MemPlace}
    (ht : P.underlying t = some (.float k)) (h : DataW.trod enc P w base sp held fuel t cs = some (d, q)) : ∃ n, cs = [.float k n] ∧ d = .lit (.float k n) := by
  cases fuel with
  | zero => simp [DataW.trod] at h
  | succ fuel =>
    match cs, h with
    | [], h => simp [DataW.trod, ht] at h
    | [c], h =>
      cases c <;> simp [DataW.trod, ht] at h
      rename_i k' n
      obtain ⟨⟨rfl, _⟩, h2, _⟩ := h
      exact ⟨n, rfl, h2.symm⟩
    | a :: b :: r, h => simp [DataW.trod, ht] at h
theorem tab_of_reads {w : World} {nm : String} {g : Nat} {l : List Nat} (hg : Tryd.prog.globalNamed nm = some g) (hty : (Tryd.prog.globals[g]?).map (·.type) = some 114) (hl : l.length = 6)
    (h : Lib.VarReads Tryd.prog w nm (.agg (l.map fun c => .lit (.float .f64 c)))) : ∀ i c, l[i]? = some c → w.cell? ⟨g, i, none⟩ = some (.float .f64 c) := by
  intro i c hc
  have hi : i < 6 := by have := (List.getElem?_eq_some_iff.1 hc).1; omega
  obtain ⟨g', t, cs, fuel, p, hg', hty', hvar, hd⟩ := h
  obtain rfl := Option.some.inj (hg.symm.trans hg')
  obtain rfl := Option.some.inj (hty.symm.trans hty')
  obtain ⟨fuel', d, q, hdi, he⟩ := Lib.array_elem Tryd.underlying114 hd i hi
  rw [show Tryd.prog.cellsOf 101 = 1 by kernel_rfl, Nat.mul_one] at he
  rw [List.getElem?_map, hc] at hdi
  obtain rfl := Option.some.inj hdi
  obtain ⟨n, hn, e⟩ := float_of_trod Tryd.underlying101 he
  injection e with e
  injection e with _ e
  subst e
  have e0 := congrArg (·[0]?) hn
  simp only [List.getElem?_take, List.getElem?_drop] at e0
  rw [World.var?_cell hg hvar i, ← Array.getElem?_toList]
  simpa using e0
theorem sinTab_of_laid {w : World} (h : laidMetH Tryd.prog [("math._sin", Rows.laid_math_sin), ("math._cos", Rows.laid_math_cos), ("math.mPi4", Rows.laid_math_mPi4)] w) : SinTab w := by
  rw [MakeChecks.laidMetH_plain _ _ _ (by kernel_rfl)] at h
  exact ⟨tab_of_reads (l := sinTab) (by kernel_rfl) (by kernel_rfl) rfl (Lib.laidMet.reads h (.head _)), tab_of_reads (l := cosTab) (by kernel_rfl) (by kernel_rfl) rfl (Lib.laidMet.reads h (.tail _ (.head _)))⟩
end Go.Proofs.YtibkadkodblefaaDoor
