/-
  From the listed variables of the library, and from the world's shape, to what the walk of FnAppliances asks of the world; a wrap that hands the walk both. (joined by pack.py: LibLaid)
-/
import Derived.Test.YtgcdgcidjjdhmaaGreatDoorK41
import Derived.Test.YtgcdgcidjjdhmaaGreatDoorRows
import Derived.Lib.LaidU8
import Derived.MakeChecks
import Derived.Stop.LaidErr
import Derived.HandedShaped
namespace Go.Proofs.YtgcdgcidjjdhmaaGreatDoor
set_option linter.unusedVariables false
set_option linter.unusedSimpArgs false
open Go Go.RowKit

theorem Tryz.starErr : "*" ++ "errors.errorString" = "*errors.errorString" := by decide
theorem Tryz.rowErr (u : TypeId) (h : Tryz.prog.typeName? 3 u = some "*errors.errorString") : u = 134 :=
  typeName_ptr_named (nm := "errors.errorString") (by rw [Tryz.starErr]; kernel_rfl) (by kernel_rfl) (by decide) u (by rw [Tryz.starErr]; exact h)
theorem libW_of_laid {w : World} (h : laidMetH Tryz.prog Rows.fnAppliancesRow.laid w) (hs : w.ShapedOpen Tryz.prog) : LibW w := by
  rw [MakeChecks.laidMetH_plain _ _ _ (by kernel_rfl)] at h
  have h : laidMet Tryz.prog [("math/bits.deBruijn32tab", Rows.laid_math_bits_deBruijn32tab), ("math/bits.deBruijn64tab", Rows.laid_math_bits_deBruijn64tab), ("internal/strconv.uint64pow10", Rows.laid_internal_strconv_uint64pow10), ("unicode/utf8.acceptRanges", Rows.laid_unicode_utf8_acceptRanges), ("strconv.ErrRange", Rows.laid_strconv_ErrRange), ("strconv.ErrSyntax", Rows.laid_strconv_ErrSyntax), ("unicode/utf8.first", Rows.laid_unicode_utf8_first)] w := h
  have gR : Tryz.prog.globalNamed "strconv.ErrRange" = some 4 := by kernel_rfl
  have gS : Tryz.prog.globalNamed "strconv.ErrSyntax" = some 3 := by kernel_rfl
  have tR : (Tryz.prog.globals[4]?).map (·.type) = some 88 := by kernel_rfl
  have tS : (Tryz.prog.globals[3]?).map (·.type) = some 88 := by kernel_rfl
  have c1 : Tryz.prog.cellsOf 136 = 1 := by kernel_rfl
  have c2 : Tryz.prog.cellsOf 9 = 1 := by kernel_rfl
  obtain ⟨aR, sR, hR, -⟩ := laid_sentinel h.tail.tail.tail.tail gR tR Tryz.underlying88 Tryz.rowErr Tryz.underlying134 Tryz.underlying136 rfl rfl Tryz.underlying9 c1 c2
  obtain ⟨aS, sS, hS, -⟩ := laid_sentinel h.tail.tail.tail.tail.tail gS tS Tryz.underlying88 Tryz.rowErr Tryz.underlying134 Tryz.underlying136 rfl rfl Tryz.underlying9 c1 c2
  refine ⟨Tryz.laysM146.s1_3 w hs, ⟨_, _, (World.var?_cell gS hS 0).trans rfl⟩, ⟨_, _, (World.var?_cell gR hR 0).trans rfl⟩, ?_⟩
  obtain ⟨g', t', cs, fuel, p, hg', ht', hvar, hd⟩ := Lib.laidMet.reads h (n := "internal/strconv.uint64pow10") (.tail _ (.tail _ (.head _)))
  obtain rfl := Option.some.inj ((show Tryz.prog.globalNamed "internal/strconv.uint64pow10" = some 5 by kernel_rfl).symm.trans hg')
  obtain rfl := Option.some.inj ((show (Tryz.prog.globals[5]?).map (·.type) = some 130 by kernel_rfl).symm.trans ht')
  unfold Lib.TabIs
  rw [hvar, ← Lib.cells_of_tab (k := .u64) (zs := Lib.pow10Tab) Tryz.underlying130 Tryz.underlying46 (by kernel_rfl) (by kernel_rfl) hd]

/-- The wrap: the walk is handed the row's own condition (X) and the world's shape. -/
theorem returnsInHanded_and_shaped {H : Type} {enc : TypeId × Value → H} {a : Assume} {C : Checked} {os : Os} {f : FuncId} {fn : Func} {s : ChangeSpec} {conds : List PathCond} {apart fresh handsOn again : Bool} {X : World → Array Value → Prop}
    (hX : ∀ (w w' : World) (args : Array Value), w.heap = w'.heap → X w args → X w' args)
    (own : ownKnob C.prog.godebug = none) (started : os.Started) (noInit : C.prog.inits.idxOf? f = none) (hfn : C.prog.funcs[f]? = some fn)
    (witness : ∃ (w : World) (tape : Tape) (i : Input), w.os = os ∧ (w.forCall tape i).Shaped C.prog ∧ i.vars = [] ∧ Input.okWide C.prog (w.forCall tape i) .any w.heap.size f i ∧
      ((s.pre enc C.prog fn conds apart (w.forCall tape i).memory i.args ∧ X (w.forCall tape i).memory i.args) ∧ sizedMet enc C.prog fn (OpenSpec.ofChange s) apart (w.forCall tape i).memory i.args) ∧ a.holds C.prog (lone (Frame.enter C.prog f i.args .normal) [] (w.forCall tape i)))
    (contract : ∀ (W : World) (base : Nat) (args : Array Value) (ds gs : List (DataW H)) (before : List MemPlace),
      (∀ (j : Nat) t v, fn.params[j]? = some t → args[j]? = some v → Value.okWide C.prog W .any base t v) →
      DataW.Whole enc C.prog fn.params.toList s.vars apart W args.toList ds gs before →
      X W args → W.ShapedOpen C.prog →
      Calls C.prog f args W fun e W' => ∃ v, e = .returned v ∧ s.post enc C.prog fn apart fresh handsOn again W args v W') :
    ReturnsInHanded a C os f .any (fun w args => (s.pre enc C.prog fn conds apart w args ∧ X w args) ∧ sizedMet enc C.prog fn (OpenSpec.ofChange s) apart w args) (s.post enc C.prog fn apart fresh handsOn again) := by
  refine returnsInHanded_of_calls own started noInit witness (fun w tape i _ shape _ good met _ => ?_)
  obtain ⟨-, -, -, fn2, hfn2, -, -, -, -, vals⟩ := good
  obtain rfl : fn2 = fn := Option.some.inj (hfn2.symm.trans hfn)
  obtain ⟨⟨⟨ds, gs, before, whole, -⟩, hx⟩, -⟩ := met
  refine (contract (w.forCall tape i) w.heap.size i.args ds gs before vals (DataW.Whole.of_heap (by rfl) whole) (hX _ _ _ (by rfl) hx) shape).mono ?_
  rintro e W' ⟨v, rfl, post⟩
  exact ChangeSpec.post_blind post
end Go.Proofs.YtgcdgcidjjdhmaaGreatDoor
