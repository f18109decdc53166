/-
  slices.IndexFunc and slices.ContainsFunc at ints, for a function value that may use memory of its own.
-/
import Derived.Test.YtcpchdbhpcebeaaDsp
import Derived.Test.YtcpchdbhpcebeaaInts
namespace Go.Proofs.Ytcpchdbhpcebeaa
open Go.RowKit

/-- The function value g answers p on the list, in whatever memory that keeps what is here. -/
def SaysI (g : Nat) (lb : Array Value) (p : Int → Bool) (l : List Int) (w : World) : Prop := ∀ x ∈ l, ∀ W, Below w.heap.size w W → Calls Try.prog g (#[.int .i64 x] ++ lb) W fun e W' => e = .returned (.bool (p x)) ∧ Below W.heap.size W W'
set_option maxRecDepth 100000 in
set_option maxHeartbeats 1000000 in
theorem indexI_c (g : Nat) (lb : Array Value) (eg : ∀ args w, (callFunc g args).run Try.prog w = .ok (.enter g args) w) (p : Int → Bool) (v : Value) (l : List Int) (w : World) (hp : SaysI g lb p l w) (hr : RdI w v l) :
    Calls Try.prog 103 #[v, .func (.func g) #[] lb] w fun e w' => e = .returned (.int .i64 (idxG p l)) ∧ Below w.heap.size w w' := by
  obtain ⟨A, c, rfl, hc, hm, hr⟩ := hr
  rw [maxLen_eq] at hm
  have HP := Lib.hid hp
  have HR := Lib.hid hr
  clear hp hr
  go_enter Try.func103, Try.ntmps103
  go_wp2_with fail
  go_loopw [8] (fun i wr => ∃ k : Nat, k ≤ l.length ∧ i = .int .i64 k ∧ Hid (∀ y ∈ l.take k, p y = false) ∧ Hid (Below w.heap.size w wr)) (fun i _ => l.length - (intOf i).toNat)
  case atStart => exact ⟨0, Nat.zero_le _, rfl, Lib.hid (by simp), Lib.hid (Below.refl _ _)⟩
  case round =>
    obtain ⟨k, hk, rfl, HN, HB⟩ := hrel
    by_cases hlt : k < l.length
    · obtain ⟨b, off, rfl, hbl, hcell⟩ := HR.out (by omega)
      obtain ⟨y, hx⟩ : ∃ y, l[k]? = some y := ⟨_, List.getElem?_eq_getElem hlt⟩
      have c0 := cell_at hcell HB.out hbl (ints_get hx)
      have HX := Lib.hid hx
      have hcall := HP.out _ (List.mem_of_getElem? hx) _ HB.out
      clear hcell hx
      by_cases hpy : p y = true
      · rw [hpy] at hcall
        have HF := Lib.hid (idxG_at HX.out hpy HN.out)
        have HC := Lib.hid hcall
        clear hpy hcall
        go_wp2_with fail
        refine HC.out.mono ?_; rintro e w' ⟨rfl, hb2⟩
        have HB2 := Lib.hid (bel_then HB.out hb2)
        clear hb2
        go_wp2
        go_ret
        rw [HF.out]
        exact ⟨rfl, HB2.out⟩
      · have hpy' : p y = false := by simpa using hpy
        rw [hpy'] at hcall
        have HN2 : Hid (∀ y ∈ l.take (k + 1), p y = false) := Lib.hid (fun y hy => by
          rw [take_succ_of HX.out] at hy
          rcases List.mem_append.1 hy with h | h
          · exact HN.out y h
          · rw [List.mem_singleton] at h; rw [h]; exact hpy')
        have HC := Lib.hid hcall
        clear hpy hpy' hcall
        go_wp2_with fail
        refine HC.out.mono ?_; rintro e w' ⟨rfl, hb2⟩
        have HB2 := Lib.hid (bel_then HB.out hb2)
        clear hb2
        go_wp2
        exact ⟨⟨k + 1, by omega, by go_num, HN2, HB2⟩, by simp [intOf]; omega⟩
    · obtain rfl : k = l.length := by omega
      have h := HN.out
      rw [List.take_length] at h
      have HF := Lib.hid (idxG_none h)
      clear h
      go_wp2
      go_ret
      rw [HF.out]
      exact ⟨rfl, HB.out⟩
set_option maxHeartbeats 1000000 in
theorem containsI_c (g : Nat) (lb : Array Value) (eg : ∀ args w, (callFunc g args).run Try.prog w = .ok (.enter g args) w) (p : Int → Bool) (v : Value) (l : List Int) (w : World) (hp : SaysI g lb p l w) (hr : RdI w v l) :
    Calls Try.prog 78 #[v, .func (.func g) #[] lb] w fun e w' => e = .returned (.bool (l.any p)) ∧ Below w.heap.size w w' := by
  have HP := Lib.hid hp
  have HR := Lib.hid hr
  clear hp hr
  rw [← (idxG_any p l).1]
  go_enter Try.func78, Try.ntmps78
  go_wp2_with fail
  refine (indexI_c g lb eg p _ l _ HP.out HR.out).mono ?_; rintro e w' ⟨rfl, hb⟩
  have HB := Lib.hid hb
  clear hb
  go_wp2
  go_ret
  exact ⟨rfl, HB.out⟩
end Go.Proofs.Ytcpchdbhpcebeaa
