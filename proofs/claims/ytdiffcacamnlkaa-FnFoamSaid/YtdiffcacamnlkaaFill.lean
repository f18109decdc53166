/-
  FillOrder: both sides are the stable sort of the indices by Empty + Drive.
-/
import Derived.Test.YtdiffcacamnlkaaSort
import Derived.Test.YtdiffcacamnlkaaTankF
namespace Go.Proofs.Ytdiffcacamnlkaa
open Go.RowKit

def cmpI (a b : Int) : Int := if a < b then -1 else if b < a then 1 else 0
theorem cmpI_lt (a b : Int) : decide (cmpI a b < 0) = decide (a < b) := by
  unfold cmpI
  by_cases h : a < b
  · simp [h]
  · by_cases h2 : b < a
    · simp [h, h2]
    · simp [h, h2]
set_option maxHeartbeats 400000 in
theorem isNaN_c (a : Int) (w : World) : Calls Try.prog 79 #[.int .i64 a] w fun e w' => e = .returned (.bool false) ∧ w = w' := by
  have h : (a != a) = false := by simp
  go_enter Try.func79, Try.ntmps79
  go_wp2
  go_ret
  exact ⟨rfl, rfl⟩
set_option maxHeartbeats 400000 in
theorem cmpInt_c (a b : Int) (w : World) : Calls Try.prog 54 #[.int .i64 a, .int .i64 b] w fun e w' => e = .returned (.int .i64 (cmpI a b)) ∧ w = w' := by
  go_enter Try.func54, Try.ntmps54
  go_wp2_with (go_at_call 79; refine (isNaN_c _ _).mono ?_; rintro e w' ⟨rfl, rfl⟩)
  · go_ret
    exact ⟨by unfold cmpI; rw [if_pos (by assumption)]; rfl, rfl⟩
  · go_ret
    exact ⟨by unfold cmpI; rw [if_neg (by omega), if_pos (by assumption)]; rfl, rfl⟩
  · go_ret
    exact ⟨by unfold cmpI; rw [if_neg (by omega), if_neg (by omega)]; rfl, rfl⟩

def fillKey (l : List Tk) (i : Int) : Int := match l[i.toNat]? with
  | some t => t.e + t.d
  | none => 0
def fillCf (l : List Tk) (x y : Int) : Int := cmpI (fillKey l x) (fillKey l y)

set_option maxRecDepth 100000 in
set_option maxHeartbeats 1000000 in
theorem fillCmp_c (l : List Tk) (B b off c : Nat) (x y : Int) (W : World) (hbox : W.cell? ⟨B, 0, none⟩ = some (.slice (some ⟨b, off, none⟩) l.length c))
    (hcell : ∀ j u, (l.flatMap Tk.cells)[j]? = some u → W.cell? ⟨b, off + j, none⟩ = some u) (hbl : b < W.heap.size) (hok : okL l = true)
    (hx : 0 ≤ x ∧ x < l.length) (hy : 0 ≤ y ∧ y < l.length) :
    Calls Try.prog 53 (#[.int .i64 x, .int .i64 y] ++ #[.pointer (some ⟨B, 0, none⟩)]) W fun e W' => e = .returned (.int .i64 (fillCf l x y)) ∧ ∃ q, W' = W.drewN q := by
  obtain ⟨h12, hall⟩ := okL_true hok
  obtain ⟨x0, x1⟩ := hx
  obtain ⟨y0, y1⟩ := hy
  obtain ⟨i, rfl⟩ := Int.eq_ofNat_of_zero_le x0
  obtain ⟨k, rfl⟩ := Int.eq_ofNat_of_zero_le y0
  obtain ⟨tl, tf, td, te, hi, c0, c1, c2, c3⟩ := tk_at' hcell (Below.refl _ _) hbl (show i < l.length by omega)
  obtain ⟨ul, uf, ud, ue, hk, d0, d1, d2, d3⟩ := tk_at' hcell (Below.refl _ _) hbl (show k < l.length by omega)
  have bi := Tk.bd (hall _ (List.mem_of_getElem? hi))
  have bk := Tk.bd (hall _ (List.mem_of_getElem? hk))
  dsimp only at bi bk
  obtain ⟨_, _, _, _, _, _, _, _⟩ := bi
  obtain ⟨_, _, _, _, _, _, _, _⟩ := bk
  have HV : Hid (fillCf l i k = cmpI (te + td) (ue + ud)) := Lib.hid (by
    unfold fillCf fillKey
    rw [Int.toNat_natCast, Int.toNat_natCast, hi, hk])
  have e1 : IntKind.i64.wrap (te + td) = te + td := IntWalk.i64_in _ (by omega)
  have e2 : IntKind.i64.wrap (ue + ud) = ue + ud := IntWalk.i64_in _ (by omega)
  clear hi hk hall hok hcell
  go_enter Try.func53, Try.ntmps53
  go_wp2_with fail
  go_quiet ((go_at_call 54; exact Calls.quiet_of_same ((cmpInt_c _ _ _).mono fun _ _ h => ⟨h.1, h.2.symm⟩)))
  go_wp2
  go_ret
  exact ⟨by rw [HV.out]; rfl, _, rfl⟩
end Go.Proofs.Ytdiffcacamnlkaa
