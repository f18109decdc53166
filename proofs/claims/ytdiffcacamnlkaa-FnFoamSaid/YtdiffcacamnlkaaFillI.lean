/-
  impl.FillOrder.
-/
import Derived.Test.YtdiffcacamnlkaaFill
import Derived.Test.YtdiffcacamnlkaaOwn
import Derived.Maps.AppendAt
namespace Go.Proofs.Ytdiffcacamnlkaa
open Go.RowKit

def fillOrder (l : List Tk) : List Int × Bool := if okL l then (isort (gtOf (fillCf l)) (upFrom 0 l.length), true) else ([], false)

set_option maxRecDepth 100000 in
set_option maxHeartbeats 1000000 in
theorem fillOrderI_c (v : Value) (l : List Tk) (w : World) (hr : Rd w v l.length (l.flatMap Tk.cells)) :
    Calls Try.prog 13 #[v] w (OwnIB (fillOrder l) w) := by
  have HR := Lib.hid hr
  obtain ⟨A, c, rfl, hc, hm, hr⟩ := hr
  rw [maxLen_eq] at hm
  by_cases hok : okL l = true
  · obtain ⟨h12, hall⟩ := okL_true hok
    have HF : Hid (fillOrder l = (isort (gtOf (fillCf l)) (upFrom 0 l.length), true)) := Lib.hid (by unfold fillOrder; rw [if_pos hok])
    have HOK := Lib.hid hok
    obtain ⟨i0, hi, hz0, hz1, hz2⟩ := info_parts Try.infoInt
    clear hall
    go_enter Try.func13, Try.ntmps13
    go_wp2_with (go_at_call 51; refine (areTankers_c _ l _ (rd_below HR.out (bel_al (Below.refl _ _) _))).mono ?_; rintro e w' ⟨rfl, hb1⟩; have hzz : w.heap.size < w'.heap.size := Nat.lt_of_lt_of_le (by simp) hb1.size; have k0 : w'.cell? ⟨w.heap.size, 0, none⟩ = some (.slice A l.length c) := (hb1.cell (by simp)).trans (by simp [go_sem]))
    have hb2 : Below w.heap.size w w' := (by repeat (first | exact Below.refl _ _ | assumption | refine bel_al ?_ _ | refine bel_dr ?_ | refine below_drewN ?_ _ | refine bel_then ?_ (by assumption)))
    clear hb1
    go_loopw [4, 5, 11] (fun o _ i wr => ∃ k : Nat, k ≤ l.length ∧ i = .int .i64 k ∧ wr.ownsRow (w.heap.size + 1) 3 1 o k (ints (upFrom 0 k)) ∧ wr.cell? ⟨w.heap.size, 0, none⟩ = some (.slice A l.length c) ∧ w.heap.size < wr.heap.size ∧ Below w.heap.size w wr) (fun _ _ i _ => l.length - (intOf i).toNat)
    case atStart => exact ⟨0, Nat.zero_le _, rfl, World.ownsRow_nil _ _ _ _, k0, by assumption, hb2⟩
    case round =>
      obtain ⟨k, hk, rfl, hown, hbox, hsz, hb⟩ := hrel
      have HB := Lib.hid hb
      have HBX := Lib.hid hbox
      clear hb2 k0
      by_cases hlt : k < l.length
      · go_wp2_with (at_builtin; refine wpList_append_own _ rfl _ _ 31 rfl (w.heap.size + 1) 3 i0 (.int .i64 0) 1 8 Try.underlying31 hi hz0 hz1 hz2 rfl (by decide) _ _ _ rfl (hown.alloc _) ⟨wr.heap.size, 0, none⟩ 1 1 [.int .i64 k] rfl rfl (cell_one_new _ _ _) (by intro u hu; simp at hu; subst hu; rfl) (by rw [maxLen_eq]; omega) (by omega) (by simp; omega) ?_; intro v' w1 hown' hgrow _)
        have hlo := hown.lt
        refine ⟨⟨k + 1, by omega, by go_num, ?_, hgrow.cell (by rw [World.cell?_alloc_lt _ _ _ hsz]; exact HBX.out) (fun e => by have := (hlo w.heap.size e.symm).1; omega), Nat.lt_of_lt_of_le hsz (Nat.le_trans (by simp) hgrow.size), bel_grown (bel_al HB.out _) hgrow (fun q e => by have := (hlo q e).1; omega)⟩, by simp [intOf]; omega⟩
        rw [upFrom_succ, ints_append]
        simpa [ints] using hown'
      · obtain rfl : k = l.length := by omega
        have hlo := hown.lt
        have HO := Lib.hid hown
        have hcmp : ∀ g, u4.ownBlock = some g → CmpOk 53 #[.pointer (some ⟨w.heap.size, 0, none⟩)] (fillCf l) (fun x => 0 ≤ x ∧ x < l.length) g wr := by
          intro g hg W x y hW hx hy
          have hgl := (hlo g hg).1
          obtain ⟨b, off, rfl, hbl, hcell⟩ := hr (by omega)
          have hbW : Below w.heap.size w W := bel_grown HB.out hW (fun q e => by have : g = q := Option.some.inj e; omega)
          refine fillCmp_c l w.heap.size b off c x y W (hW.cell HBX.out (fun e => by have : w.heap.size = g := Option.some.inj e; omega)) (fun j u hu => (hbW.cell (p := ⟨b, off + j, none⟩) hbl).trans (hcell j u hu)) (Nat.lt_of_lt_of_le hbl hbW.size) HOK.out hx hy
        have HC : Aside _ := hcmp
        have HPU : Hid (∀ x ∈ upFrom 0 l.length, 0 ≤ x ∧ x < (l.length : Int)) := Lib.hid (by
          intro x hx
          simp [upFrom] at hx
          obtain ⟨a, ha, rfl⟩ := hx
          omega)
        have HLO : Hid (∀ q, u4.ownBlock = some q → w.heap.size + 1 ≤ q ∧ q < wr.heap.size) := Lib.hid hlo
        clear hcmp hown hlo
        go_wp2_with (go_at_call 52; refine (sortStable_c (fillCf l) (fun x => 0 ≤ x ∧ x < l.length) 53 #[.pointer (some ⟨w.heap.size, 0, none⟩)] _ (w.heap.size + 1) l.length (upFrom 0 l.length) _ (enters_of Try.func53 (by kernel_rfl) rfl) HC HPU.out HO.out (by omega)).mono ?_; rintro e w' ⟨rfl, ho2, hg2⟩)
        go_ret2
        rw [HF.out]
        refine ⟨_, rfl, ?_, bel_grown HB.out hg2 (fun q e => by have := (HLO.out q e).1; omega)⟩
        rw [isort_length, upFrom_len]
        exact own_base ho2 (by omega)
  · have hok' : okL l = false := by simpa using hok
    have HF : Hid (fillOrder l = ([], false)) := Lib.hid (by unfold fillOrder; rw [if_neg hok])
    go_enter Try.func13, Try.ntmps13
    go_wp2_with (go_at_call 51; refine (areTankers_c _ l _ (rd_below HR.out (bel_al (Below.refl _ _) _))).mono ?_; rintro e w' ⟨rfl, hb1⟩)
    go_ret2
    rw [HF.out]
    exact ⟨_, rfl, World.ownsRow_nil _ _ _ _, (by repeat (first | exact Below.refl _ _ | assumption | refine bel_al ?_ _ | refine bel_dr ?_ | refine below_drewN ?_ _ | refine bel_then ?_ (by assumption)))⟩
end Go.Proofs.Ytdiffcacamnlkaa
