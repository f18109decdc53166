/-
  Stations without one of them, and the nodes that are lost then, on both sides.
-/
import Derived.Test.YtemcdgchleijbaaCovC
import Derived.Test.YtemcdgchleijbaaDel2
import Derived.Test.YtemcdgchleijbaaLaw
import Derived.Deep.RegionHeld3
namespace Go.Proofs.Ytemcdgchleijbaa
open Go.RowKit

def dropI (q : List Int) (i : Nat) : List Int := q.take i ++ q.drop (i + 1)
theorem dropI_mem {q : List Int} {i : Nat} {x : Int} (h : x ∈ dropI q i) : x ∈ q := by
  rcases List.mem_append.1 h with h | h
  · exact List.mem_of_mem_take h
  · exact List.mem_of_mem_drop h
theorem dropI_len {q : List Int} {i : Nat} (h : i < q.length) : (dropI q i).length = q.length - 1 := by
  unfold dropI; rw [List.length_append, List.length_take, List.length_drop]; omega
def covL (m : Nat) (l : List St) (q : List Int) (a : Int) : List Int := covIdx (coverL m (arcs l) q) a true m
theorem covL_len (m : Nat) (l : List St) (q : List Int) (a : Int) : (covL m l q a).length ≤ m := covIdx_len _ _ _ _
def notIn (o : List Int) (x : Int) : Bool := !decide (x ∈ o)
def lostL (m : Nat) (l : List St) (q : List Int) (i : Nat) (a : Int) : List Int := (covL m l q a).filter (notIn (covL m l (dropI q i) a))

theorem lostF_c (x : Int) (vo : Value) (o : List Int) (B : Nat) (W : World) (c0 : W.cell? ⟨B, 0, none⟩ = some vo) (hr : RdI W vo o) :
    Calls Try.prog 94 #[.int .i64 x, .pointer (some ⟨B, 0, none⟩)] W fun e w' => e = .returned (.bool (decide (x ∈ o))) ∧ W = w' := by
  have HR := Lib.hid hr
  clear hr
  go_enter Try.func94, Try.ntmps94
  go_wp2_with fail
  refine (contains_c _ x o _ HR.out).mono ?_; rintro e w' ⟨rfl, rfl⟩
  go_wp2
  go_ret
  exact ⟨rfl, rfl⟩

set_option maxRecDepth 100000 in
set_option maxHeartbeats 1000000 in
theorem lostWithout_c (m : Nat) (s v : Value) (l : List St) (q : List Int) (i j : Nat) (a : Int) (B : Nat) (w : World) (hg : goodTown m l = true) (hq : ∀ x ∈ q, 0 ≤ x ∧ x ≤ (m : Int) - 1) (hi : i < q.length) (hj : j = i + 1) (hl6 : q.length ≤ 6) (t0 : w.cell? ⟨B, 0, none⟩ = some (.int .i64 m)) (t1 : w.cell? ⟨B, 1, none⟩ = some s) (hr : Rd w s l.length (l.flatMap St.cells)) (hv : RdI w v q) :
    Calls Try.prog 77 #[.pointer (some ⟨B, 0, none⟩), v, .int .i64 i, .int .i64 a] w (OwnI (lostL m l q i a) w) := by
  have HR := Lib.hid hr
  have HV := Lib.hid hv
  have hB : B < w.heap.size := World.block_lt_of_cell? w _ t0
  have HT0 := Lib.hid t0
  have HT1 := Lib.hid t1
  have HG := Lib.hid hg
  have HQ := Lib.hid hq
  have eg : ∀ args w, (callFunc 94 args).run Try.prog w = .ok (.enter 94 args) w := enters_of Try.func94 (by kernel_rfl) rfl
  have EG := Lib.hid eg
  have HJ := Lib.hid hj
  have hjn : j ≤ q.length := by omega
  obtain ⟨hm1, hm2, _, _⟩ := goodTown_true hg
  clear hr hv hg hq t0 t1 eg
  have hsum : ((i : Int) + 1) = (j : Int) := by omega
  clear hj
  go_enter Try.func77, Try.ntmps77
  go_wp2_with fail
  refine (clone_c _ q _ HV.out (by omega)).mono ?_
  rintro e w1 ⟨v1, rfl, ho1, hb1⟩
  obtain ⟨g1, cap1, rfl, hbg1, hgl1, hcap1, _⟩ := own_shape ho1 (by omega)
  have HO1 := Lib.hid ho1
  have HB1 := Lib.hid hb1
  clear ho1 hb1
  go_wp2_with fail
  refine (delete1_c g1 cap1 q.length i j _ q _ HO1.out HJ.out hjn).mono ?_
  rintro e w2 ⟨rfl, ho2, hgr2⟩
  have HB2 : Hid (Below w.heap.size w w2) := Lib.hid (bel_grown HB1.out hgr2 (fun k e => by have := Option.some.inj e; omega))
  have hdl := dropI_len hi
  have HO2 : Hid (RdI w2 (.slice (some ⟨g1, 0, none⟩) (q.length - 1) cap1) (dropI q i)) := Lib.hid (by
    have h := ho2
    rw [HJ.out] at h
    unfold RdI
    rw [hdl]
    exact own_rd h)
  clear ho2 hgr2
  go_wp2_with fail
  refine (coveredNodes_c m s _ l (dropI q i) a true B _ HG.out (fun x hx => HQ.out x (dropI_mem hx)) ((HB2.out.cell (p := ⟨B, 0, none⟩) hB).trans HT0.out) ((HB2.out.cell (p := ⟨B, 1, none⟩) hB).trans HT1.out) (rd_below HR.out HB2.out) HO2.out).mono ?_
  rintro e w3 ⟨v3, rfl, ho3, hb3⟩
  have HO3 : Hid (w3.ownsRow w2.heap.size 3 1 v3 (covL m l (dropI q i) a).length (ints (covL m l (dropI q i) a))) := Lib.hid ho3
  have HB3 := Lib.hid (bel_then HB2.out hb3)
  clear ho3 hb3
  obtain ⟨A3, cc3, hx3, _⟩ := own_rd HO3.out
  subst hx3
  go_wp2_with fail
  generalize hW4 : World.alloc w3 _ = w4
  have c4 : w4.cell? ⟨w3.heap.size, 0, none⟩ = some (.slice A3 (covL m l (dropI q i) a).length cc3) := by subst hW4; simp [go_sem]
  have z4 : w3.heap.size < w4.heap.size := by subst hW4; simp
  have HO4 : Hid (w4.ownsRow w2.heap.size 3 1 (.slice A3 (covL m l (dropI q i) a).length cc3) (covL m l (dropI q i) a).length (ints (covL m l (dropI q i) a))) := Lib.hid (by subst hW4; exact HO3.out.alloc _)
  have HB4 : Hid (Below w.heap.size w w4) := Lib.hid (by subst hW4; exact bel_al HB3.out _)
  have I3 := Lib.hid HO3.out.lt
  clear hW4 HO3 HO2
  refine (coveredNodes_c m s _ l q a true B _ HG.out HQ.out ((HB4.out.cell (p := ⟨B, 0, none⟩) hB).trans HT0.out) ((HB4.out.cell (p := ⟨B, 1, none⟩) hB).trans HT1.out) (rd_below HR.out HB4.out) (rdi_below HV.out HB4.out)).mono ?_
  rintro e w5 ⟨v5, rfl, ho5, hb5⟩
  have HO5 : Hid (w5.ownsRow w4.heap.size 3 1 v5 (covL m l q a).length (ints (covL m l q a))) := Lib.hid ho5
  have I5 := Lib.hid ho5.lt
  have HB5 := Lib.hid (bel_then HB4.out hb5)
  have c5 := (hb5.cell (p := ⟨w3.heap.size, 0, none⟩) z4).trans c4
  have s5 := hb5.size
  have HO35 := Lib.hid (own_below HO4.out hb5)
  have hz2 := HB2.out.size
  clear ho5 hb5 c4 HO4
  have hsays : ∀ W, w5.grownBy W v5.ownBlock → Says 94 #[.pointer (some ⟨w3.heap.size, 0, none⟩)] (fun x => decide (x ∈ covL m l (dropI q i) a)) W := fun W hW x =>
    lostF_c x _ _ w3.heap.size W ((cell_mark hW (by omega) (fun q' e' => by have := (I5.out q' e').1; omega)).trans c5) (rdi_own (kept2 HO35.out hW (fun k k' e e' => by have := I3.out k e; have := I5.out k' e'; omega)))
  have HS := Lib.hid hsays
  clear hsays c5
  go_wp2_with fail
  refine (deleteFunc_c 94 _ EG.out _ v5 _ _ (covL m l q a) _ HS.out HO5.out).mono ?_
  rintro e w6 ⟨v6, rfl, ho6, hg6⟩
  have HB6 : Hid (Below w.heap.size w w6) := Lib.hid (bel_mark HB5.out HB5.out.size hg6 (fun k e => by have := (I5.out k e).1; have := HB4.out.size; omega))
  have HO6 := Lib.hid ho6
  clear ho6 hg6
  go_wp2
  go_ret
  exact ⟨_, rfl, own_base HO6.out HB4.out.size, HB6.out⟩
end Go.Proofs.Ytemcdgchleijbaa
