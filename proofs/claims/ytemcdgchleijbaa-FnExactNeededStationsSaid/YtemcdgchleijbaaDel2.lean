/-
  slices.DeleteFunc in a row of the call's own.
-/
import Derived.Test.YtemcdgchleijbaaDel1
namespace Go.Proofs.Ytemcdgchleijbaa
open Go.RowKit

/-- What stands in the row when j elements have been looked at and i of them kept. -/
def DelInv (p : Int → Bool) (l d : List Int) (i j : Nat) : Prop := d.length = l.length ∧ i < j ∧ j ≤ l.length ∧ d.take i = (l.take j).filter (fun x => !p x) ∧ d.drop j = l.drop j
theorem del_start {p : Int → Bool} {l : List Int} {k : Nat} {x : Int} (h : l[k]? = some x) (hp : p x = true) (hn : ∀ y ∈ l.take k, p y = false) : DelInv p l l k (k + 1) := by
  have hk := (List.getElem?_eq_some_iff.1 h).1
  refine ⟨rfl, by omega, by omega, ?_, rfl⟩
  rw [take_succ_of h, List.filter_append]
  have e1 : (l.take k).filter (fun x => !p x) = l.take k := List.filter_eq_self.2 (fun y hy => by rw [hn y hy]; rfl)
  rw [e1]; simp [hp]
theorem del_get {p : Int → Bool} {l d : List Int} {i j : Nat} {x : Int} (h : DelInv p l d i j) (hx : l[j]? = some x) : d.getD j 0 = x := by
  have e : d[j]? = l[j]? := by
    have h1 := congrArg (fun q => q[0]?) h.2.2.2.2
    simpa [List.getElem?_drop] using h1
  simp [List.getD, e, hx]
theorem del_skip {p : Int → Bool} {l d : List Int} {i j : Nat} {x : Int} (h : DelInv p l d i j) (hx : l[j]? = some x) (hp : p x = true) : DelInv p l d i (j + 1) := by
  obtain ⟨h1, h2, h3, h4, h5⟩ := h
  have hj := (List.getElem?_eq_some_iff.1 hx).1
  refine ⟨h1, by omega, by omega, ?_, ?_⟩
  · rw [h4, take_succ_of hx, List.filter_append]; simp [hp]
  · rw [← List.drop_drop, ← List.drop_drop, h5]
theorem del_keep {p : Int → Bool} {l d : List Int} {i j : Nat} {x : Int} (h : DelInv p l d i j) (hx : l[j]? = some x) (hp : p x = false) : DelInv p l (d.set i x) (i + 1) (j + 1) := by
  obtain ⟨h1, h2, h3, h4, h5⟩ := h
  have hj := (List.getElem?_eq_some_iff.1 hx).1
  refine ⟨by simpa using h1, by omega, by omega, ?_, ?_⟩
  · have hg : (d.set i x)[i]? = some x := by simp [List.getElem?_set]; omega
    rw [take_succ_of hg, List.take_set_of_le (Nat.le_refl i), h4, take_succ_of hx, List.filter_append]; simp [hp]
  · rw [List.drop_set_of_lt (by omega), ← List.drop_drop, ← List.drop_drop, h5]
theorem del_end {p : Int → Bool} {l d : List Int} {i : Nat} (h : DelInv p l d i l.length) : d.take i = l.filter (fun x => !p x) := by
  have := h.2.2.2.1; rwa [List.take_length] at this

set_option maxRecDepth 100000 in
set_option maxHeartbeats 1000000 in
theorem deleteFunc_c (g : Nat) (lb : Array Value) (eg : ∀ args w, (callFunc g args).run Try.prog w = .ok (.enter g args) w) (p : Int → Bool) (v : Value) (n base : Nat) (l : List Int) (w : World) (hp : ∀ W, w.grownBy W v.ownBlock → Says g lb p W) (ho : w.ownsRow base 3 1 v n (ints l)) :
    Calls Try.prog 93 #[v, .func (.func g) #[] lb] w fun e w' => ∃ v', e = .returned v' ∧ w'.ownsRow base 3 1 v' (l.filter fun x => !p x).length (ints (l.filter fun x => !p x)) ∧ w.grownBy w' v.ownBlock := by
  have hll := ho.1
  rw [ints_len, Nat.mul_one] at hll
  subst hll
  have hs := indexFunc_c g lb eg p v l w (hp w (World.grownBy.refl _ _)) (rdi_own ho)
  have HI := Lib.hid hs
  have HP := Lib.hid hp
  have HO := Lib.hid ho
  clear hs hp
  obtain ⟨kept, hkept⟩ : ∃ kept, (l.filter fun x => !p x) = kept := ⟨_, rfl⟩
  have HKE := Lib.hid hkept
  rw [hkept]
  rcases idxP_cases p l with ⟨e1, hall⟩ | ⟨k0, x0, h1, h2, h3, e1⟩
  · have e2 : kept = l := by rw [← hkept]; exact List.filter_eq_self.2 (fun y hy => by rw [hall y hy]; rfl)
    subst e2
    have HE := Lib.hid e1
    obtain ⟨A, cc, rfl, hcc, hcm, _⟩ := rdi_own ho
    clear hall hkept ho e1
    go_enter Try.func93, Try.ntmps93
    go_wp2_with fail
    refine HI.out.mono ?_; rw [HE.out]; rintro e w' ⟨rfl, rfl⟩
    go_wp2
    go_ret
    exact ⟨_, rfl, HO.out, World.grownBy.refl _ _⟩
  · have hk0 := (List.getElem?_eq_some_iff.1 h1).1
    obtain ⟨g0, cap, rfl, hbg, hgl, hc, hm⟩ := own_shape ho (by omega)
    have HE := Lib.hid e1
    have HD0 := Lib.hid (del_start h1 h2 h3)
    have hne1 : ((k0 : Int) == -1) = false := beq_eq_false_iff_ne.2 (by omega)
    have q0 : (0 : Int) ≤ (k0 : Int) := by omega
    clear h1 h2 h3 e1 ho hkept
    go_enter Try.func93, Try.ntmps93
    go_wp2_with fail
    refine HI.out.mono ?_; rw [HE.out]; rintro e w' ⟨rfl, rfl⟩
    clear HI
    go_wp2_with fail
    go_loopw [5, 6] (fun v5 v6 wr => ∃ (i j : Nat) (d : List Int), v5 = .int .i64 i ∧ v6 = .int .i64 j ∧ i < j ∧ j ≤ l.length ∧ Hid (DelInv p l d i j) ∧ Hid (wr.ownsRow base 3 1 (.slice (some ⟨g0, 0, none⟩) l.length cap) l.length (ints d)) ∧ Hid (w.grownBy wr (some g0))) (fun _ v6 _ => l.length - (intOf v6).toNat)
    case atStart => exact ⟨k0, k0 + 1, l, rfl, by go_num, by omega, by omega, HD0, HO, Lib.hid (World.grownBy.refl _ _)⟩
    case round =>
      obtain ⟨i, j, d, rfl, rfl, hij, hjl, HD, HOD, HGR⟩ := hrel
      obtain ⟨wA, rfl⟩ : ∃ wA : World, wA = wr := ⟨_, rfl⟩
      have i0 : (0 : Int) ≤ (i : Int) := by omega
      have i1 : (i : Int) < (l.length : Int) := by omega
      by_cases hlt : j < l.length
      · obtain ⟨x, hx⟩ : ∃ x, l[j]? = some x := ⟨_, List.getElem?_eq_getElem hlt⟩
        have cj := own_cell HOD.out hlt
        rw [del_get HD.out hx] at cj
        have ci := own_cell HOD.out (show i < l.length by omega)
        have fi := HOD.out.frozenAt i
        obtain ⟨o, ho⟩ : ∃ o, d.getD i 0 = o := ⟨_, rfl⟩
        rw [ho] at ci
        have HX := Lib.hid hx
        have hcall := HP.out wA HGR.out x
        clear hx ho
        by_cases hpx : p x = true
        · rw [hpx] at hcall
          have HD' := Lib.hid (del_skip HD.out HX.out hpx)
          clear hpx
          go_wp2_with fail
          refine hcall.mono ?_; rintro e w' ⟨rfl, rfl⟩
          go_wp2
          exact ⟨⟨i, j + 1, d, rfl, by go_num, by omega, by omega, HD', HOD, HGR⟩, by simp [intOf]; omega⟩
        · have hpx' : p x = false := by simpa using hpx
          rw [hpx'] at hcall
          have HD' := Lib.hid (del_keep HD.out HX.out hpx')
          clear hpx hpx'
          go_wp2_with fail
          refine hcall.mono ?_; rintro e w' ⟨rfl, rfl⟩
          go_wp2
          exact ⟨⟨i + 1, j + 1, _, by go_num, by go_num, by omega, by omega, HD', Lib.hid (own_setI HOD.out i x), Lib.hid (only_setCell HGR.out i _)⟩, by simp [intOf]; omega⟩
      · obtain rfl : j = l.length := by omega
        have hde := del_end HD.out
        have hcl : ∀ ty, (Builtin.clear_ #[25] ty #[.slice (some ⟨g0, i, none⟩) (l.length - i) (cap - i)]).run Try.prog wA = .ok (.tuple #[]) (wA.setCells g0 i (List.replicate (l.length - i) (.int .i64 0))) :=
          fun ty => Lib.run_clear_slice wA 25 3 ty (.int .i64 0) Try.underlying25 (fun _ => by kernel_rfl) rfl rfl g0 i (l.length - i) (cap - i) (by omega) (fun t ht => by rw [own_cell HOD.out (by omega)]; rfl) (fun t ht => HOD.out.frozenAt _)
        have u1 : (i : Int) ≤ (l.length : Int) := by omega
        have u2 : (i : Int) ≤ (cap : Int) := by omega
        have u3 : ¬ (cap = i) := by omega
        have HDE := Lib.hid hde
        clear hde
        go_wp2
        go_ret
        refine ⟨_, rfl, ?_, only_setCells HGR.out _ _⟩
        have h := own_cut (own_setCells HOD.out i (List.replicate (l.length - i) (.int .i64 0))) (show i ≤ l.length by omega)
        rw [putAt_take _ _ _ _ (Nat.le_refl i)] at h
        have e2 : (ints d).take i = ints kept := by unfold ints; rw [← List.map_take, HDE.out, HKE.out]
        have e3 : kept.length = i := by rw [← HKE.out, ← HDE.out, List.length_take]; have := HD.out.1; omega
        rw [e2] at h
        rw [e3]
        exact h
end Go.Proofs.Ytemcdgchleijbaa
