/-
  slices.Delete of one element, in a row of the call's own.
-/
import Derived.Test.YtemcdgchleijbaaDel
namespace Go.Proofs.Ytemcdgchleijbaa
open Go.RowKit

theorem putAt_take : ∀ (us xs : List Value) (i m : Nat), m ≤ i → (putAt xs i us).take m = xs.take m := by
  intro us
  induction us with
  | nil => intro xs i m _; rfl
  | cons u us ih =>
    intro xs i m h
    show (putAt (xs.set i u) (i + 1) us).take m = _
    rw [ih _ _ _ (by omega)]
    exact List.take_set_of_le h
theorem put_left {l : List Int} {i j n : Nat} (hl : l.length = n) (hj : j = i + 1) (hn : j ≤ n) : putAt (ints l) i (ints (l.drop j)) = ints (l.take i ++ l.drop j ++ l.drop (n - 1)) := by
  have e : l = l.take i ++ ((l.drop i).take (n - j) ++ l.drop (n - 1)) := by
    have h1 : l.drop i = (l.drop i).take (n - j) ++ (l.drop i).drop (n - j) := (List.take_append_drop _ _).symm
    have h2 : (l.drop i).drop (n - j) = l.drop (n - 1) := by rw [List.drop_drop]; congr 1; omega
    rw [h2] at h1
    rw [← h1, List.take_append_drop]
  have hb := putAt_block (ints (l.drop j)) (ints ((l.drop i).take (n - j))) (ints (l.take i)) (ints (l.drop (n - 1))) (by rw [ints_len, ints_len, List.length_drop, List.length_take, List.length_drop]; omega) i (by rw [ints_len, List.length_take]; omega)
  rw [← ints_append, ← ints_append, ← e] at hb
  rw [hb, ints_append, ints_append, List.append_assoc]

set_option maxRecDepth 100000 in
set_option maxHeartbeats 1000000 in
theorem delete1_c (g cap n i j base : Nat) (l : List Int) (w : World) (ho : w.ownsRow base 3 1 (.slice (some ⟨g, 0, none⟩) n cap) n (ints l)) (hj : j = i + 1) (hjn : j ≤ n) :
    Calls Try.prog 91 #[.slice (some ⟨g, 0, none⟩) n cap, .int .i64 i, .int .i64 j] w fun e w' => e = .returned (.slice (some ⟨g, 0, none⟩) (n - 1) cap) ∧ w'.ownsRow base 3 1 (.slice (some ⟨g, 0, none⟩) (n - 1) cap) (n - 1) (ints (l.take i ++ l.drop j)) ∧ w.grownBy w' (some g) := by
  obtain ⟨g', cap', h1, hbg, hgl, hc, hm⟩ := own_shape ho (by omega)
  injection h1 with h1 _ h2
  injection h1 with h1
  injection h1 with h1
  subst h1; subst h2
  have hll := ho.1
  rw [ints_len, Nat.mul_one] at hll
  obtain ⟨i0, hi, hz0, hz1, hz2⟩ := info_parts Try.infoInt
  have hne : ((i : Int) == (j : Int)) = false := by simp; omega
  have q0 : (0 : Int) ≤ (i : Int) := by omega
  have q1 : (i : Int) ≤ (j : Int) := by omega
  have q2 : (j : Int) ≤ (n : Int) := by omega
  have q3 : (n : Int) ≤ (cap : Int) := by omega
  have q6 : (i : Int) ≤ (cap : Int) := by omega
  have q7 : (j : Int) ≤ (cap : Int) := by omega
  have q4 : ¬ (n = i) := by omega
  have q5 : ¬ (cap = i) := by omega
  -- the cells that are moved to the left
  obtain ⟨news, hnews⟩ : ∃ news, news = ints (l.drop j) := ⟨_, rfl⟩
  have hnl : news.length = n - j := by rw [hnews, ints_len, List.length_drop, hll]
  have N1 : Hid (news.length = (n - j) * 1) := Lib.hid (by rw [hnl, Nat.mul_one])
  have N2 : Hid (∀ u ∈ news, u.oneCell' = true) := Lib.hid (by rw [hnews]; exact ints_one _)
  have hspare : ∀ t, t < news.length → (w.drew.cell? ⟨g, 0 + i * 1 + t, none⟩).isSome = true ∧ w.drew.frozen? ⟨g, 0 + i * 1 + t, none⟩ = false := by
    intro t ht
    have e : 0 + i * 1 + t = i + t := by omega
    rw [e]
    exact ⟨by rw [show w.drew.cell? ⟨g, i + t, none⟩ = w.cell? ⟨g, i + t, none⟩ from rfl, own_cell ho (by omega)]; rfl, ho.frozenAt _⟩
  have N3 := Lib.hid hspare
  obtain ⟨A, hA, hsrc⟩ : ∃ A : Addr, (if cap = j then some (⟨g, 0, none⟩ : Addr) else some ⟨g, j, none⟩) = some A ∧ Hid (∀ t u, news[t]? = some u → w.drew.cell? (A.add t) = some u) := by
    by_cases h : cap = j
    · refine ⟨⟨g, 0, none⟩, by simp [h], Lib.hid fun t u hu => ?_⟩
      have h0 : news.length = 0 := by rw [hnl]; omega
      rw [List.length_eq_zero_iff.1 h0] at hu
      simp at hu
    · refine ⟨⟨g, j, none⟩, by simp [h], Lib.hid fun t u hu => ?_⟩
      have ht : t < n - j := by have := (List.getElem?_eq_some_iff.1 hu).1; rwa [hnl] at this
      have hx : l[j + t]? = some (l[j + t]'(by omega)) := List.getElem?_eq_getElem (by omega)
      rw [hnews] at hu
      have hu2 : (ints (l.drop j))[t]? = some (.int .i64 (l[j + t]'(by omega))) := ints_get (by rw [List.getElem?_drop]; exact hx)
      rw [hu2] at hu
      rw [Addr.add_lit, ← Option.some.inj hu]
      have := own_cell ho (show j + t < n by omega)
      rw [show l.getD (j + t) 0 = l[j + t]'(by omega) by simp [List.getD, hx]] at this
      exact this
  have hroom : i + (n - j) ≤ cap := by omega
  have hnc : ¬ (cap = i + (n - j)) := by omega
  have HO := Lib.hid ho
  have HJ := Lib.hid hj
  have HLL := Lib.hid hll
  have HNW := Lib.hid hnews
  clear ho hj hll hnews hspare hnl
  go_enter Try.func91, Try.ntmps91
  go_wp2_with fail
  go_region_held3 (fun w' => w'.heap.size = w'.heap.size) (first | exact rfl | trivial) ((refine step_append_room rfl (.tmp 22) (.tmp 25) 25 (by rfl) 3 i0 1 Try.underlying25 hi hz1 g 0 i cap (by rfl) A (n - j) (cap - j) news (by first | (simp [Act.eval]; done) | (simp [Act.eval]; exact hA)) N1.out hsrc.out N2.out hroom N3.out ?_))
  generalize hW4 : World.setCells _ g _ news = w4
  have hp : putAt (ints l) (0 + i * 1) news = ints (l.take i ++ l.drop j ++ l.drop (n - 1)) := by
    rw [show 0 + i * 1 = i by omega, HNW.out]
    exact put_left HLL.out HJ.out hjn
  have ho4 : w4.ownsRow base 3 1 (.slice (some ⟨g, 0, none⟩) n cap) n (ints (l.take i ++ l.drop j ++ l.drop (n - 1))) := by
    rw [← hp, ← hW4]; exact own_setCells (own_dr HO.out) _ _
  have hg4 : w.grownBy w4 (some g) := by rw [← hW4]; exact only_setCells (gro_dr (World.grownBy.refl _ _)) _ _
  clear hW4 hp
  obtain ⟨k, hk, hk2⟩ : ∃ k, i + (n - j) = k ∧ k + 1 = n := ⟨_, rfl, by have := HJ.out; omega⟩
  rw [hk] at hnc ⊢
  have hcl : ∀ ty, (Builtin.clear_ #[25] ty #[.slice (some ⟨g, k, none⟩) (n - k) (cap - k)]).run Try.prog w4 = .ok (.tuple #[]) (w4.setCells g k (List.replicate (n - k) (.int .i64 0))) :=
    fun ty => Lib.run_clear_slice w4 25 3 ty (.int .i64 0) Try.underlying25 (fun _ => by kernel_rfl) rfl rfl g k (n - k) (cap - k) (by omega) (fun t ht => by rw [own_cell ho4 (by omega)]; rfl) (fun t ht => ho4.frozenAt _)
  have HO4 := Lib.hid ho4
  have HG4 := Lib.hid hg4
  have HK := Lib.hid hk
  have HK2 := Lib.hid hk2
  have u0 : (0 : Int) ≤ (k : Int) := by omega
  have u1 : (k : Int) ≤ (n : Int) := by omega
  have u2 : (k : Int) ≤ (cap : Int) := by omega
  clear ho4 hg4 hk hk2
  go_wp2
  go_ret
  have e1 : n - 1 = k := by have := HK2.out; omega
  rw [e1]
  refine ⟨rfl, ?_, only_setCells HG4.out _ _⟩
  have h := own_cut (own_setCells HO4.out k (List.replicate (n - k) (.int .i64 0))) (show k ≤ n by omega)
  rw [putAt_take _ _ _ _ (Nat.le_refl k)] at h
  have e2 : (ints (l.take i ++ l.drop j ++ l.drop (n - 1))).take k = ints (l.take i ++ l.drop j) := by
    rw [ints_append, List.take_left' (by rw [ints_len, List.length_append, List.length_take, List.length_drop]; have := HK.out; have := HLL.out; omega)]
  rw [e2] at h
  exact h
end Go.Proofs.Ytemcdgchleijbaa
