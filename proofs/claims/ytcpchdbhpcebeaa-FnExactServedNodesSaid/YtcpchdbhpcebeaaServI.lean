/-
  ServedNodes: the program's side.
-/
import Derived.Test.YtcpchdbhpcebeaaServ
import Derived.Test.YtcpchdbhpcebeaaAnyI
import Derived.Test.YtcpchdbhpcebeaaSlc
import Derived.Deep.RegionLaw
namespace Go.Proofs.Ytcpchdbhpcebeaa
open Go.RowKit

theorem pick_ge_aux (f : List Ap) : ∀ (L : List Int) (st : List Int × List Int), (∀ y ∈ st.2, 0 ≤ y) → ∀ y ∈ (L.foldl (pickStep f) st).2, 0 ≤ y := by
  intro L
  induction L with
  | nil => intro st h; exact h
  | cons i L ih =>
    intro st h
    rw [List.foldl_cons]
    apply ih
    unfold pickStep
    split
    · rename_i hp
      intro y hy
      rcases List.mem_or_eq_of_mem_set hy with hy | rfl
      · exact h y hy
      · omega
    · exact h
theorem pick_ge {f : List Ap} {L need : List Int} (h : needB need = true) : ∀ y ∈ (pickL f L need).2, 0 ≤ y := pick_ge_aux f L ([], need) (fun y hy => ((needB_true h).2 y hy).1)
theorem max_zero_aux : ∀ (l : List Int) (x : Int), 0 ≤ x → (∀ y ∈ l, 0 ≤ y) → (l.foldl max x == 0) = (inB x 0 0 && l.all fun y => inB y 0 0) := by
  intro l
  induction l with
  | nil =>
    intro x hx _
    simp only [List.foldl_nil, List.all_nil, Bool.and_true]
    unfold inB
    by_cases h : x = 0
    · subst h; rfl
    · rw [decide_eq_true hx, decide_eq_false (show ¬ x ≤ 0 by omega)]; simp [h]
  | cons y l ih =>
    intro x hx hl
    have hy := hl y (by simp)
    rw [List.foldl_cons, ih (max x y) (by omega) (fun z hz => hl z (by simp [hz])), List.all_cons, ← Bool.and_assoc]
    congr 1
    unfold inB
    rw [decide_eq_true hx, decide_eq_true hy, decide_eq_true (show 0 ≤ max x y by omega)]
    simp only [Bool.true_and]
    by_cases h1 : x ≤ 0
    · by_cases h2 : y ≤ 0
      · rw [decide_eq_true h1, decide_eq_true h2, decide_eq_true (show max x y ≤ 0 by omega)]; rfl
      · rw [decide_eq_false h2, decide_eq_false (show ¬ max x y ≤ 0 by omega)]; simp
    · rw [decide_eq_false h1, decide_eq_false (show ¬ max x y ≤ 0 by omega)]; simp
theorem max_zero {l : List Int} (hl : 0 < l.length) (h : ∀ y ∈ l, 0 ≤ y) : (maxL l == 0) = l.all fun y => inB y 0 0 := by
  cases l with
  | nil => simp at hl
  | cons x l => unfold maxL; rw [max_zero_aux l x (h x (by simp)) (fun y hy => h y (by simp [hy])), List.all_cons]
theorem any_gt (p : Int → Int) (limit : Int) (l : List Int) : (l.any fun i => decide (limit < p i)) = !(l.all fun i => decide (p i ≤ limit)) := by
  induction l with
  | nil => rfl
  | cons y l ih =>
    rw [List.any_cons, List.all_cons, ih]
    by_cases h : p y ≤ limit
    · rw [decide_eq_true h, decide_eq_false (show ¬ limit < p y by omega)]; simp
    · rw [decide_eq_false h, decide_eq_true (show limit < p y by omega)]; simp
theorem serv_at {l : List St} {f : List Ap} {need : List Int} {limit : Int} {N k : Nat} {ev M : List Int} (hne : needB need = true) (hev : distT N (arcs l) k = ev) (hM : (pickL f (readyL ev f) need).1 = M) :
    servP l f need limit N k = ((!(M.any fun i => decide (limit < rdyKey ev f i))) && (maxL (missL f M need) == 0)) := by
  have hm : missL f M need = (pickL f (readyL ev f) need).2 := by rw [← hM, pick_miss]
  have hlen : 0 < (missL f M need).length := by
    have : ∀ (L d : List Int), (missL f L d).length = d.length := by
      intro L
      induction L with
      | nil => intro d; rfl
      | cons i L ih => intro d; unfold missL; rw [List.foldl_cons]; have := ih (missStep f d i); unfold missL at this; rw [this]; unfold missStep; simp
    rw [this, (needB_true hne).1]; omega
  rw [max_zero hlen (by rw [hm]; exact pick_ge hne), any_gt, Bool.not_not, hm]
  unfold servP
  rw [hev, hM, Bool.and_comm]

set_option maxRecDepth 100000 in
set_option maxHeartbeats 2000000 in
theorem late_c (ev : List Int) (f : List Ap) (C D E h cap b off c n : Nat) (x limit : Int) (W : World) (hC : W.cell? ⟨C, 0, none⟩ = some (.slice (some ⟨h, 0, none⟩) n cap)) (hD : W.cell? ⟨D, 0, none⟩ = some (.slice (some ⟨b, off, none⟩) f.length c)) (hE : W.cell? ⟨E, 0, none⟩ = some (.int .i64 limit))
    (hev : ∀ j, j < n → W.cell? ⟨h, j, none⟩ = some (.int .i64 (ev.getD j 0))) (hcell : ∀ j u, (f.flatMap Ap.cells)[j]? = some u → W.cell? ⟨b, off + j, none⟩ = some u) (hbl : b < W.heap.size)
    (hnd : ∀ a ∈ f, 0 ≤ a.nd ∧ a.nd ≤ (n : Int) - 1) (hx : ∃ (i : Nat) (a : Ap), x = (i : Int) ∧ f[i]? = some a) :
    Calls Try.prog 79 (#[.int .i64 x] ++ #[.pointer (some ⟨C, 0, none⟩), .pointer (some ⟨D, 0, none⟩), .pointer (some ⟨E, 0, none⟩)]) W fun e W' => e = .returned (.bool (decide (limit < rdyKey ev f x))) ∧ Below W.heap.size W W' := by
  obtain ⟨i, a, rfl, ha⟩ := hx
  obtain ⟨c0, c1, c2, c3, c4⟩ := ap_at hcell (Below.refl _ _) hbl ha
  have ni := hnd _ (List.mem_of_getElem? ha)
  have hk := rdyKey_at (ev := ev) ha
  have hif : i < f.length := (List.getElem?_eq_some_iff.1 ha).1
  obtain ⟨nm, kd, nd, cr, sv⟩ := a
  dsimp only at ni hk c0 c1 c2 c3 c4
  obtain ⟨ni0, ni1⟩ := ni
  obtain ⟨p, rfl⟩ := Int.eq_ofNat_of_zero_le ni0
  rw [Int.toNat_natCast] at hk
  have e1 := hev p (by omega)
  obtain ⟨t, ht⟩ : ∃ t, ev.getD p 0 = t := ⟨_, rfl⟩
  rw [ht] at e1 hk
  have HK := Lib.hid hk
  have p1 : (p : Int) < (n : Int) := by omega
  have i0 : (0 : Int) ≤ (i : Int) := by omega
  have i1 : (i : Int) < (f.length : Int) := by omega
  clear hcell hev hnd ht hk ni1 ha
  go_enter Try.func79, Try.ntmps79
  go_wp2_with fail
  go_quiet (fail)
  go_wp2
  go_ret
  rw [HK.out]
  exact ⟨by first | rfl | simp, below_drewN (Below.refl _ _) _⟩
end Go.Proofs.Ytcpchdbhpcebeaa
