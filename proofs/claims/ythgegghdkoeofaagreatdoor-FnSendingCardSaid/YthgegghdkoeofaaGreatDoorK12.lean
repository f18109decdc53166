/-
  Dispatch: a fleet in a town; the first appliance of which something holds. An appliance by its name: impl.findAppliance, spec.apFind. slices.IndexFunc and slices.ContainsFunc at ints, for a function value that may use memory of its own. (joined by pack.py: Dsp Find AnyI)
-/
import Derived.Test.YthgegghdkoeofaaGreatDoorK9
import Derived.Test.YthgegghdkoeofaaGreatDoorK11
import Derived.Shelf.Abstract
import Derived.Test.YthgegghdkoeofaaGreatDoorK3
namespace Go.Proofs.YthgegghdkoeofaaGreatDoor
set_option linter.unusedVariables false
set_option linter.unusedSimpArgs false
open Go.RowKit

def idxG {α : Type} (p : α → Bool) : List α → Int
  | [] => -1
  | y :: l => if p y = true then 0 else if idxG p l < 0 then -1 else idxG p l + 1
theorem idxG_none {α : Type} {p : α → Bool} {l : List α} (h : ∀ x ∈ l, p x = false) : idxG p l = -1 := by
  induction l with
  | nil => rfl
  | cons y l ih =>
    simp only [idxG]
    rw [if_neg (by rw [h y (by simp)]; simp), ih (fun x hx => h x (by simp [hx]))]; rfl
theorem idxG_at {α : Type} {p : α → Bool} : ∀ {l : List α} {x : α} {k : Nat}, l[k]? = some x → p x = true → (∀ y ∈ l.take k, p y = false) → idxG p l = (k : Int) := by
  intro l
  induction l with
  | nil => intro x k h; simp at h
  | cons y l ih =>
    intro x k h hp hn
    cases k with
    | zero => simp at h; subst h; simp only [idxG]; rw [if_pos hp]; rfl
    | succ k =>
      simp at h
      have e := ih h hp (fun z hz => hn z (by simp [hz]))
      simp only [idxG]
      rw [if_neg (by rw [hn y (by simp)]; simp), e, if_neg (by omega)]
      omega
theorem idxG_any {α : Type} (p : α → Bool) (l : List α) : decide (0 ≤ idxG p l) = l.any p ∧ -1 ≤ idxG p l := by
  induction l with
  | nil => exact ⟨rfl, by simp [idxG]⟩
  | cons y l ih =>
    rw [List.any_cons]
    by_cases hy : p y = true
    · have e : idxG p (y :: l) = 0 := by simp only [idxG]; rw [if_pos hy]
      rw [e, hy]; exact ⟨rfl, by omega⟩
    · have hn : p y = false := by simpa using hy
      by_cases h : idxG p l < 0
      · have e : idxG p (y :: l) = -1 := by simp only [idxG]; rw [if_neg hy, if_pos h]
        rw [e, hn, Bool.false_or, ← ih.1, decide_eq_false (by omega), decide_eq_false (by omega)]; exact ⟨rfl, by omega⟩
      · have e : idxG p (y :: l) = idxG p l + 1 := by simp only [idxG]; rw [if_neg hy, if_neg h]
        rw [e, hn, Bool.false_or, ← ih.1, decide_eq_true (by omega), decide_eq_true (by omega)]; exact ⟨rfl, by omega⟩
theorem idxG_get {α : Type} {p : α → Bool} : ∀ {l : List α} {k : Nat}, idxG p l = (k : Int) → ∃ x, l[k]? = some x ∧ p x = true := by
  intro l
  induction l with
  | nil => intro k h; simp only [idxG] at h; omega
  | cons y l ih =>
    intro k h
    simp only [idxG] at h
    split at h
    · obtain rfl : k = 0 := by omega
      exact ⟨y, rfl, by assumption⟩
    · split at h
      · omega
      · obtain ⟨k', rfl⟩ : ∃ k', k = k' + 1 := ⟨k - 1, by omega⟩
        obtain ⟨x, h1, h2⟩ := ih (k := k') (by omega)
        exact ⟨x, by simpa using h1, h2⟩
/-- The function value g answers p on the fleet, in whatever memory that keeps what is here. -/
def SaysA (g : Nat) (lb : Array Value) (p : Ap → Bool) (l : List Ap) (w : World) : Prop := ∀ x ∈ l, ∀ W, Below w.heap.size w W → Calls Tryz.prog g (#[.agg #[.string x.nm, .int .i64 x.kd, .int .i64 x.nd, .int .i64 x.cr, .int .i64 x.sv]] ++ lb) W fun e W' => e = .returned (.bool (p x)) ∧ Below W.heap.size W W'
set_option maxRecDepth 100000 in
set_option maxHeartbeats 1000000 in
theorem indexAp_c (g : Nat) (lb : Array Value) (eg : ∀ args w, (callFunc g args).run Tryz.prog w = .ok (.enter g args) w) (p : Ap → Bool) (v : Value) (l : List Ap) (w : World) (hp : SaysA g lb p l w) (hr : Rd w v l.length (l.flatMap Ap.cells)) :
    Calls Tryz.prog 114 #[v, .func (.func g) #[] lb] w fun e w' => e = .returned (.int .i64 (idxG p l)) ∧ Below w.heap.size w w' := by
  obtain ⟨A, c, rfl, hc, hm, hr⟩ := hr
  rw [maxLen_eq] at hm
  have HP := Lib.hid hp
  have HR := Lib.hid hr
  clear hp hr
  go_enter Tryz.func114, Tryz.ntmps114
  go_wp2_with fail
  go_loopw [8] (fun i wr => ∃ k : Nat, k ≤ l.length ∧ i = .int .i64 k ∧ Hid (∀ y ∈ l.take k, p y = false) ∧ Hid (Below w.heap.size w wr)) (fun i _ => l.length - (intOf i).toNat)
  case atStart => exact ⟨0, Nat.zero_le _, rfl, Lib.hid (by simp), Lib.hid (Below.refl _ _)⟩
  case round =>
    obtain ⟨k, hk, rfl, HN, HB⟩ := hrel
    by_cases hlt : k < l.length
    · obtain ⟨b, off, rfl, hbl, hcell⟩ := HR.out (by omega)
      obtain ⟨nm, kd, nd, cr, sv, hx, c0, c1, c2, c3, c4⟩ := ap_at' hcell HB.out hbl hlt
      have HX := Lib.hid hx
      have hcall := HP.out _ (List.mem_of_getElem? hx) _ HB.out
      dsimp only at hcall
      clear hcell hx
      by_cases hpy : p ⟨nm, kd, nd, cr, sv⟩ = true
      · rw [hpy] at hcall
        have HF := Lib.hid (idxG_at HX.out hpy HN.out)
        have HC := Lib.hid hcall
        clear hpy hcall
        go_wp2_with fail
        refine HC.out.mono ?_; rintro e w' ⟨rfl, hb2⟩
        have HB2 := Lib.hid (bel_then HB.out hb2)
        clear hb2
        go_wp2
        go_ret
        rw [HF.out]
        exact ⟨rfl, HB2.out⟩
      · have hpy' : p ⟨nm, kd, nd, cr, sv⟩ = false := by simpa using hpy
        rw [hpy'] at hcall
        have HN2 : Hid (∀ y ∈ l.take (k + 1), p y = false) := Lib.hid (fun y hy => by
          rw [take_succ_of HX.out] at hy
          rcases List.mem_append.1 hy with h | h
          · exact HN.out y h
          · rw [List.mem_singleton] at h; rw [h]; exact hpy')
        have HC := Lib.hid hcall
        clear hpy hpy' hcall
        go_wp2_with fail
        refine HC.out.mono ?_; rintro e w' ⟨rfl, hb2⟩
        have HB2 := Lib.hid (bel_then HB.out hb2)
        clear hb2
        go_wp2
        exact ⟨⟨k + 1, by omega, by go_num, HN2, HB2⟩, by simp [intOf]; omega⟩
    · obtain rfl : k = l.length := by omega
      have h := HN.out
      rw [List.take_length] at h
      have HF := Lib.hid (idxG_none h)
      clear h
      go_wp2
      go_ret
      rw [HF.out]
      exact ⟨rfl, HB.out⟩
set_option maxHeartbeats 1000000 in
theorem containsAp_c (g : Nat) (lb : Array Value) (eg : ∀ args w, (callFunc g args).run Tryz.prog w = .ok (.enter g args) w) (p : Ap → Bool) (v : Value) (l : List Ap) (w : World) (hp : SaysA g lb p l w) (hr : Rd w v l.length (l.flatMap Ap.cells)) :
    Calls Tryz.prog 134 #[v, .func (.func g) #[] lb] w fun e w' => e = .returned (.bool (l.any p)) ∧ Below w.heap.size w w' := by
  have HP := Lib.hid hp
  have HR := Lib.hid hr
  clear hp hr
  rw [← (idxG_any p l).1]
  go_enter Tryz.func134, Tryz.ntmps134
  go_wp2_with fail
  refine (indexAp_c g lb eg p _ l _ HP.out HR.out).mono ?_; rintro e w' ⟨rfl, hb⟩
  have HB := Lib.hid hb
  clear hb
  go_wp2
  go_ret
  exact ⟨rfl, HB.out⟩
def goodDs (n : Int) (l : List St) (f : List Ap) : Bool := goodTown n l && goodFl f && f.all fun a => inB a.nd 0 (n - 1)
theorem goodDs_true {n : Int} {l : List St} {f : List Ap} (h : goodDs n l f = true) : goodTown n l = true ∧ goodFl f = true ∧ ∀ a ∈ f, 0 ≤ a.nd ∧ a.nd ≤ n - 1 := by
  unfold goodDs at h
  simp only [Bool.and_eq_true, List.all_eq_true] at h
  exact ⟨h.1.1, h.1.2, fun a ha => inB_true (h.2 a ha)⟩
set_option maxHeartbeats 1000000 in
theorem fitsF_c (x : Ap) (n : Int) (B C : Nat) (w : World) (h1 : 1 ≤ n) (h2 : n ≤ 14) (c0 : w.cell? ⟨B, 0, none⟩ = some (.int .i64 n)) (c1 : w.cell? ⟨C, 0, none⟩ = some (.pointer (some ⟨B, 0, none⟩))) :
    Calls Tryz.prog 135 #[.agg #[.string x.nm, .int .i64 x.kd, .int .i64 x.nd, .int .i64 x.cr, .int .i64 x.sv], .pointer (some ⟨C, 0, none⟩)] w fun e w' => e = .returned (.bool (!(inB x.nd 0 (n - 1)))) ∧ Below w.heap.size w w' := by
  have hB := World.block_lt_of_cell? w _ c0
  have hC := World.block_lt_of_cell? w _ c1
  have c0' : ∀ o, (w.alloc o).cell? ⟨B, 0, none⟩ = some (.int .i64 n) := fun o => (World.cell?_alloc_lt _ _ _ hB).trans c0
  have c1' : ∀ o, (w.alloc o).cell? ⟨C, 0, none⟩ = some (.pointer (some ⟨B, 0, none⟩)) := fun o => (World.cell?_alloc_lt _ _ _ hC).trans c1
  go_enter Tryz.func135, Tryz.ntmps135
  go_wp2_with (go_at_call 88; refine (has_c n _ _ _ h1 h2 (c0' _)).mono ?_; rintro e w' ⟨rfl, rfl⟩)
  go_ret
  exact ⟨rfl, (by repeat (first | exact Below.refl _ _ | assumption | refine bel_al ?_ _ | refine bel_dr ?_ | refine below_drewN ?_ _ | refine bel_then ?_ (by assumption)))⟩
theorem not_anyG {α : Type} {p : α → Bool} {l : List α} : (!(l.any fun x => !(p x))) = l.all p := by
  induction l with
  | nil => rfl
  | cons y l ih => simp only [List.any_cons, List.all_cons]; rw [← ih]; cases p y <;> simp
set_option maxRecDepth 100000 in
set_option maxHeartbeats 2000000 in
theorem dispatchFits_c (n : Int) (s : Value) (l : List St) (v : Value) (f : List Ap) (B : Nat) (w : World) (t0 : w.cell? ⟨B, 0, none⟩ = some (.int .i64 n)) (t1 : w.cell? ⟨B, 1, none⟩ = some s) (hr : Rd w s l.length (l.flatMap St.cells)) (hz : ∀ x ∈ f, x.nm.size ≤ 9223372036854775807) (hf : Rd w v f.length (f.flatMap Ap.cells)) :
    Calls Tryz.prog 87 #[.pointer (some ⟨B, 0, none⟩), v] w fun e w' => e = .returned (.bool (goodDs n l f)) ∧ Below w.heap.size w w' := by
  have hB : B < w.heap.size := World.block_lt_of_cell? w _ t0
  have HR := Lib.hid hr
  have HF := Lib.hid hf
  have HZ := Lib.hid hz
  have T0 := Lib.hid t0
  have T1 := Lib.hid t1
  have hEG : ∀ args w, (callFunc 135 args).run Tryz.prog w = .ok (.enter 135 args) w := enters_of Tryz.func135 (by kernel_rfl) rfl
  have EG := Lib.hid hEG
  clear hr hf hz t0 t1 hEG
  go_enter Tryz.func87, Tryz.ntmps87
  go_wp2_with fail
  generalize hW : World.alloc w _ = w0
  have k0 : w0.cell? ⟨w.heap.size, 0, none⟩ = some (.pointer (some ⟨B, 0, none⟩)) := by subst hW; simp [go_sem]
  have hb0 : Below w.heap.size w w0 := by subst hW; exact bel_al (Below.refl _ _) _
  have z0 : w.heap.size < w0.heap.size := by subst hW; simp
  have HB := Lib.hid hb0
  have y0 := (hb0.cell (p := ⟨B, 0, none⟩) hB).trans T0.out
  have y1 := (hb0.cell (p := ⟨B, 1, none⟩) hB).trans T1.out
  clear hW hb0
  refine (isTown_c n s l B _ y0 y1 (rd_below HR.out HB.out)).mono ?_; rintro e w1 ⟨rfl, hb1⟩
  have k1 := (hb1.cell (p := ⟨w.heap.size, 0, none⟩) z0).trans k0
  have x0 := (hb1.cell (p := ⟨B, 0, none⟩) (Nat.lt_trans hB z0)).trans y0
  have HB1 := Lib.hid (bel_then HB.out hb1)
  have hs1 := hb1.size
  clear k0 y0 y1 hb1
  by_cases hg : goodTown n l = true
  · obtain ⟨hn1, hn2, _⟩ := goodTown_true hg
    have HG := Lib.hid hg
    rw [hg]
    clear hg
    go_wp2_with fail
    refine (isFleet_c _ f _ HZ.out (rd_below HF.out HB1.out)).mono ?_; rintro e w2 ⟨rfl, hb2⟩
    have k2 := (hb2.cell (p := ⟨w.heap.size, 0, none⟩) (by show w.heap.size < _; omega)).trans k1
    have x2 := (hb2.cell (p := ⟨B, 0, none⟩) (by show B < _; omega)).trans x0
    have HB2 := Lib.hid (bel_then HB1.out hb2)
    clear k1 x0 hb2
    by_cases hfl : goodFl f = true
    · have HFL := Lib.hid hfl
      rw [hfl]
      have hs : SaysA 135 #[.pointer (some ⟨w.heap.size, 0, none⟩)] (fun x => !(inB x.nd 0 (n - 1))) f w2 := fun x _ W hbW => fitsF_c x n B _ W hn1 hn2 ((hbW.cell (p := ⟨B, 0, none⟩) (by have := HB2.out.size; show B < _; omega)).trans x2) ((hbW.cell (p := ⟨w.heap.size, 0, none⟩) (World.block_lt_of_cell? w2 _ k2)).trans k2)
      have HS := Lib.hid hs
      clear hs hfl k2 x2
      go_wp2_with fail
      refine (containsAp_c 135 _ EG.out (fun x => !(inB x.nd 0 (n - 1))) _ f _ HS.out (rd_below HF.out HB2.out)).mono ?_; rintro e w3 ⟨rfl, hb3⟩
      have HB3 := Lib.hid (bel_then HB2.out hb3)
      clear hb3
      go_wp2
      go_ret
      refine ⟨?_, HB3.out⟩
      rw [not_anyG]
      unfold goodDs
      rw [HG.out, HFL.out]; rfl
    · have hfl : goodFl f = false := by simpa using hfl
      have HFL := Lib.hid hfl
      rw [hfl]
      go_wp2
      go_ret
      refine ⟨?_, HB2.out⟩
      unfold goodDs
      rw [HFL.out]; simp
  · have hg : goodTown n l = false := by simpa using hg
    have HG := Lib.hid hg
    rw [hg]
    go_wp2
    go_ret
    refine ⟨?_, HB1.out⟩
    unfold goodDs
    rw [HG.out]; simp

set_option maxRecDepth 100000 in
set_option maxHeartbeats 2000000 in
theorem dsGood_c (n : Int) (s : Value) (l : List St) (v : Value) (f : List Ap) (w : World) (hr : Rd w s l.length (l.flatMap St.cells)) (hz : ∀ x ∈ f, x.nm.size ≤ 9223372036854775807) (hf : Rd w v f.length (f.flatMap Ap.cells)) :
    Calls Tryz.prog 104 #[.agg #[.int .i64 n, s], v] w fun e w' => e = .returned (.bool (goodDs n l f)) ∧ Below w.heap.size w w' := by
  have HR := Lib.hid hr
  have HF := Lib.hid hf
  have HZ := Lib.hid hz
  obtain ⟨A, c, rfl, hc, hm, hcell0⟩ := hf
  rw [maxLen_eq] at hm
  have HCELL := Lib.hid hcell0
  clear hr hz hcell0
  go_enter Tryz.func104, Tryz.ntmps104
  go_wp2_with fail
  (generalize hw1 : World.alloc w _ = w1; have k0 : w1.cell? ⟨w.heap.size, 0, none⟩ = some (.int .i64 n) := (by subst hw1; simp [go_sem]); have k1 : w1.cell? ⟨w.heap.size, 1, none⟩ = some s := (by subst hw1; simp [go_sem]); have hb0 : Below w.heap.size w w1 := (by subst hw1; exact bel_al (Below.refl _ _) _); have hsz1 : w.heap.size < w1.heap.size := (by subst hw1; simp); clear hw1)
  have HB := Lib.hid hb0
  refine (toGood_c n s l _ (rd_below HR.out HB.out)).mono ?_; rintro e w2 ⟨rfl, hb1⟩
  have e0 := (hb1.cell (p := ⟨w.heap.size, 0, none⟩) (by show w.heap.size < _; omega)).trans k0
  have HB1 := Lib.hid (bel_then HB.out hb1)
  have hs1 := hb1.size
  clear k0 k1 hb0 hb1
  by_cases hg : goodTown n l = true
  · obtain ⟨hn1, hn2, _⟩ := goodTown_true hg
    have HG := Lib.hid hg
    rw [hg]
    clear hg
    go_wp2_with fail
    refine (apFleet_c _ f _ HZ.out (rd_below HF.out HB1.out)).mono ?_; rintro e w3 ⟨rfl, hb2⟩
    have e1 := (hb2.cell (p := ⟨w.heap.size, 0, none⟩) (by show w.heap.size < _; omega)).trans e0
    have E1 := Lib.hid e1
    have HB2 := Lib.hid (bel_then HB1.out hb2)
    have hs2 := hb2.size
    clear e0 e1 hb2
    by_cases hfl : goodFl f = true
    · have HFL := Lib.hid hfl
      rw [hfl]
      clear hfl
      go_wp2_with fail
      go_loopw [17] (fun i wr => ∃ k : Nat, k ≤ f.length ∧ i = .int .i64 k ∧ Hid (∀ a ∈ f.take k, inB a.nd 0 (n - 1) = true) ∧ Hid (Below w3.heap.size w3 wr)) (fun i _ => f.length - (intOf i).toNat)
      case atStart => exact ⟨0, Nat.zero_le _, rfl, Lib.hid (by simp), Lib.hid (Below.refl _ _)⟩
      case round =>
        obtain ⟨k, hk, rfl, HA, HBL⟩ := hrel
        by_cases hlt : k < f.length
        · obtain ⟨b, off, rfl, hbl, hcell⟩ := HCELL.out (by omega)
          obtain ⟨nm, kd, nd, cr, sv, hx, c0, c1, c2, c3, c4⟩ := ap_at' hcell (bel_then HB2.out HBL.out) hbl hlt
          have hgood := (goodFl_true HFL.out).2 _ (List.mem_of_getElem? hx)
          have hnd := goodAp_true hgood
          dsimp only at hnd
          obtain ⟨_, _, _, hnd0, hnd1, _⟩ := hnd
          have HX := Lib.hid hx
          have d0 := (HBL.out.cell (p := ⟨w.heap.size, 0, none⟩) (by show w.heap.size < _; omega)).trans E1.out
          have dd : ∀ o, (wr.alloc o).cell? ⟨w.heap.size, 0, none⟩ = some (.int .i64 n) := fun o => (World.cell?_alloc_lt _ _ _ (by have := HBL.out.size; show w.heap.size < _; omega)).trans d0
          clear hcell hx hgood
          by_cases hin : nd ≤ n - 1
          · have hlt2 : nd < n := by omega
            have HA2 : Hid (∀ a ∈ f.take (k + 1), inB a.nd 0 (n - 1) = true) := Lib.hid (fun a ha => by
              rw [take_succ_of HX.out] at ha
              rcases List.mem_append.1 ha with h | h
              · exact HA.out a h
              · rw [List.mem_singleton] at h; rw [h]; exact inB_of hnd0 hin)
            clear hin
            go_wp2
            exact ⟨⟨k + 1, by omega, by go_num, HA2, Lib.hid (bel_al HBL.out _)⟩, by simp [intOf]; omega⟩
          · have hge : n ≤ nd := by omega
            have HNO : Hid (goodDs n l f = false) := Lib.hid (by
              unfold goodDs
              rw [show (f.all fun a => inB a.nd 0 (n - 1)) = false from List.all_eq_false.2 ⟨_, List.mem_of_getElem? HX.out, by unfold inB; rw [decide_eq_false hin]; simp⟩]; simp)
            clear hin
            go_wp2
            go_ret
            rw [HNO.out]
            exact ⟨rfl, bel_then HB2.out (bel_al HBL.out _)⟩
        · obtain rfl : k = f.length := by omega
          have HYES : Hid (goodDs n l f = true) := Lib.hid (by
            have h := HA.out
            rw [List.take_length] at h
            unfold goodDs
            rw [HG.out, HFL.out, show (f.all fun a => inB a.nd 0 (n - 1)) = true from List.all_eq_true.2 h]; rfl)
          go_wp2
          go_ret
          rw [HYES.out]
          exact ⟨rfl, bel_then HB2.out HBL.out⟩
    · have hfl : goodFl f = false := by simpa using hfl
      have HFL := Lib.hid hfl
      rw [hfl]
      go_wp2
      go_ret
      refine ⟨?_, HB2.out⟩
      unfold goodDs
      rw [HFL.out]; simp
  · have hg : goodTown n l = false := by simpa using hg
    have HG := Lib.hid hg
    rw [hg]
    go_wp2
    go_ret
    refine ⟨?_, HB1.out⟩
    unfold goodDs
    rw [HG.out]; simp
def askD (n : Int) (l : List St) (f : List Ap) (x : Int) : Bool := goodDs n l f && inB x 0 (n - 1)
theorem askD_true {n : Int} {l : List St} {f : List Ap} {x : Int} (h : askD n l f x = true) : goodDs n l f = true ∧ 0 ≤ x ∧ x ≤ n - 1 := by
  unfold askD at h
  rw [Bool.and_eq_true] at h
  exact ⟨h.1, inB_true h.2⟩
set_option maxRecDepth 100000 in
set_option maxHeartbeats 2000000 in
theorem toNode_c (n : Int) (s : Value) (l : List St) (x : Int) (w : World) (hg : goodTown n l = true) (hr : Rd w s l.length (l.flatMap St.cells)) :
    Calls Tryz.prog 131 #[.agg #[.int .i64 n, s], .int .i64 x] w fun e w' => e = .returned (.bool (inB x 0 (n - 1))) ∧ Below w.heap.size w w' := by
  obtain ⟨hn1, hn2, _⟩ := goodTown_true hg
  have HR := Lib.hid hr
  have HG := Lib.hid hg
  clear hr hg
  go_enter Tryz.func131, Tryz.ntmps131
  go_wp2_with fail
  (generalize hw1 : World.alloc w _ = w1; have k0 : w1.cell? ⟨w.heap.size, 0, none⟩ = some (.int .i64 n) := (by subst hw1; simp [go_sem]); have k1 : w1.cell? ⟨w.heap.size, 1, none⟩ = some s := (by subst hw1; simp [go_sem]); have hb0 : Below w.heap.size w w1 := (by subst hw1; exact bel_al (Below.refl _ _) _); have hsz1 : w.heap.size < w1.heap.size := (by subst hw1; simp); clear hw1)
  have HB := Lib.hid hb0
  refine (toGood_c n s l _ (rd_below HR.out HB.out)).mono ?_; rw [HG.out]; rintro e w2 ⟨rfl, hb1⟩
  have e0 := (hb1.cell (p := ⟨w.heap.size, 0, none⟩) (by show w.heap.size < _; omega)).trans k0
  have HB1 := Lib.hid (bel_then HB.out hb1)
  clear k0 k1 hb0 hb1
  go_wp2_with (go_at_call 66; refine (l1In_c _ _ _ _).mono ?_; rintro e w' ⟨rfl, rfl⟩)
  go_ret
  exact ⟨rfl, HB1.out⟩
set_option maxRecDepth 100000 in
set_option maxHeartbeats 2000000 in
theorem dsAsked_c (n : Int) (s : Value) (l : List St) (v : Value) (f : List Ap) (x : Int) (w : World) (hr : Rd w s l.length (l.flatMap St.cells)) (hz : ∀ x ∈ f, x.nm.size ≤ 9223372036854775807) (hf : Rd w v f.length (f.flatMap Ap.cells)) :
    Calls Tryz.prog 83 #[.agg #[.int .i64 n, s], v, .int .i64 x] w fun e w' => e = .returned (.bool (askD n l f x)) ∧ Below w.heap.size w w' := by
  have HR := Lib.hid hr
  have HF := Lib.hid hf
  have HZ := Lib.hid hz
  clear hr hz hf
  go_enter Tryz.func83, Tryz.ntmps83
  go_wp2_with fail
  (generalize hw1 : World.alloc w _ = w1; have k0 : w1.cell? ⟨w.heap.size, 0, none⟩ = some (.int .i64 n) := (by subst hw1; simp [go_sem]); have k1 : w1.cell? ⟨w.heap.size, 1, none⟩ = some s := (by subst hw1; simp [go_sem]); have hb0 : Below w.heap.size w w1 := (by subst hw1; exact bel_al (Below.refl _ _) _); have hsz1 : w.heap.size < w1.heap.size := (by subst hw1; simp); clear hw1)
  have HB := Lib.hid hb0
  refine (dsGood_c n s l _ f _ (rd_below HR.out HB.out) HZ.out (rd_below HF.out HB.out)).mono ?_; rintro e w2 ⟨rfl, hb1⟩
  have e0 := (hb1.cell (p := ⟨w.heap.size, 0, none⟩) (by show w.heap.size < _; omega)).trans k0
  have e1 := (hb1.cell (p := ⟨w.heap.size, 1, none⟩) (by show w.heap.size < _; omega)).trans k1
  have HB1 := Lib.hid (bel_then HB.out hb1)
  clear k0 k1 hb0 hb1
  by_cases hg : goodDs n l f = true
  · have HG := Lib.hid hg
    have HT := Lib.hid (goodDs_true hg).1
    rw [hg]
    clear hg
    go_wp2_with fail
    refine (toNode_c n s l x _ HT.out (rd_below HR.out HB1.out)).mono ?_; rintro e w3 ⟨rfl, hb2⟩
    have HB2 := Lib.hid (bel_then HB1.out hb2)
    clear hb2
    go_wp2
    go_ret
    refine ⟨?_, HB2.out⟩
    unfold askD
    rw [HG.out]; rfl
  · have hg : goodDs n l f = false := by simpa using hg
    have HG := Lib.hid hg
    rw [hg]
    go_wp2
    go_ret
    refine ⟨?_, HB1.out⟩
    unfold askD
    rw [HG.out]; rfl
end Go.Proofs.YthgegghdkoeofaaGreatDoor

namespace Go.Proofs.YthgegghdkoeofaaGreatDoor
set_option linter.unusedVariables false
set_option linter.unusedSimpArgs false
open Go.RowKit

def findA (nm : ByteArray) (f : List Ap) : Int := idxG (fun a => decide (a.nm = nm)) f
theorem beq_nm (a b : ByteArray) : (a.toList == b.toList) = decide (a = b) := by
  by_cases h : a = b
  · subst h; simp
  · rw [decide_eq_false h]; exact beq_false_of_ne (fun e => h ((bl_iff _ _).1 e))
set_option maxHeartbeats 1000000 in
theorem isNm_c (x : Ap) (nm : ByteArray) (C : Nat) (w : World) (c0 : w.cell? ⟨C, 0, none⟩ = some (.string nm)) :
    Calls Tryz.prog 115 #[.agg #[.string x.nm, .int .i64 x.kd, .int .i64 x.nd, .int .i64 x.cr, .int .i64 x.sv], .pointer (some ⟨C, 0, none⟩)] w fun e w' => e = .returned (.bool (decide (x.nm = nm))) ∧ Below w.heap.size w w' := by
  have hC := World.block_lt_of_cell? w _ c0
  have c0' : ∀ o, (w.alloc o).cell? ⟨C, 0, none⟩ = some (.string nm) := fun o => (World.cell?_alloc_lt _ _ _ hC).trans c0
  rw [← beq_nm]
  go_enter Tryz.func115, Tryz.ntmps115
  go_wp2
  go_ret
  exact ⟨rfl, (by repeat (first | exact Below.refl _ _ | assumption | refine bel_al ?_ _ | refine bel_dr ?_ | refine below_drewN ?_ _ | refine bel_then ?_ (by assumption)))⟩
set_option maxRecDepth 100000 in
set_option maxHeartbeats 1000000 in
theorem findI_c (v : Value) (f : List Ap) (nm : ByteArray) (w : World) (hf : Rd w v f.length (f.flatMap Ap.cells)) :
    Calls Tryz.prog 52 #[v, .string nm] w fun e w' => e = .returned (.int .i64 (findA nm f)) ∧ Below w.heap.size w w' := by
  have HF := Lib.hid hf
  have hEG : ∀ args w, (callFunc 115 args).run Tryz.prog w = .ok (.enter 115 args) w := enters_of Tryz.func115 (by kernel_rfl) rfl
  have EG := Lib.hid hEG
  clear hf hEG
  go_enter Tryz.func52, Tryz.ntmps52
  go_wp2_with fail
  generalize hW : World.alloc w _ = w0
  have k0 : w0.cell? ⟨w.heap.size, 0, none⟩ = some (.string nm) := by subst hW; simp [go_sem]
  have hb0 : Below w.heap.size w w0 := by subst hW; exact bel_al (Below.refl _ _) _
  have z0 : w.heap.size < w0.heap.size := by subst hW; simp
  have HB := Lib.hid hb0
  have hs : SaysA 115 #[.pointer (some ⟨w.heap.size, 0, none⟩)] (fun a => decide (a.nm = nm)) f w0 := fun x _ W hbW => isNm_c x nm _ W ((hbW.cell (p := ⟨w.heap.size, 0, none⟩) z0).trans k0)
  have HS := Lib.hid hs
  clear hW hb0 k0 hs
  refine (indexAp_c 115 _ EG.out (fun a => decide (a.nm = nm)) _ f _ HS.out (rd_below HF.out HB.out)).mono ?_; rintro e w3 ⟨rfl, hb3⟩
  have HB3 := Lib.hid (bel_then HB.out hb3)
  clear hb3
  go_wp2
  go_ret
  exact ⟨rfl, HB3.out⟩
set_option maxRecDepth 100000 in
set_option maxHeartbeats 1000000 in
theorem apFind_c (v : Value) (f : List Ap) (nm : ByteArray) (w : World) (hf : Rd w v f.length (f.flatMap Ap.cells)) :
    Calls Tryz.prog 58 #[v, .string nm] w fun e w' => e = .returned (.int .i64 (findA nm f)) ∧ Below w.heap.size w w' := by
  obtain ⟨A, c, rfl, hc, hm, hr⟩ := hf
  rw [maxLen_eq] at hm
  go_enter Tryz.func58, Tryz.ntmps58
  go_wp2_with fail
  go_loopw [9] (fun i wr => ∃ k : Nat, k ≤ f.length ∧ i = .int .i64 k ∧ Hid (∀ y ∈ f.take k, decide (y.nm = nm) = false) ∧ Hid (Below w.heap.size w wr)) (fun i _ => f.length - (intOf i).toNat)
  case atStart => exact ⟨0, Nat.zero_le _, rfl, Lib.hid (by simp), Lib.hid (Below.refl _ _)⟩
  case round =>
    obtain ⟨k, hk, rfl, HN, HB⟩ := hrel
    by_cases hlt : k < f.length
    · obtain ⟨b, off, rfl, hbl, hcell⟩ := hr (by omega)
      obtain ⟨n2, kd, nd, cr, sv, hx, c0, c1, c2, c3, c4⟩ := ap_at' hcell HB.out hbl hlt
      have HX := Lib.hid hx
      clear hcell hx
      by_cases hpy : n2 = nm
      · have e0 : (n2.toList == nm.toList) = true := by rw [hpy]; simp
        have HF := Lib.hid (idxG_at (p := fun (a : Ap) => decide (a.nm = nm)) HX.out (decide_eq_true hpy) HN.out)
        clear hpy
        go_wp2
        go_ret
        refine ⟨?_, bel_al HB.out _⟩
        unfold findA
        rw [HF.out]; rfl
      · have e0 : (n2.toList == nm.toList) = false := by rw [beq_nm]; exact decide_eq_false hpy
        have HN2 : Hid (∀ y ∈ f.take (k + 1), decide (y.nm = nm) = false) := Lib.hid (fun y hy => by
          rw [take_succ_of HX.out] at hy
          rcases List.mem_append.1 hy with h | h
          · exact HN.out y h
          · rw [List.mem_singleton] at h; rw [h]; exact decide_eq_false hpy)
        clear hpy
        go_wp2
        exact ⟨⟨k + 1, by omega, by go_num, HN2, Lib.hid (bel_al HB.out _)⟩, by simp [intOf]; omega⟩
    · obtain rfl : k = f.length := by omega
      have h := HN.out
      rw [List.take_length] at h
      have HF := Lib.hid (idxG_none (p := fun (a : Ap) => decide (a.nm = nm)) h)
      clear h
      go_wp2
      go_ret
      unfold findA
      rw [HF.out]
      exact ⟨rfl, HB.out⟩
end Go.Proofs.YthgegghdkoeofaaGreatDoor

namespace Go.Proofs.YthgegghdkoeofaaGreatDoor
set_option linter.unusedVariables false
set_option linter.unusedSimpArgs false
open Go.RowKit

/-- The function value g answers p on the list, in whatever memory that keeps what is here. -/
def SaysI (g : Nat) (lb : Array Value) (p : Int → Bool) (l : List Int) (w : World) : Prop := ∀ x ∈ l, ∀ W, Below w.heap.size w W → Calls Tryz.prog g (#[.int .i64 x] ++ lb) W fun e W' => e = .returned (.bool (p x)) ∧ Below W.heap.size W W'
set_option maxRecDepth 100000 in
set_option maxHeartbeats 1000000 in
theorem indexI_c (g : Nat) (lb : Array Value) (eg : ∀ args w, (callFunc g args).run Tryz.prog w = .ok (.enter g args) w) (p : Int → Bool) (v : Value) (l : List Int) (w : World) (hp : SaysI g lb p l w) (hr : RdI w v l) :
    Calls Tryz.prog 139 #[v, .func (.func g) #[] lb] w fun e w' => e = .returned (.int .i64 (idxG p l)) ∧ Below w.heap.size w w' := by
  obtain ⟨A, c, rfl, hc, hm, hr⟩ := hr
  rw [maxLen_eq] at hm
  have HP := Lib.hid hp
  have HR := Lib.hid hr
  clear hp hr
  go_enter Tryz.func139, Tryz.ntmps139
  go_wp2_with fail
  go_loopw [8] (fun i wr => ∃ k : Nat, k ≤ l.length ∧ i = .int .i64 k ∧ Hid (∀ y ∈ l.take k, p y = false) ∧ Hid (Below w.heap.size w wr)) (fun i _ => l.length - (intOf i).toNat)
  case atStart => exact ⟨0, Nat.zero_le _, rfl, Lib.hid (by simp), Lib.hid (Below.refl _ _)⟩
  case round =>
    obtain ⟨k, hk, rfl, HN, HB⟩ := hrel
    by_cases hlt : k < l.length
    · obtain ⟨b, off, rfl, hbl, hcell⟩ := HR.out (by omega)
      obtain ⟨y, hx⟩ : ∃ y, l[k]? = some y := ⟨_, List.getElem?_eq_getElem hlt⟩
      have c0 := cell_at hcell HB.out hbl (ints_get hx)
      have HX := Lib.hid hx
      have hcall := HP.out _ (List.mem_of_getElem? hx) _ HB.out
      clear hcell hx
      by_cases hpy : p y = true
      · rw [hpy] at hcall
        have HF := Lib.hid (idxG_at HX.out hpy HN.out)
        have HC := Lib.hid hcall
        clear hpy hcall
        go_wp2_with fail
        refine HC.out.mono ?_; rintro e w' ⟨rfl, hb2⟩
        have HB2 := Lib.hid (bel_then HB.out hb2)
        clear hb2
        go_wp2
        go_ret
        rw [HF.out]
        exact ⟨rfl, HB2.out⟩
      · have hpy' : p y = false := by simpa using hpy
        rw [hpy'] at hcall
        have HN2 : Hid (∀ y ∈ l.take (k + 1), p y = false) := Lib.hid (fun y hy => by
          rw [take_succ_of HX.out] at hy
          rcases List.mem_append.1 hy with h | h
          · exact HN.out y h
          · rw [List.mem_singleton] at h; rw [h]; exact hpy')
        have HC := Lib.hid hcall
        clear hpy hpy' hcall
        go_wp2_with fail
        refine HC.out.mono ?_; rintro e w' ⟨rfl, hb2⟩
        have HB2 := Lib.hid (bel_then HB.out hb2)
        clear hb2
        go_wp2
        exact ⟨⟨k + 1, by omega, by go_num, HN2, HB2⟩, by simp [intOf]; omega⟩
    · obtain rfl : k = l.length := by omega
      have h := HN.out
      rw [List.take_length] at h
      have HF := Lib.hid (idxG_none h)
      clear h
      go_wp2
      go_ret
      rw [HF.out]
      exact ⟨rfl, HB.out⟩
set_option maxHeartbeats 1000000 in
theorem containsI_c (g : Nat) (lb : Array Value) (eg : ∀ args w, (callFunc g args).run Tryz.prog w = .ok (.enter g args) w) (p : Int → Bool) (v : Value) (l : List Int) (w : World) (hp : SaysI g lb p l w) (hr : RdI w v l) :
    Calls Tryz.prog 100 #[v, .func (.func g) #[] lb] w fun e w' => e = .returned (.bool (l.any p)) ∧ Below w.heap.size w w' := by
  have HP := Lib.hid hp
  have HR := Lib.hid hr
  clear hp hr
  rw [← (idxG_any p l).1]
  go_enter Tryz.func100, Tryz.ntmps100
  go_wp2_with fail
  refine (indexI_c g lb eg p _ l _ HP.out HR.out).mono ?_; rintro e w' ⟨rfl, hb⟩
  have HB := Lib.hid hb
  clear hb
  go_wp2
  go_ret
  exact ⟨rfl, HB.out⟩
end Go.Proofs.YthgegghdkoeofaaGreatDoor
