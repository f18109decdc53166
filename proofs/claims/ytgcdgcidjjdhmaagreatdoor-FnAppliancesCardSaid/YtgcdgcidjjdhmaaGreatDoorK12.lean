/-
  Dispatch: a fleet in a town; the first appliance of which something holds. An appliance by its name: impl.findAppliance, spec.apFind. (joined by pack.py: Dsp Find)
-/
import Derived.Test.YtgcdgcidjjdhmaaGreatDoorK9
import Derived.Test.YtgcdgcidjjdhmaaGreatDoorK11
import Derived.Shelf.Abstract
namespace Go.Proofs.YtgcdgcidjjdhmaaGreatDoor
set_option linter.unusedVariables false
set_option linter.unusedSimpArgs false
open Go.RowKit

def idxG {α : Type} (p : α → Bool) : List α → Int
  | [] => -1
  | y :: l => if p y = true then 0 else if idxG p l < 0 then -1 else idxG p l + 1
theorem idxG_none {α : Type} {p : α → Bool} {l : List α} (h : ∀ x ∈ l, p x = false) : idxG p l = -1 := by
  induction l with
  | nil => rfl
  | cons y l ih =>
    simp only [idxG]
    rw [if_neg (by rw [h y (by simp)]; simp), ih (fun x hx => h x (by simp [hx]))]; rfl
theorem idxG_at {α : Type} {p : α → Bool} : ∀ {l : List α} {x : α} {k : Nat}, l[k]? = some x → p x = true → (∀ y ∈ l.take k, p y = false) → idxG p l = (k : Int) := by
  intro l
  induction l with
  | nil => intro x k h; simp at h
  | cons y l ih =>
    intro x k h hp hn
    cases k with
    | zero => simp at h; subst h; simp only [idxG]; rw [if_pos hp]; rfl
    | succ k =>
      simp at h
      have e := ih h hp (fun z hz => hn z (by simp [hz]))
      simp only [idxG]
      rw [if_neg (by rw [hn y (by simp)]; simp), e, if_neg (by omega)]
      omega
theorem idxG_any {α : Type} (p : α → Bool) (l : List α) : decide (0 ≤ idxG p l) = l.any p ∧ -1 ≤ idxG p l := by
  induction l with
  | nil => exact ⟨rfl, by simp [idxG]⟩
  | cons y l ih =>
    rw [List.any_cons]
    by_cases hy : p y = true
    · have e : idxG p (y :: l) = 0 := by simp only [idxG]; rw [if_pos hy]
      rw [e, hy]; exact ⟨rfl, by omega⟩
    · have hn : p y = false := by simpa using hy
      by_cases h : idxG p l < 0
      · have e : idxG p (y :: l) = -1 := by simp only [idxG]; rw [if_neg hy, if_pos h]
        rw [e, hn, Bool.false_or, ← ih.1, decide_eq_false (by omega), decide_eq_false (by omega)]; exact ⟨rfl, by omega⟩
      · have e : idxG p (y :: l) = idxG p l + 1 := by simp only [idxG]; rw [if_neg hy, if_neg h]
        rw [e, hn, Bool.false_or, ← ih.1, decide_eq_true (by omega), decide_eq_true (by omega)]; exact ⟨rfl, by omega⟩
theorem idxG_get {α : Type} {p : α → Bool} : ∀ {l : List α} {k : Nat}, idxG p l = (k : Int) → ∃ x, l[k]? = some x ∧ p x = true := by
  intro l
  induction l with
  | nil => intro k h; simp only [idxG] at h; omega
  | cons y l ih =>
    intro k h
    simp only [idxG] at h
    split at h
    · obtain rfl : k = 0 := by omega
      exact ⟨y, rfl, by assumption⟩
    · split at h
      · omega
      · obtain ⟨k', rfl⟩ : ∃ k', k = k' + 1 := ⟨k - 1, by omega⟩
        obtain ⟨x, h1, h2⟩ := ih (k := k') (by omega)
        exact ⟨x, by simpa using h1, h2⟩
/-- The function value g answers p on the fleet, in whatever memory that keeps what is here. -/
def SaysA (g : Nat) (lb : Array Value) (p : Ap → Bool) (l : List Ap) (w : World) : Prop := ∀ x ∈ l, ∀ W, Below w.heap.size w W → Calls Tryz.prog g (#[.agg #[.string x.nm, .int .i64 x.kd, .int .i64 x.nd, .int .i64 x.cr, .int .i64 x.sv]] ++ lb) W fun e W' => e = .returned (.bool (p x)) ∧ Below W.heap.size W W'
set_option maxRecDepth 100000 in
set_option maxHeartbeats 1000000 in
theorem indexAp_c (g : Nat) (lb : Array Value) (eg : ∀ args w, (callFunc g args).run Tryz.prog w = .ok (.enter g args) w) (p : Ap → Bool) (v : Value) (l : List Ap) (w : World) (hp : SaysA g lb p l w) (hr : Rd w v l.length (l.flatMap Ap.cells)) :
    Calls Tryz.prog 58 #[v, .func (.func g) #[] lb] w fun e w' => e = .returned (.int .i64 (idxG p l)) ∧ Below w.heap.size w w' := by
  obtain ⟨A, c, rfl, hc, hm, hr⟩ := hr
  rw [maxLen_eq] at hm
  have HP := Lib.hid hp
  have HR := Lib.hid hr
  clear hp hr
  go_enter Tryz.func58, Tryz.ntmps58
  go_wp2_with fail
  go_loopw [8] (fun i wr => ∃ k : Nat, k ≤ l.length ∧ i = .int .i64 k ∧ Hid (∀ y ∈ l.take k, p y = false) ∧ Hid (Below w.heap.size w wr)) (fun i _ => l.length - (intOf i).toNat)
  case atStart => exact ⟨0, Nat.zero_le _, rfl, Lib.hid (by simp), Lib.hid (Below.refl _ _)⟩
  case round =>
    obtain ⟨k, hk, rfl, HN, HB⟩ := hrel
    by_cases hlt : k < l.length
    · obtain ⟨b, off, rfl, hbl, hcell⟩ := HR.out (by omega)
      obtain ⟨nm, kd, nd, cr, sv, hx, c0, c1, c2, c3, c4⟩ := ap_at' hcell HB.out hbl hlt
      have HX := Lib.hid hx
      have hcall := HP.out _ (List.mem_of_getElem? hx) _ HB.out
      dsimp only at hcall
      clear hcell hx
      by_cases hpy : p ⟨nm, kd, nd, cr, sv⟩ = true
      · rw [hpy] at hcall
        have HF := Lib.hid (idxG_at HX.out hpy HN.out)
        have HC := Lib.hid hcall
        clear hpy hcall
        go_wp2_with fail
        refine HC.out.mono ?_; rintro e w' ⟨rfl, hb2⟩
        have HB2 := Lib.hid (bel_then HB.out hb2)
        clear hb2
        go_wp2
        go_ret
        rw [HF.out]
        exact ⟨rfl, HB2.out⟩
      · have hpy' : p ⟨nm, kd, nd, cr, sv⟩ = false := by simpa using hpy
        rw [hpy'] at hcall
        have HN2 : Hid (∀ y ∈ l.take (k + 1), p y = false) := Lib.hid (fun y hy => by
          rw [take_succ_of HX.out] at hy
          rcases List.mem_append.1 hy with h | h
          · exact HN.out y h
          · rw [List.mem_singleton] at h; rw [h]; exact hpy')
        have HC := Lib.hid hcall
        clear hpy hpy' hcall
        go_wp2_with fail
        refine HC.out.mono ?_; rintro e w' ⟨rfl, hb2⟩
        have HB2 := Lib.hid (bel_then HB.out hb2)
        clear hb2
        go_wp2
        exact ⟨⟨k + 1, by omega, by go_num, HN2, HB2⟩, by simp [intOf]; omega⟩
    · obtain rfl : k = l.length := by omega
      have h := HN.out
      rw [List.take_length] at h
      have HF := Lib.hid (idxG_none h)
      clear h
      go_wp2
      go_ret
      rw [HF.out]
      exact ⟨rfl, HB.out⟩
def goodDs (n : Int) (l : List St) (f : List Ap) : Bool := goodTown n l && goodFl f && f.all fun a => inB a.nd 0 (n - 1)
theorem goodDs_true {n : Int} {l : List St} {f : List Ap} (h : goodDs n l f = true) : goodTown n l = true ∧ goodFl f = true ∧ ∀ a ∈ f, 0 ≤ a.nd ∧ a.nd ≤ n - 1 := by
  unfold goodDs at h
  simp only [Bool.and_eq_true, List.all_eq_true] at h
  exact ⟨h.1.1, h.1.2, fun a ha => inB_true (h.2 a ha)⟩
theorem not_anyG {α : Type} {p : α → Bool} {l : List α} : (!(l.any fun x => !(p x))) = l.all p := by
  induction l with
  | nil => rfl
  | cons y l ih => simp only [List.any_cons, List.all_cons]; rw [← ih]; cases p y <;> simp
def askD (n : Int) (l : List St) (f : List Ap) (x : Int) : Bool := goodDs n l f && inB x 0 (n - 1)
theorem askD_true {n : Int} {l : List St} {f : List Ap} {x : Int} (h : askD n l f x = true) : goodDs n l f = true ∧ 0 ≤ x ∧ x ≤ n - 1 := by
  unfold askD at h
  rw [Bool.and_eq_true] at h
  exact ⟨h.1, inB_true h.2⟩
end Go.Proofs.YtgcdgcidjjdhmaaGreatDoor

namespace Go.Proofs.YtgcdgcidjjdhmaaGreatDoor
set_option linter.unusedVariables false
set_option linter.unusedSimpArgs false
open Go.RowKit

def findA (nm : ByteArray) (f : List Ap) : Int := idxG (fun a => decide (a.nm = nm)) f
theorem beq_nm (a b : ByteArray) : (a.toList == b.toList) = decide (a = b) := by
  by_cases h : a = b
  · subst h; simp
  · rw [decide_eq_false h]; exact beq_false_of_ne (fun e => h ((bl_iff _ _).1 e))
set_option maxHeartbeats 1000000 in
theorem isNm_c (x : Ap) (nm : ByteArray) (C : Nat) (w : World) (c0 : w.cell? ⟨C, 0, none⟩ = some (.string nm)) :
    Calls Tryz.prog 59 #[.agg #[.string x.nm, .int .i64 x.kd, .int .i64 x.nd, .int .i64 x.cr, .int .i64 x.sv], .pointer (some ⟨C, 0, none⟩)] w fun e w' => e = .returned (.bool (decide (x.nm = nm))) ∧ Below w.heap.size w w' := by
  have hC := World.block_lt_of_cell? w _ c0
  have c0' : ∀ o, (w.alloc o).cell? ⟨C, 0, none⟩ = some (.string nm) := fun o => (World.cell?_alloc_lt _ _ _ hC).trans c0
  rw [← beq_nm]
  go_enter Tryz.func59, Tryz.ntmps59
  go_wp2
  go_ret
  exact ⟨rfl, (by repeat (first | exact Below.refl _ _ | assumption | refine bel_al ?_ _ | refine bel_dr ?_ | refine below_drewN ?_ _ | refine bel_then ?_ (by assumption)))⟩
set_option maxRecDepth 100000 in
set_option maxHeartbeats 1000000 in
theorem findI_c (v : Value) (f : List Ap) (nm : ByteArray) (w : World) (hf : Rd w v f.length (f.flatMap Ap.cells)) :
    Calls Tryz.prog 28 #[v, .string nm] w fun e w' => e = .returned (.int .i64 (findA nm f)) ∧ Below w.heap.size w w' := by
  have HF := Lib.hid hf
  have hEG : ∀ args w, (callFunc 59 args).run Tryz.prog w = .ok (.enter 59 args) w := enters_of Tryz.func59 (by kernel_rfl) rfl
  have EG := Lib.hid hEG
  clear hf hEG
  go_enter Tryz.func28, Tryz.ntmps28
  go_wp2_with fail
  generalize hW : World.alloc w _ = w0
  have k0 : w0.cell? ⟨w.heap.size, 0, none⟩ = some (.string nm) := by subst hW; simp [go_sem]
  have hb0 : Below w.heap.size w w0 := by subst hW; exact bel_al (Below.refl _ _) _
  have z0 : w.heap.size < w0.heap.size := by subst hW; simp
  have HB := Lib.hid hb0
  have hs : SaysA 59 #[.pointer (some ⟨w.heap.size, 0, none⟩)] (fun a => decide (a.nm = nm)) f w0 := fun x _ W hbW => isNm_c x nm _ W ((hbW.cell (p := ⟨w.heap.size, 0, none⟩) z0).trans k0)
  have HS := Lib.hid hs
  clear hW hb0 k0 hs
  refine (indexAp_c 59 _ EG.out (fun a => decide (a.nm = nm)) _ f _ HS.out (rd_below HF.out HB.out)).mono ?_; rintro e w3 ⟨rfl, hb3⟩
  have HB3 := Lib.hid (bel_then HB.out hb3)
  clear hb3
  go_wp2
  go_ret
  exact ⟨rfl, HB3.out⟩
set_option maxRecDepth 100000 in
set_option maxHeartbeats 1000000 in
theorem apFind_c (v : Value) (f : List Ap) (nm : ByteArray) (w : World) (hf : Rd w v f.length (f.flatMap Ap.cells)) :
    Calls Tryz.prog 34 #[v, .string nm] w fun e w' => e = .returned (.int .i64 (findA nm f)) ∧ Below w.heap.size w w' := by
  obtain ⟨A, c, rfl, hc, hm, hr⟩ := hf
  rw [maxLen_eq] at hm
  go_enter Tryz.func34, Tryz.ntmps34
  go_wp2_with fail
  go_loopw [9] (fun i wr => ∃ k : Nat, k ≤ f.length ∧ i = .int .i64 k ∧ Hid (∀ y ∈ f.take k, decide (y.nm = nm) = false) ∧ Hid (Below w.heap.size w wr)) (fun i _ => f.length - (intOf i).toNat)
  case atStart => exact ⟨0, Nat.zero_le _, rfl, Lib.hid (by simp), Lib.hid (Below.refl _ _)⟩
  case round =>
    obtain ⟨k, hk, rfl, HN, HB⟩ := hrel
    by_cases hlt : k < f.length
    · obtain ⟨b, off, rfl, hbl, hcell⟩ := hr (by omega)
      obtain ⟨n2, kd, nd, cr, sv, hx, c0, c1, c2, c3, c4⟩ := ap_at' hcell HB.out hbl hlt
      have HX := Lib.hid hx
      clear hcell hx
      by_cases hpy : n2 = nm
      · have e0 : (n2.toList == nm.toList) = true := by rw [hpy]; simp
        have HF := Lib.hid (idxG_at (p := fun (a : Ap) => decide (a.nm = nm)) HX.out (decide_eq_true hpy) HN.out)
        clear hpy
        go_wp2
        go_ret
        refine ⟨?_, bel_al HB.out _⟩
        unfold findA
        rw [HF.out]; rfl
      · have e0 : (n2.toList == nm.toList) = false := by rw [beq_nm]; exact decide_eq_false hpy
        have HN2 : Hid (∀ y ∈ f.take (k + 1), decide (y.nm = nm) = false) := Lib.hid (fun y hy => by
          rw [take_succ_of HX.out] at hy
          rcases List.mem_append.1 hy with h | h
          · exact HN.out y h
          · rw [List.mem_singleton] at h; rw [h]; exact decide_eq_false hpy)
        clear hpy
        go_wp2
        exact ⟨⟨k + 1, by omega, by go_num, HN2, Lib.hid (bel_al HB.out _)⟩, by simp [intOf]; omega⟩
    · obtain rfl : k = f.length := by omega
      have h := HN.out
      rw [List.take_length] at h
      have HF := Lib.hid (idxG_none (p := fun (a : Ap) => decide (a.nm = nm)) h)
      clear h
      go_wp2
      go_ret
      unfold findA
      rw [HF.out]
      exact ⟨rfl, HB.out⟩
end Go.Proofs.YtgcdgcidjjdhmaaGreatDoor
