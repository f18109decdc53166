/-
  The choices of a list of appliances with their times (printed by gen_choices.py).
-/
import Derived.Test.YtcpchdbhpcebeaaPick
import Derived.Test.YtcpchdbhpcebeaaChS
import Derived.Test.YtcpchdbhpcebeaaFirst
import Derived.Deep.RegionLaw
namespace Go.Proofs.Ytcpchdbhpcebeaa
open Go.RowKit

def chAt (f : List Ap) (ev : List Int) (i : Int) : Ch := match f[i.toNat]? with
  | some a => ⟨a.nm, ev.getD a.nd.toNat 0⟩
  | none => ⟨⟨#[]⟩, 0⟩
theorem chAt_at {f : List Ap} {ev : List Int} {i : Nat} {a : Ap} (h : f[i]? = some a) : chAt f ev (i : Int) = ⟨a.nm, ev.getD a.nd.toNat 0⟩ := by unfold chAt; rw [Int.toNat_natCast, h]
def chL (f : List Ap) (ev L : List Int) : List Ch := L.map (chAt f ev)
theorem chL_len (f : List Ap) (ev L : List Int) : (chL f ev L).length = L.length := by simp [chL]
theorem chL_snoc {f : List Ap} {ev L : List Int} {k : Nat} {y : Int} (h : L[k]? = some y) : chL f ev (L.take (k + 1)) = chL f ev (L.take k) ++ [chAt f ev y] := by unfold chL; rw [take_succ_of h, List.map_append]; rfl
theorem ch_flat (l : List Ch) (c : Ch) : (l ++ [c]).flatMap Ch.cells = l.flatMap Ch.cells ++ [.string c.cn, .int .i64 c.cs] := by rw [List.flatMap_append]; simp [Ch.cells]
theorem gro_cellr {a b : World} {r : Option Nat} (h : a.grownBy b r) {x o : Nat} (hx : x < a.heap.size) (hne : ∀ q, r = some q → x ≠ q) : b.cell? ⟨x, o, none⟩ = a.cell? ⟨x, o, none⟩ := World.cell?_of_block (h.block x hx (fun e => hne x e.symm rfl))
def OwnCh (l : List Ch) (w : World) (e : Ending) (w' : World) : Prop := ∃ x, e = .returned x ∧ w'.ownsRow w.heap.size 96 2 x l.length (l.flatMap Ch.cells) ∧ Below w.heap.size w w'

set_option maxRecDepth 100000 in
set_option maxHeartbeats 4000000 in
theorem dsChoices_c (v : Value) (f : List Ap) (vl : Value) (L : List Int) (vt : Value) (ev : List Int) (w : World) (hlm' : ∀ y ∈ L, ∃ (i : Nat) (a : Ap), y = (i : Int) ∧ f[i]? = some a) (hl12 : L.length ≤ 12) (hnd : ∀ a ∈ f, 0 ≤ a.nd ∧ a.nd ≤ (ev.length : Int) - 1)
    (hf : Rd w v f.length (f.flatMap Ap.cells)) (hvl : RdI w vl L) (hvt : RdI w vt (allT ev f)) :
    Calls Try.prog 68 #[v, vl, vt] w (OwnCh (chL f ev L) w) := by
  have HLM := Lib.hid hlm'
  have HND := Lib.hid hnd
  obtain ⟨A, c, rfl, hc, hm, hcell0⟩ := hf
  rw [maxLen_eq] at hm
  have HCELL := Lib.hid hcell0
  obtain ⟨A5, c5, rfl, hc5, hm5, hcell5⟩ := hvl
  rw [maxLen_eq] at hm5
  have HC5 := Lib.hid hcell5
  obtain ⟨A6, c6, rfl, hc6, hm6, hcell6⟩ := hvt
  rw [maxLen_eq] at hm6
  rw [allT_len] at hc6 hcell6 ⊢
  have HC6 := Lib.hid hcell6
  obtain ⟨i0', hi, hz0, hz1, hz2⟩ := info_parts Try.infoCh
  clear hcell0 hlm' hcell5 hcell6 hnd
  go_enter Try.func68, Try.ntmps68
  go_wp2_with fail
  go_loopw [7, 12] (fun vo vi wr => ∃ (k : Nat) (S : List Ch), k ≤ L.length ∧ S.length = k ∧ vi = .int .i64 k ∧ Hid (chL f ev (L.take k) = S) ∧ Hid (wr.ownsRow w.heap.size 96 2 vo k (S.flatMap Ch.cells)) ∧ Hid (Below w.heap.size w wr)) (fun _ vi _ => L.length - (intOf vi).toNat)
  case atStart => exact ⟨0, [], Nat.zero_le _, rfl, rfl, Lib.hid rfl, Lib.hid (World.ownsRow_nil _ _ _ _), Lib.hid (Below.refl _ _)⟩
  case round =>
    obtain ⟨k, S, hk, hSk, rfl, HS, HOW, HBL⟩ := hrel
    obtain ⟨wA, rfl⟩ : ∃ wA : World, wA = wr := ⟨_, rfl⟩
    have hsA := HBL.out.size
    by_cases hlt : k < L.length
    · obtain ⟨b5, off5, rfl, hb5, hcl5⟩ := HC5.out (by omega)
      obtain ⟨y, hy⟩ : ∃ y, L[k]? = some y := ⟨_, List.getElem?_eq_getElem hlt⟩
      obtain ⟨i, a, rfl, ha⟩ := HLM.out y (List.mem_of_getElem? hy)
      have hnn := HND.out _ (List.mem_of_getElem? ha)
      obtain ⟨nm, kd, nd, cr, sv⟩ := a
      dsimp only at hnn
      obtain ⟨nd0, nd1⟩ := hnn
      obtain ⟨p, rfl⟩ := Int.eq_ofNat_of_zero_le nd0
      have hif : i < f.length := (List.getElem?_eq_some_iff.1 ha).1
      obtain ⟨b, off, rfl, hbl, hcell⟩ := HCELL.out (by omega)
      obtain ⟨d0, _, d2, _, _⟩ := ap_at hcell HBL.out hbl ha
      dsimp only at d0 d2
      obtain ⟨b6, off6, rfl, hb6, hcl6⟩ := HC6.out (by omega)
      obtain ⟨t, ht⟩ : ∃ t, ev.getD p 0 = t := ⟨_, rfl⟩
      have htt := allT_get (ev := ev) ha
      dsimp only at htt
      rw [Int.toNat_natCast, ht] at htt
      have co := cell_at hcl5 HBL.out hb5 (ints_get hy)
      have ct := cell_at hcl6 HBL.out hb6 (ints_get htt)
      have HSN : Hid (chL f ev (L.take (k + 1)) = S ++ [⟨nm, t⟩]) := Lib.hid (by
        rw [chL_snoc hy, HS.out, chAt_at ha]; dsimp only; rw [Int.toNat_natCast, ht])
      have i0 : (0 : Int) ≤ (i : Int) := by omega
      have i1 : (i : Int) < (f.length : Int) := by omega
      have p0 : (0 : Int) ≤ (p : Int) := by omega
      have p1 : (p : Int) < (ev.length : Int) := by omega
      clear hcl5 hy ha hcell hcl6 ht htt nd1
      go_wp2_with fail
      have HLT := Lib.hid HOW.out.lt
      go_region_held3 (fun W' => W'.cell? ⟨b, off + i * 5, none⟩ = some (.string nm) ∧ W'.cell? ⟨b, off + i * 5 + 2, none⟩ = some (.int .i64 p) ∧ W'.cell? ⟨b6, off6 + i, none⟩ = some (.int .i64 t)) (first | go_keep | (go_split_ands; refine ⟨?_, ?_, ?_⟩ <;> (rw [gro_cellr hgrow7 (by simp; omega) (fun q e => by have := (HLT.out q e).1; omega)]; first | assumption | (simp only [go_sem]; assumption) | (rw [World.cell?_alloc_lt _ _ _ (by simp; omega)]; assumption)))) (first | (refine step_app_rd _ rfl (.tmp 16) (.tmp 27) 51 rfl w.heap.size 96 i0' _ 2 24 Try.underlying51 hi hz0 hz1 hz2 rfl (by decide) _ k (S.flatMap Ch.cells) rfl ((own_dr HOW.out).alloc _) _ 1 [.string nm, .int .i64 t] rfl (rd_new _ rfl (Nat.le_refl _) (by rw [maxLen_eq]; omega)) rfl (by intro u hu; simp at hu; rcases hu with rfl | rfl <;> rfl) (by rw [maxLen_eq]; omega) (by omega) (by simp; omega) ?_; intro v7 w7 hown7 hgrow7 _))
      all_goals
        go_wp2
        refine ⟨⟨k + 1, S ++ [⟨nm, t⟩], by omega, by simp; omega, by go_num, HSN, Lib.hid ?_, Lib.hid (bel_grown (bel_al (bel_dr HBL.out) _) hgrow7 (fun q e => (HOW.out.lt q e).1))⟩, by simp [intOf]; omega⟩
        rw [ch_flat]; exact hown7
    · obtain rfl : k = L.length := by omega
      have hs := HS.out
      rw [List.take_length] at hs
      have HSS := Lib.hid hs
      clear hs
      go_wp2
      go_ret
      rw [HSS.out]
      refine ⟨_, rfl, ?_, HBL.out⟩
      rw [hSk]; exact HOW.out

set_option maxRecDepth 100000 in
set_option maxHeartbeats 4000000 in
theorem choicesOf_c (v : Value) (f : List Ap) (vl : Value) (L : List Int) (vt : Value) (ev : List Int) (w : World) (hlm' : ∀ y ∈ L, ∃ (i : Nat) (a : Ap), y = (i : Int) ∧ f[i]? = some a) (hl12 : L.length ≤ 12) (hnd : ∀ a ∈ f, 0 ≤ a.nd ∧ a.nd ≤ (ev.length : Int) - 1)
    (hf : Rd w v f.length (f.flatMap Ap.cells)) (hvl : RdI w vl L) (hvt : RdI w vt ev) :
    Calls Try.prog 69 #[v, vl, vt] w (OwnCh (chL f ev L) w) := by
  have HLM := Lib.hid hlm'
  have HND := Lib.hid hnd
  obtain ⟨A, c, rfl, hc, hm, hcell0⟩ := hf
  rw [maxLen_eq] at hm
  have HCELL := Lib.hid hcell0
  obtain ⟨A5, c5, rfl, hc5, hm5, hcell5⟩ := hvl
  rw [maxLen_eq] at hm5
  have HC5 := Lib.hid hcell5
  obtain ⟨A6, c6, rfl, hc6, hm6, hcell6⟩ := hvt
  rw [maxLen_eq] at hm6
  
  have HC6 := Lib.hid hcell6
  obtain ⟨i0', hi, hz0, hz1, hz2⟩ := info_parts Try.infoCh
  clear hcell0 hlm' hcell5 hcell6 hnd
  go_enter Try.func69, Try.ntmps69
  go_wp2_with fail
  go_loopw [7, 12] (fun vo vi wr => ∃ (k : Nat) (S : List Ch), k ≤ L.length ∧ S.length = k ∧ vi = .int .i64 k ∧ Hid (chL f ev (L.take k) = S) ∧ Hid (wr.ownsRow w.heap.size 96 2 vo k (S.flatMap Ch.cells)) ∧ Hid (Below w.heap.size w wr)) (fun _ vi _ => L.length - (intOf vi).toNat)
  case atStart => exact ⟨0, [], Nat.zero_le _, rfl, rfl, Lib.hid rfl, Lib.hid (World.ownsRow_nil _ _ _ _), Lib.hid (Below.refl _ _)⟩
  case round =>
    obtain ⟨k, S, hk, hSk, rfl, HS, HOW, HBL⟩ := hrel
    obtain ⟨wA, rfl⟩ : ∃ wA : World, wA = wr := ⟨_, rfl⟩
    have hsA := HBL.out.size
    by_cases hlt : k < L.length
    · obtain ⟨b5, off5, rfl, hb5, hcl5⟩ := HC5.out (by omega)
      obtain ⟨y, hy⟩ : ∃ y, L[k]? = some y := ⟨_, List.getElem?_eq_getElem hlt⟩
      obtain ⟨i, a, rfl, ha⟩ := HLM.out y (List.mem_of_getElem? hy)
      have hnn := HND.out _ (List.mem_of_getElem? ha)
      obtain ⟨nm, kd, nd, cr, sv⟩ := a
      dsimp only at hnn
      obtain ⟨nd0, nd1⟩ := hnn
      obtain ⟨p, rfl⟩ := Int.eq_ofNat_of_zero_le nd0
      have hif : i < f.length := (List.getElem?_eq_some_iff.1 ha).1
      obtain ⟨b, off, rfl, hbl, hcell⟩ := HCELL.out (by omega)
      obtain ⟨d0, _, d2, _, _⟩ := ap_at hcell HBL.out hbl ha
      dsimp only at d0 d2
      obtain ⟨b6, off6, rfl, hb6, hcl6⟩ := HC6.out (by omega)
      obtain ⟨t, ht⟩ : ∃ t, ev.getD p 0 = t := ⟨_, rfl⟩
      have htt : ev[p]? = some t := by rw [← ht, List.getD_eq_getElem?_getD, List.getElem?_eq_getElem (show p < ev.length by omega)]; rfl
      have co := cell_at hcl5 HBL.out hb5 (ints_get hy)
      have ct := cell_at hcl6 HBL.out hb6 (ints_get htt)
      have HSN : Hid (chL f ev (L.take (k + 1)) = S ++ [⟨nm, t⟩]) := Lib.hid (by
        rw [chL_snoc hy, HS.out, chAt_at ha]; dsimp only; rw [Int.toNat_natCast, ht])
      have i0 : (0 : Int) ≤ (i : Int) := by omega
      have i1 : (i : Int) < (f.length : Int) := by omega
      have p0 : (0 : Int) ≤ (p : Int) := by omega
      have p1 : (p : Int) < (ev.length : Int) := by omega
      clear hcl5 hy ha hcell hcl6 ht htt nd1
      go_wp2_with fail
      have HLT := Lib.hid HOW.out.lt
      go_region_held3 (fun W' => W'.cell? ⟨b, off + i * 5, none⟩ = some (.string nm) ∧ W'.cell? ⟨b, off + i * 5 + 2, none⟩ = some (.int .i64 p) ∧ W'.cell? ⟨b6, off6 + p, none⟩ = some (.int .i64 t)) (first | go_keep | (go_split_ands; refine ⟨?_, ?_, ?_⟩ <;> (rw [gro_cellr hgrow7 (by simp; omega) (fun q e => by have := (HLT.out q e).1; omega)]; first | assumption | (simp only [go_sem]; assumption) | (rw [World.cell?_alloc_lt _ _ _ (by simp; omega)]; assumption)))) (first | (refine step_app_rd _ rfl (.tmp 16) (.tmp 31) 51 rfl w.heap.size 96 i0' _ 2 24 Try.underlying51 hi hz0 hz1 hz2 rfl (by decide) _ k (S.flatMap Ch.cells) rfl ((own_dr HOW.out).alloc _) _ 1 [.string nm, .int .i64 t] rfl (rd_new _ rfl (Nat.le_refl _) (by rw [maxLen_eq]; omega)) rfl (by intro u hu; simp at hu; rcases hu with rfl | rfl <;> rfl) (by rw [maxLen_eq]; omega) (by omega) (by simp; omega) ?_; intro v7 w7 hown7 hgrow7 _))
      all_goals
        go_wp2
        refine ⟨⟨k + 1, S ++ [⟨nm, t⟩], by omega, by simp; omega, by go_num, HSN, Lib.hid ?_, Lib.hid (bel_grown (bel_al (bel_dr HBL.out) _) hgrow7 (fun q e => (HOW.out.lt q e).1))⟩, by simp [intOf]; omega⟩
        rw [ch_flat]; exact hown7
    · obtain rfl : k = L.length := by omega
      have hs := HS.out
      rw [List.take_length] at hs
      have HSS := Lib.hid hs
      clear hs
      go_wp2
      go_ret
      rw [HSS.out]
      refine ⟨_, rfl, ?_, HBL.out⟩
      rw [hSk]; exact HOW.out
end Go.Proofs.Ytcpchdbhpcebeaa
