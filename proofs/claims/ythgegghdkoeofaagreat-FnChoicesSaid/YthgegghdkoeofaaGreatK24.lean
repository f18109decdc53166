/-
  SendChoice: what is sent, for the walk of impl.sendChoice. impl.sendChoice. spec.dsSend: the fleet with those of a list called, and their names. FnChoices: the plain laws: a choice is a best one, it and what is missing make up the need, and no one that is nearer is left out. FnChoices: the callees' contracts: lists of choices compared, sums, an appliance found, a travel time. (joined by pack.py: SendI SendW SendS ChoiLaw ChoiC)
-/
import Derived.Test.YthgegghdkoeofaaGreatK20
import Derived.Test.YthgegghdkoeofaaGreatK21
import Derived.Test.YthgegghdkoeofaaGreatK3
import Derived.Test.YthgegghdkoeofaaGreatK23
import Derived.Test.YthgegghdkoeofaaGreatK9
import Derived.WalkSpells
import Derived.Test.YthgegghdkoeofaaGreatK18
import Derived.Test.YthgegghdkoeofaaGreatK12
import Derived.Test.YthgegghdkoeofaaGreatK16
import Derived.BigQuiet
namespace Go.Proofs.YthgegghdkoeofaaGreat
set_option linter.unusedVariables false
set_option linter.unusedSimpArgs false
open Go.RowKit

def namesI (f : List Ap) (S : List Int) : List ByteArray := S.map (nmI f)
theorem namesI_snoc {f : List Ap} {S : List Int} {k : Nat} {y : Int} (h : S[k]? = some y) : namesI f (S.take (k + 1)) = namesI f (S.take k) ++ [nmI f y] := by unfold namesI; rw [take_succ_of h, List.map_append]; rfl
theorem namesI_len (f : List Ap) (S : List Int) : (namesI f S).length = S.length := by simp [namesI]
theorem strs_snoc (a : List ByteArray) (x : ByteArray) : strs (a ++ [x]) = strs a ++ [.string x] := by simp [strs]
theorem sendF_nm {f : List Ap} {S : List Int} {i : Nat} {a : Ap} (h : f[i]? = some a) : ∃ b, (sendF f S)[i]? = some b ∧ b.nm = a.nm ∧ b.nd = a.nd ∧ b.kd = a.kd := by
  rw [sendF_get, h]
  refine ⟨_, rfl, ?_⟩
  dsimp only
  split <;> exact ⟨rfl, rfl, rfl⟩
theorem sendF_congr {f : List Ap} {S T : List Int} (h : ∀ x, x ∈ S ↔ x ∈ T) : sendF f S = sendF f T := by
  unfold sendF
  simp only [h]
/-- What is sent: the fleet and the names, both of the call's own. -/
def Own2 (F : List Ap) (q : List ByteArray) (b : Bool) (w : World) (e : Ending) (w' : World) : Prop :=
  ∃ x y, e = .returned (.tuple #[x, y, .bool b]) ∧ w'.ownsRow w.heap.size 42 5 x F.length (F.flatMap Ap.cells) ∧ w'.ownsRow w.heap.size 9 1 y q.length (strs q) ∧ Sep x y ∧ Below w.heap.size w w'
end Go.Proofs.YthgegghdkoeofaaGreat

namespace Go.Proofs.YthgegghdkoeofaaGreat
set_option linter.unusedVariables false
set_option linter.unusedSimpArgs false
open Go.RowKit

theorem readyL_nodup2 (ev : List Int) (f : List Ap) : (readyL ev f).Nodup := by
  unfold readyL
  rw [(isort_perm _ _).nodup_iff]
  unfold selD
  exact nodup_map_of _ _ (nodup_filter _ List.nodup_range) (fun (x : Nat) _ (y : Nat) _ e => by have h : (x : Int) = (y : Int) := e; omega)
theorem own_down {w : World} {base base' : Nat} {e : TypeId} {sz : Nat} {v : Value} {n : Nat} {xs : List Value} (h : w.ownsRow base e sz v n xs) (hb : base' ≤ base) : w.ownsRow base' e sz v n xs := by
  refine ⟨h.1, h.2.imp id ?_⟩
  rintro ⟨g, cap, cur, e1, h1, r⟩
  exact ⟨g, cap, cur, e1, Nat.le_trans hb h1, r⟩
theorem miss_len4 (f : List Ap) : ∀ (L d : List Int), (missL f L d).length = d.length := by
  intro L
  induction L with
  | nil => intro d; rfl
  | cons i L ih => intro d; unfold missL; rw [List.foldl_cons]; have := ih (missStep f d i); unfold missL at this; rw [this]; unfold missStep; simp
end Go.Proofs.YthgegghdkoeofaaGreat

namespace Go.Proofs.YthgegghdkoeofaaGreat
set_option linter.unusedVariables false
set_option linter.unusedSimpArgs false
open Go.RowKit

theorem put_ap {F : List Ap} {i : Nat} {a b : Ap} (h : F[i]? = some b) : putAt (F.flatMap Ap.cells) (i * 5) a.cells = (F.set i a).flatMap Ap.cells := by
  have hi := (List.getElem?_eq_some_iff.1 h).1
  have ha := (List.getElem?_eq_some_iff.1 h).2
  have hd : F = F.take i ++ (b :: F.drop (i + 1)) := by rw [← ha, ← List.drop_eq_getElem_cons hi, List.take_append_drop]
  have hl : (F.take i).length = i := by rw [List.length_take]; omega
  have h2 : F.set i a = F.take i ++ (a :: F.drop (i + 1)) := by
    conv => lhs; rw [hd]
    rw [List.set_append_right _ _ (by omega), hl, Nat.sub_self]; rfl
  rw [h2]
  conv => lhs; rw [hd]
  rw [List.flatMap_append, List.flatMap_append, List.flatMap_cons, List.flatMap_cons]
  exact putAt_block _ _ _ _ (by rw [Ap.cells_len, Ap.cells_len]) _ (by rw [len_flat Ap.cells_len, hl])
/-- The fleet and the names, both of the call's own (two results). -/
def Own2p (F : List Ap) (q : List ByteArray) (w : World) (e : Ending) (w' : World) : Prop :=
  ∃ x y, e = .returned (.tuple #[x, y]) ∧ w'.ownsRow w.heap.size 42 5 x F.length (F.flatMap Ap.cells) ∧ w'.ownsRow w.heap.size 9 1 y q.length (strs q) ∧ Sep x y ∧ Below w.heap.size w w'
set_option maxRecDepth 100000 in
set_option maxHeartbeats 600000 in
theorem dsSend_c (v : Value) (f : List Ap) (vp : Value) (P : List Int) (w : World) (hf12 : f.length ≤ 12) (hP : ∀ y ∈ P, ∃ i : Nat, y = (i : Int) ∧ i < f.length) (hf : Rd w v f.length (f.flatMap Ap.cells)) (hp : RdI w vp P) :
    Calls Tryz.prog 42 #[v, vp] w (Own2p (sendF f P) (namesI f (selD (fun i => decide ((i : Int) ∈ P)) f.length)) w) := by
  have HR := Lib.hid hf
  have HPR := Lib.hid hp
  have HPI := Lib.hid hP
  obtain ⟨A, cA, rfl, hcA, hmA, hcellA⟩ := hf
  rw [maxLen_eq] at hmA
  have HCELL := Lib.hid hcellA
  clear hcellA hp hP
  obtain ⟨i0, hi, hz0, hz1, hz2⟩ := info_parts Tryz.infoAp
  obtain ⟨j0, hj, hj0, hj1, hj2⟩ := info_parts Tryz.infoStr
  go_enter Tryz.func42, Tryz.ntmps42
  go_wp2_with (at_builtin; go_must (refine wpList_app_rd _ rfl _ _ 27 rfl w.heap.size 42 i0 _ 5 48 Tryz.underlying27 hi hz0 hz1 hz2 rfl (by decide) _ _ _ rfl (World.ownsRow_made (size := 5) w #[] 0 (Nat.le_refl _) (Nat.zero_le _) rfl) _ f.length (f.flatMap Ap.cells) rfl (rd_below HR.out (bel_al (Below.refl _ _) _)) (by rw [len_flat Ap.cells_len]) (ap_one f) (by rw [maxLen_eq]; omega) (by omega) (by simp) ?_); intro vc w5 hown' hgrow _)
  have hg5 := hgrow.size
  have hB5 : Below w.heap.size w w5 := bel_grown (bel_al (Below.refl _ _) _) hgrow (fun q e => by
    have h : w.heap.size = q := Option.some.inj e
    omega)
  have hC5 : w5.ownsRow w.heap.size 42 5 vc f.length (f.flatMap Ap.cells) := by simpa using hown'
  have HC5 : Hid (w5.ownsRow w.heap.size 42 5 vc f.length ((sendF f (selD (fun i => decide ((i : Int) ∈ P)) 0)).flatMap Ap.cells)) := Lib.hid (by
    have e : selD (fun i => decide ((i : Int) ∈ P)) 0 = [] := rfl
    rw [e, sendF_nil]; exact hC5)
  have HB5 := Lib.hid hB5
  have hw5 := hB5.size
  clear hown' hgrow hg5 hB5 hC5
  go_wp2_with fail
  go_loopw [7, 15] (fun vo vi wr => ∃ (k : Nat) (q : List ByteArray), k ≤ f.length ∧ q.length = (selD (fun i => decide ((i : Int) ∈ P)) k).length ∧ vi = .int .i64 k ∧ w5.heap.size ≤ wr.heap.size ∧ Hid (namesI f (selD (fun i => decide ((i : Int) ∈ P)) k) = q) ∧ Hid (wr.ownsRow w.heap.size 42 5 vc f.length ((sendF f (selD (fun i => decide ((i : Int) ∈ P)) k)).flatMap Ap.cells)) ∧ Hid (wr.ownsRow w5.heap.size 9 1 vo q.length (strs q)) ∧ Hid (Below w.heap.size w wr)) (fun _ vi _ => f.length - (intOf vi).toNat)
  case atStart => exact ⟨0, [], Nat.zero_le _, rfl, rfl, Nat.le_refl _, Lib.hid rfl, HC5, Lib.hid (World.ownsRow_nil _ _ _ _), HB5⟩
  case round =>
    obtain ⟨k, q, hk, hqk, rfl, hsw, HQ, HC, HNM, HBL⟩ := hrel
    obtain ⟨wA, rfl⟩ : ∃ wA : World, wA = wr := ⟨_, rfl⟩
    by_cases hlt : k < f.length
    · obtain ⟨b, off, rfl, hbl, hcell⟩ : ∃ b off, A = some ⟨b, off, none⟩ ∧ b < w.heap.size ∧ ∀ j u, (f.flatMap Ap.cells)[j]? = some u → w.cell? ⟨b, off + j, none⟩ = some u := HCELL.out (by omega)
      obtain ⟨a, ha⟩ : ∃ a, f[k]? = some a := ⟨_, List.getElem?_eq_getElem hlt⟩
      obtain ⟨nm, kd, nd, cr, sv⟩ := a
      obtain ⟨d0, d1, d2, d3, d4⟩ := ap_at hcell HBL.out hbl ha
      dsimp only at d0 d1 d2 d3 d4
      have HA := Lib.hid ha
      clear hcell ha
      have hP1 : wA.heap.size < (wA.alloc (.cells #[.string nm, .int .i64 kd, .int .i64 nd, .int .i64 cr, .int .i64 sv] 42)).heap.size := by simp
      have HPA := rdi_below HPR.out (bel_al HBL.out (.cells #[.string nm, .int .i64 kd, .int .i64 nd, .int .i64 cr, .int .i64 sv] 42))
      obtain ⟨gc, cc, rfl, hgc, hgcA, _, _⟩ := own_shape HC.out (by omega)
      have hgc5 : gc < w5.heap.size := (HC5.out.lt gc rfl).2
      go_upto_region 6 with fail
      by_cases hin : (k : Int) ∈ P
      · have hd : decide ((k : Int) ∈ P) = true := decide_eq_true hin
        have HD := Lib.hid hd
        go_upto_region 7 with (go_at_call 76; go_must (refine (l1Has_c _ (k : Int) P _ HPA).mono ?_); rw [HD.out]; rintro e w2 ⟨rfl, rfl⟩)
        go_upto_region 8 with fail
        have hC8 := HC.out.alloc (.cells #[.string nm, .int .i64 kd, .int .i64 nd, .int .i64 cr, .int .i64 1] 42)
        have hN8 := HNM.out.alloc (.cells #[.string nm, .int .i64 kd, .int .i64 nd, .int .i64 cr, .int .i64 1] 42)
        have hB8 := bel_al HBL.out (.cells #[.string nm, .int .i64 kd, .int .i64 nd, .int .i64 cr, .int .i64 1] 42)
        have hs8 : (wA.alloc (.cells #[.string nm, .int .i64 kd, .int .i64 nd, .int .i64 cr, .int .i64 1] 42)).heap.size = wA.heap.size + 1 := by simp
        obtain ⟨Z, hZ⟩ : ∃ Z, wA.heap.size = Z := ⟨_, rfl⟩
        have e0 : (wA.alloc (.cells #[.string nm, .int .i64 kd, .int .i64 nd, .int .i64 cr, .int .i64 1] 42)).cell? ⟨Z, 0, none⟩ = some (.string nm) := by rw [← hZ, World.cell?_alloc_new]; rfl
        have e1 : (wA.alloc (.cells #[.string nm, .int .i64 kd, .int .i64 nd, .int .i64 cr, .int .i64 1] 42)).cell? ⟨Z, 1, none⟩ = some (.int .i64 kd) := by rw [← hZ, World.cell?_alloc_new]; rfl
        have e2 : (wA.alloc (.cells #[.string nm, .int .i64 kd, .int .i64 nd, .int .i64 cr, .int .i64 1] 42)).cell? ⟨Z, 2, none⟩ = some (.int .i64 nd) := by rw [← hZ, World.cell?_alloc_new]; rfl
        have e3 : (wA.alloc (.cells #[.string nm, .int .i64 kd, .int .i64 nd, .int .i64 cr, .int .i64 1] 42)).cell? ⟨Z, 3, none⟩ = some (.int .i64 cr) := by rw [← hZ, World.cell?_alloc_new]; rfl
        have e4 : (wA.alloc (.cells #[.string nm, .int .i64 kd, .int .i64 nd, .int .i64 cr, .int .i64 1] 42)).cell? ⟨Z, 4, none⟩ = some (.int .i64 1) := by rw [← hZ, World.cell?_alloc_new]; rfl
        obtain ⟨W8, hW8⟩ : ∃ W8, wA.alloc (.cells #[.string nm, .int .i64 kd, .int .i64 nd, .int .i64 cr, .int .i64 1] 42) = W8 := ⟨_, rfl⟩
        rw [hW8] at hC8 hN8 hB8 hs8 e0 e1 e2 e3 e4
        rw [hW8, hZ]
        clear hW8
        obtain ⟨b0, hb0, _, _, _⟩ := sendF_nm (S := selD (fun i => decide ((i : Int) ∈ P)) k) HA.out
        have c0 := (hC8.cellAt (k * 5) (by omega)).trans (show _ = some _ by exact flat_get Ap.cells_len _ k b0 hb0 0 (by omega))
        have f0 := hC8.frozenAt (k * 5)
        have hC80 := (hC8.stored (k * 5) (.string nm)).1
        have c1 := (hC80.cellAt (k * 5 + 1) (by omega)).trans (show _ = some _ by rw [List.getElem?_set_ne (by omega)]; exact flat_get Ap.cells_len _ k b0 hb0 1 (by omega))
        have f1 := hC80.frozenAt (k * 5 + 1)
        have hC81 := (hC80.stored (k * 5 + 1) (.int .i64 kd)).1
        have c2 := (hC81.cellAt (k * 5 + 2) (by omega)).trans (show _ = some _ by rw [List.getElem?_set_ne (by omega)]; rw [List.getElem?_set_ne (by omega)]; exact flat_get Ap.cells_len _ k b0 hb0 2 (by omega))
        have f2 := hC81.frozenAt (k * 5 + 2)
        have hC82 := (hC81.stored (k * 5 + 2) (.int .i64 nd)).1
        have c3 := (hC82.cellAt (k * 5 + 3) (by omega)).trans (show _ = some _ by rw [List.getElem?_set_ne (by omega)]; rw [List.getElem?_set_ne (by omega)]; rw [List.getElem?_set_ne (by omega)]; exact flat_get Ap.cells_len _ k b0 hb0 3 (by omega))
        have f3 := hC82.frozenAt (k * 5 + 3)
        have hC83 := (hC82.stored (k * 5 + 3) (.int .i64 cr)).1
        have c4 := (hC83.cellAt (k * 5 + 4) (by omega)).trans (show _ = some _ by rw [List.getElem?_set_ne (by omega)]; rw [List.getElem?_set_ne (by omega)]; rw [List.getElem?_set_ne (by omega)]; rw [List.getElem?_set_ne (by omega)]; exact flat_get Ap.cells_len _ k b0 hb0 4 (by omega))
        have f4 := hC83.frozenAt (k * 5 + 4)
        have hC84 := (hC83.stored (k * 5 + 4) (.int .i64 1)).1
        have HC9 := Lib.hid hC84
        clear hC80 hC81 hC82 hC83 hC84
        have HC8 := Lib.hid hC8
        clear hC8
        have HN8 := Lib.hid hN8
        have HB8 := Lib.hid hB8
        clear hN8 hB8
        go_upto_region 9 with fail
        have hgZ : gc < Z := by omega
        have hO9 : W8.grownBy (((((W8.setCell ⟨gc, k * 5, none⟩ (.string nm)).setCell ⟨gc, k * 5 + 1, none⟩ (.int .i64 kd)).setCell ⟨gc, k * 5 + 2, none⟩ (.int .i64 nd)).setCell ⟨gc, k * 5 + 3, none⟩ (.int .i64 cr)).setCell ⟨gc, k * 5 + 4, none⟩ (.int .i64 1)) (some gc) := only_setCell (only_setCell (only_setCell (only_setCell (only_setCell (World.grownBy.refl W8 (some gc)) _ _) _ _) _ _) _ _) _ _
        have hcE := HC9.out
        have hnE := HN8.out.kept hO9 (.inr (fun e => by have := (HN8.out.lt gc e).1; omega))
        have hbE := bel_grown HB8.out hO9 (fun q1 e => by have h : gc = q1 := Option.some.inj e; omega)
        have e9 := (gro_cell (o := 0) hO9 (x := Z) (by omega) (by omega)).trans e0
        have hs9 := hO9.size
        have hs9' : (((((W8.setCell ⟨gc, k * 5, none⟩ (.string nm)).setCell ⟨gc, k * 5 + 1, none⟩ (.int .i64 kd)).setCell ⟨gc, k * 5 + 2, none⟩ (.int .i64 nd)).setCell ⟨gc, k * 5 + 3, none⟩ (.int .i64 cr)).setCell ⟨gc, k * 5 + 4, none⟩ (.int .i64 1)).heap.size = W8.heap.size := by simp
        obtain ⟨W9, hW9⟩ : ∃ W9, ((((W8.setCell ⟨gc, k * 5, none⟩ (.string nm)).setCell ⟨gc, k * 5 + 1, none⟩ (.int .i64 kd)).setCell ⟨gc, k * 5 + 2, none⟩ (.int .i64 nd)).setCell ⟨gc, k * 5 + 3, none⟩ (.int .i64 cr)).setCell ⟨gc, k * 5 + 4, none⟩ (.int .i64 1) = W9 := ⟨_, rfl⟩
        rw [hW9] at hcE hnE hbE e9 hs9 hs9'
        rw [hW9]
        have HSE : selD (fun i => decide ((i : Int) ∈ P)) (k + 1) = selD (fun i => decide ((i : Int) ∈ P)) k ++ [(k : Int)] := selD_yes HD.out
        have hq12 : q.length ≤ 12 := by rw [hqk]; have := selD_len (fun i => decide ((i : Int) ∈ P)) k; omega
        have HNE := Lib.hid hnE
        have HBE := Lib.hid hbE
        have hav : callA b0 = ⟨nm, kd, nd, cr, 1⟩ := by
          rw [sendF_get, HA.out] at hb0
          have h := Option.some.inj hb0
          rw [← h]
          split <;> rfl
        have HCE : Hid (W9.ownsRow w.heap.size 42 5 (.slice (some ⟨gc, 0, none⟩) f.length cc) f.length ((sendF f (selD (fun i => decide ((i : Int) ∈ P)) (k + 1))).flatMap Ap.cells)) := Lib.hid (by
          rw [HSE, ← sendF_snoc hb0, hav, ← put_ap hb0]
          exact hcE)
        clear hcE hnE hbE hW9 hO9 c0 c1 c2 c3 c4 f0 f1 f2 f3 f4 e0 e1 e2 e3 e4
        go_wp2_with (at_builtin; go_must (refine wpList_app_rd _ rfl _ _ 40 rfl w5.heap.size 9 j0 (.string ⟨#[]⟩) 1 16 Tryz.underlying40 hj hj0 hj1 hj2 rfl (by decide) _ _ _ rfl (HNE.out.alloc _) _ 1 [.string nm] rfl (rd_new _ (by omega) (by omega) (by rw [maxLen_eq]; omega)) rfl (by intro u hu; simp at hu; rcases hu with rfl; rfl) (by rw [maxLen_eq]; omega) (by omega) (by simp; omega) ?_); intro v7 w7 hown7 hgrow7 _)
        have hg7 : (W9.alloc (.cells #[.string nm] 9)).grownBy w7 u7.ownBlock := hgrow7
        have hsz7 := hg7.size
        have hszA : (W9.alloc (.cells #[.string nm] 9)).heap.size = W9.heap.size + 1 := by simp
        have hnm := nmI_at HA.out
        have HN7 : Hid (w7.ownsRow w5.heap.size 9 1 v7 (q ++ [nm]).length (strs (q ++ [nm]))) := Lib.hid (by rw [strs_snoc, List.length_append]; exact hown7)
        refine ⟨⟨k + 1, q ++ [nm], hlt, by rw [HSE]; simp [hqk], by simp, by omega, Lib.hid (by rw [HSE]; unfold namesI; rw [List.map_append]; have := HQ.out; unfold namesI at this; rw [this]; simp [hnm]), ?_, HN7, ?_⟩, by simp [intOf]; omega⟩
        · refine Lib.hid ((HCE.out.alloc _).kept hg7 (.inr (fun e => ?_)))
          have h1 : (some gc : Option Nat) = u7.ownBlock := e
          have := (HNE.out.lt gc h1.symm).1
          omega
        · exact Lib.hid (bel_grown (bel_al HBE.out _) hg7 (fun g e => by have := (HNE.out.lt g e).1; omega))
      · have hd : decide ((k : Int) ∈ P) = false := decide_eq_false hin
        have HD := Lib.hid hd
        go_wp2_with (go_at_call 76; go_must (refine (l1Has_c _ (k : Int) P _ HPA).mono ?_); rw [HD.out]; rintro e w2 ⟨rfl, rfl⟩)
        have HSE : selD (fun i => decide ((i : Int) ∈ P)) (k + 1) = selD (fun i => decide ((i : Int) ∈ P)) k := selD_no HD.out
        refine ⟨⟨k + 1, q, hlt, by rw [HSE]; exact hqk, by simp, by simp; omega, by rw [HSE]; exact HQ, by rw [HSE]; exact Lib.hid (HC.out.alloc _), Lib.hid (HNM.out.alloc _), Lib.hid (bel_al HBL.out _)⟩, by simp [intOf]; omega⟩
    · obtain rfl : k = f.length := by omega
      have hmem : ∀ x, x ∈ selD (fun i => decide ((i : Int) ∈ P)) f.length ↔ x ∈ P := by
        intro x
        unfold selD
        constructor
        · intro hx
          obtain ⟨i, hi, rfl⟩ := List.mem_map.1 hx
          have := (List.mem_filter.1 hi).2
          exact of_decide_eq_true this
        · intro hx
          obtain ⟨i, rfl, hi⟩ := HPI.out x hx
          exact List.mem_map.2 ⟨i, List.mem_filter.2 ⟨List.mem_range.2 hi, decide_eq_true hx⟩, rfl⟩
      have hHC := Lib.hid HC.out
      rw [sendF_congr hmem] at hHC
      have HCC := Lib.hid hHC.out
      clear hHC hmem hlt
      go_wp2_with fail
      rw [HQ.out]
      go_ret2
      refine ⟨_, _, rfl, (by rw [sendF_len]; exact HCC.out), own_down HNM.out (by omega), ?_, HBL.out⟩
      intro q1 q2 h1 h2
      have h3 := (HNM.out.lt q2 h2).1
      have h4 := (HC5.out.lt q1 h1).2
      omega
end Go.Proofs.YthgegghdkoeofaaGreat

namespace Go.Proofs.YthgegghdkoeofaaGreat
set_option linter.unusedVariables false
set_option linter.unusedSimpArgs false
open Go.RowKit

def lexLt (key : Int → Int) (x y : Int) : Prop := key x < key y ∨ key x = key y ∧ x < y
theorem insFrom_up {key : Int → Int} {gt : Int → Int → Bool} (hgt : ∀ y x, gt y x = decide (key x < key y)) {x : Int} {p : List Int} (hp : p.Pairwise (lexLt key)) (hx : ∀ y ∈ p, y < x) : ∀ j, j ≤ p.length → (∀ y ∈ p.drop j, key x < key y) → (insFrom gt x p j).Pairwise (lexLt key) := by
  intro j
  induction j with
  | zero =>
    intro _ h
    simp only [insFrom, List.pairwise_cons]
    rw [List.drop_zero] at h
    exact ⟨fun y hy => .inl (h y hy), hp⟩
  | succ j ih =>
    intro hj h
    have hd : p.drop j = p[j] :: p.drop (j + 1) := List.drop_eq_getElem_cons (by omega)
    have hg : p.getD j 0 = p[j] := by simp [List.getD, List.getElem?_eq_getElem (show j < p.length by omega)]
    simp only [insFrom]
    rw [hg, hgt]
    by_cases hk : key x < key p[j]
    · rw [decide_eq_true hk, if_pos rfl]
      refine ih (by omega) (fun y hy => ?_)
      rw [hd] at hy
      rcases List.mem_cons.1 hy with rfl | hy
      · exact hk
      · exact h y hy
    · rw [decide_eq_false hk, if_neg (by simp)]
      have hp2 := hp
      rw [← List.take_append_drop (j + 1) p, List.pairwise_append] at hp2
      obtain ⟨q1, q2, q3⟩ := hp2
      rw [List.pairwise_append]
      refine ⟨q1, List.pairwise_cons.2 ⟨fun y hy => .inl (h y hy), q2⟩, fun a ha b hb => ?_⟩
      rcases List.mem_cons.1 hb with rfl | hb
      · have ha' : a ∈ p := List.mem_of_mem_take ha
        have hax := hx a ha'
        have hle : key a ≤ key p[j] := by
          obtain ⟨i, hi, e⟩ := List.getElem_of_mem ha
          rw [List.length_take] at hi
          rw [List.getElem_take] at e
          subst e
          rcases Nat.lt_or_ge i j with hlt | hge
          · have := (List.pairwise_iff_getElem.1 hp) i j (by omega) (by omega) hlt
            rcases this with h' | h' <;> omega
          · have : i = j := by omega
            subst this; exact Int.le_refl _
        unfold lexLt
        omega
      · exact q3 a ha b hb
theorem isort_up {key : Int → Int} {gt : Int → Int → Bool} (hgt : ∀ y x, gt y x = decide (key x < key y)) (L : List Int) (hL : L.Pairwise (· < ·)) : (isort gt L).Pairwise (lexLt key) := by
  have : ∀ k, k ≤ L.length → (isort gt (L.take k)).Pairwise (lexLt key) := by
    intro k
    induction k with
    | zero => intro _; simp [isort]
    | succ k ih =>
      intro hk
      obtain ⟨x, hx⟩ : ∃ x, L[k]? = some x := ⟨_, List.getElem?_eq_getElem (by omega)⟩
      rw [take_succ_of hx, isort_snoc]
      unfold insR
      refine insFrom_up hgt (ih (by omega)) (fun y hy => ?_) _ (Nat.le_refl _) (by simp)
      have hm := (isort_perm gt (L.take k)).mem_iff.1 hy
      obtain ⟨i, hi, rfl⟩ := List.getElem_of_mem hm
      rw [List.length_take] at hi
      rw [List.getElem_take]
      obtain ⟨hk2, rfl⟩ := List.getElem?_eq_some_iff.1 hx
      exact (List.pairwise_iff_getElem.1 hL) i k (by omega) hk2 (by omega)
  have h := this L.length (Nat.le_refl _)
  rwa [List.take_length] at h
/-- Those who are ready come in the order of their times. -/
theorem ready_up (ev : List Int) (f : List Ap) : (readyL ev f).Pairwise (fun x y => rdyKey ev f x ≤ rdyKey ev f y) := by
  refine List.Pairwise.imp ?_ (isort_up (key := rdyKey ev f) (gt := gtOf (rdyCf ev f)) (fun y x => by unfold gtOf rdyCf; exact cmpI_lt _ _) _ (selD_rise _ _))
  rintro a b (h | ⟨h, _⟩) <;> omega
theorem pick_sub (f : List Ap) (L need : List Int) : (pickL f L need).1.Sublist L := by
  obtain ⟨T, h1, h2⟩ := pick_sub_aux f L ([], need)
  unfold pickL
  rw [h1]
  simpa using h2
/-- Who is left out finds nothing left of its kind, and all that were taken of its kind come before it. -/
theorem pick_greedy (ev : List Int) (f : List Ap) (need : List Int) (R : List Int) (hup : R.Pairwise (fun x y => rdyKey ev f x ≤ rdyKey ev f y)) (hnd : R.Nodup) :
    ∀ i ∈ R, i ∉ (pickL f R need).1 → ∀ j ∈ (pickL f R need).1, kdOf f j = kdOf f i → rdyKey ev f j ≤ rdyKey ev f i := by
  have key : ∀ k, k ≤ R.length → (∀ i ∈ R.take k, i ∉ (pickL f (R.take k) need).1 → (pickL f (R.take k) need).2.getD (kdOf f i) 0 ≤ 0) ∧ (∀ i ∈ R.take k, i ∉ (pickL f (R.take k) need).1 → ∀ j ∈ (pickL f (R.take k) need).1, kdOf f j = kdOf f i → rdyKey ev f j ≤ rdyKey ev f i) := by
    intro k
    induction k with
    | zero => intro _; simp
    | succ k ih =>
      intro hk
      obtain ⟨h1, h2⟩ := ih (by omega)
      obtain ⟨x, hx⟩ : ∃ x, R[k]? = some x := ⟨_, List.getElem?_eq_getElem (by omega)⟩
      have hsub := pick_sub f (R.take k) need
      have hbef : ∀ j ∈ R.take k, rdyKey ev f j ≤ rdyKey ev f x := fun j hj => by
        obtain ⟨i, hi, rfl⟩ := List.getElem_of_mem hj
        rw [List.length_take] at hi
        rw [List.getElem_take]
        obtain ⟨hk2, rfl⟩ := List.getElem?_eq_some_iff.1 hx
        exact (List.pairwise_iff_getElem.1 hup) i k (by omega) hk2 (by omega)
      rw [pickL_snoc hx, take_succ_of hx]
      obtain ⟨st, hst⟩ : ∃ st, pickL f (R.take k) need = st := ⟨_, rfl⟩
      rw [hst] at h1 h2 hsub ⊢
      obtain ⟨P, M⟩ := st
      dsimp only at h1 h2 hsub
      obtain ⟨v, hv⟩ : ∃ v, M.getD (kdOf f x) 0 = v := ⟨_, rfl⟩
      by_cases hpos : 0 < v
      · rw [pickStep_yes rfl hv hpos]
        dsimp only
        have hne : ∀ i ∈ R.take k, i ∉ P → kdOf f i ≠ kdOf f x := fun i hi hP e => by
          have := h1 i hi hP
          rw [e, hv] at this
          omega
        refine ⟨fun i hi hP => ?_, fun i hi hP j hj hjk => ?_⟩
        · rcases List.mem_append.1 hi with h | h
          · have hP' : i ∉ P := fun hm => hP (by simp [hm])
            rw [getD_set_ne (fun e => hne i h hP' e.symm)]
            exact h1 i h hP'
          · exact absurd (List.mem_append.2 (.inr h)) hP
        · rcases List.mem_append.1 hi with h | h
          · have hP' : i ∉ P := fun hm => hP (by simp [hm])
            rcases List.mem_append.1 hj with g | g
            · exact h2 i h hP' j g hjk
            · rw [List.mem_singleton] at g
              subst g
              exact absurd hjk.symm (hne i h hP')
          · exact absurd (List.mem_append.2 (.inr h)) hP
      · rw [pickStep_no rfl hv hpos]
        dsimp only
        refine ⟨fun i hi hP => ?_, fun i hi hP j hj hjk => ?_⟩
        · rcases List.mem_append.1 hi with h | h
          · exact h1 i h hP
          · rw [List.mem_singleton] at h
            subst h
            rw [hv]; omega
        · rcases List.mem_append.1 hi with h | h
          · exact h2 i h hP j hj hjk
          · rw [List.mem_singleton] at h
            subst h
            exact hbef j (hsub.subset hj)
  have h := (key R.length (Nat.le_refl _)).2
  rwa [List.take_length] at h
theorem filter_sub {L : List Int} {P : List Int} (h : P.Sublist L) (hn : L.Nodup) : L.filter (fun i => decide (i ∈ P)) = P := by
  induction h with
  | slnil => rfl
  | @cons P L x h ih =>
    obtain ⟨hx, hn⟩ := List.nodup_cons.1 hn
    rw [List.filter_cons, if_neg (by simp; exact fun hm => hx (h.subset hm))]
    exact ih hn
  | @cons_cons P L x h ih =>
    obtain ⟨hx, hn⟩ := List.nodup_cons.1 hn
    rw [List.filter_cons, if_pos (by simp)]
    congr 1
    have : L.filter (fun i => decide (i ∈ x :: P)) = L.filter (fun i => decide (i ∈ P)) := by
      apply List.filter_congr
      intro y hy
      have : y ≠ x := fun e => hx (e ▸ hy)
      simp [this]
    rw [this]
    exact ih hn
/-- The names of the choice, in the order of the fleet. -/
def selN (f : List Ap) (P : List Int) : List ByteArray := namesI f (selD (fun i => decide ((i : Int) ∈ P)) f.length)
theorem names_of_rise {f : List Ap} (hfl : goodFl f = true) (S : List Int) (hS : S.Pairwise (· < ·)) (hm : ∀ y ∈ S, ∃ (i : Nat) (a : Ap), y = (i : Int) ∧ f[i]? = some a) : namesB (namesI f S) = true := by
  unfold namesB
  rw [List.all_eq_true]
  intro k hk
  rw [List.mem_range, namesI_len] at hk
  cases k with
  | zero =>
    unfold okNm
    cases (namesI f S)[0]? <;> rfl
  | succ k =>
    have e1 : (namesI f S)[k + 1]? = some (nmI f S[k + 1]) := by unfold namesI; rw [List.getElem?_map, List.getElem?_eq_getElem hk]; rfl
    have e0 : (namesI f S)[k]? = some (nmI f S[k]) := by unfold namesI; rw [List.getElem?_map, List.getElem?_eq_getElem (by omega)]; rfl
    rw [okNm_next e1 e0]
    obtain ⟨i, a, ei, ha⟩ := hm S[k] (List.getElem_mem _)
    obtain ⟨j, b, ej, hb⟩ := hm S[k + 1] (List.getElem_mem _)
    have hlt := (List.pairwise_iff_getElem.1 hS) k (k + 1) (by omega) hk (by omega)
    rw [ei, ej] at hlt
    rw [ei, ej, nmI_at ha, nmI_at hb]
    obtain ⟨d, rfl⟩ : ∃ d, j = i + 1 + d := ⟨j - i - 1, by omega⟩
    have := rise_all (fleet_rise hfl) d i a.nm b.nm (by rw [List.getElem?_map, ha]; rfl) (by rw [List.getElem?_map, hb]; rfl)
    unfold geS
    rw [this]; rfl
theorem selN_mem {f : List Ap} (hfl : goodFl f = true) {P : List Int} (hP : ∀ y ∈ P, ∃ (i : Nat) (a : Ap), y = (i : Int) ∧ f[i]? = some a) {y : Int} {i : Nat} {a : Ap} (hy : y = (i : Int)) (ha : f[i]? = some a) : nmI f y ∈ selN f P ↔ y ∈ P := by
  unfold selN namesI
  constructor
  · intro h
    obtain ⟨z, hz, e⟩ := List.mem_map.1 h
    obtain ⟨j, rfl, hj, hp⟩ := selD_mem hz
    have hb : f[j]? = some f[j] := List.getElem?_eq_getElem hj
    rw [hy, nmI_at ha, nmI_at hb] at e
    have := fleet_inj hfl hb ha e
    subst this
    rw [hy]; exact of_decide_eq_true hp
  · intro h
    refine List.mem_map.2 ⟨y, ?_, rfl⟩
    rw [hy] at h ⊢
    unfold selD
    exact List.mem_map.2 ⟨i, List.mem_filter.2 ⟨List.mem_range.2 (List.getElem?_eq_some_iff.1 ha).1, decide_eq_true h⟩, rfl⟩
theorem selN_len {f : List Ap} {P : List Int} (hn : P.Nodup) (hP : ∀ y ∈ P, ∃ (i : Nat) (a : Ap), y = (i : Int) ∧ f[i]? = some a) : (selN f P).length = P.length := by
  unfold selN
  rw [namesI_len]
  have hr := selD_rise (fun i => decide ((i : Int) ∈ P)) f.length
  have h1 : (selD (fun i => decide ((i : Int) ∈ P)) f.length).Nodup := List.nodup_iff_pairwise_ne.2 (hr.imp (fun h => by omega))
  refine Nat.le_antisymm (nodup_len _ _ h1 (fun x hx => ?_)) (nodup_len _ _ hn (fun x hx => ?_))
  · obtain ⟨i, rfl, _, hp⟩ := selD_mem hx
    exact of_decide_eq_true hp
  · obtain ⟨i, a, rfl, ha⟩ := hP x hx
    unfold selD
    exact List.mem_map.2 ⟨i, List.mem_filter.2 ⟨List.mem_range.2 (List.getElem?_eq_some_iff.1 ha).1, decide_eq_true hx⟩, rfl⟩
/-- The choice is a best one. -/
theorem choice_best {ev : List Int} {f : List Ap} {need : List Int} (hfl : goodFl f = true) (hne : needB need = true) : bestS ev f (readyL ev f) need (pickL f (readyL ev f) need).2 (selN f (pickL f (readyL ev f) need).1) = true := by
  have hR : ∀ y ∈ readyL ev f, ∃ (i : Nat) (a : Ap), y = (i : Int) ∧ f[i]? = some a := fun y hy => by
    obtain ⟨i, a, h1, h2, _⟩ := readyL_mem hy
    exact ⟨i, a, h1, h2⟩
  have hnd := readyL_nodup2 ev f
  have hsub := pick_sub f (readyL ev f) need
  have hgr := pick_greedy ev f need (readyL ev f) (ready_up ev f) hnd
  have hmis := pick_miss f (readyL ev f) need
  have hpn := pick_nodup f (L := readyL ev f) need hnd
  obtain ⟨hn4, hnb⟩ := needB_true hne
  obtain ⟨R, hRe⟩ : ∃ R, readyL ev f = R := ⟨_, rfl⟩
  rw [hRe] at hR hnd hsub hgr hmis hpn ⊢
  obtain ⟨P, hPe⟩ : ∃ P, (pickL f R need).1 = P := ⟨_, rfl⟩
  rw [hPe] at hsub hgr hmis hpn ⊢
  rw [← hmis]
  have hP : ∀ y ∈ P, ∃ (i : Nat) (a : Ap), y = (i : Int) ∧ f[i]? = some a := fun y hy => hR y (hsub.subset hy)
  have hhas : hasL f (selN f P) R = P := by
    unfold hasL
    rw [← filter_sub hsub hnd]
    conv => rhs; rw [filter_sub hsub hnd]
    rw [show (R.filter fun i => hasN (selN f (R.filter fun i => decide (i ∈ P))) (nmI f i)) = R.filter (fun i => decide (i ∈ P)) from ?_, filter_sub hsub hnd]
    apply List.filter_congr
    intro y hy
    rw [filter_sub hsub hnd]
    obtain ⟨i, a, e, ha⟩ := hR y hy
    have := selN_mem hfl hP e ha
    by_cases hm : y ∈ P
    · rw [decide_eq_true hm]; exact hasN_iff.2 (this.2 hm)
    · rw [decide_eq_false hm]; exact hasN_false (fun h => hm (this.1 h))
  have hkd : ∀ y ∈ P, kdOf f y < 4 := fun y hy => by
    obtain ⟨i, a, rfl, ha⟩ := hP y hy
    obtain ⟨_, h0, h3, _⟩ := goodAp_true ((goodFl_true hfl).2 a (List.mem_of_getElem? ha))
    rw [kdOf_at ha]; omega
  unfold bestS
  rw [hhas]
  simp only [Bool.and_eq_true]
  refine ⟨?_, ?_, ?_, ?_⟩
  · exact names_of_rise hfl _ (selD_rise _ _) (fun y hy => by
      obtain ⟨i, rfl, hi, _⟩ := selD_mem hy
      exact ⟨i, _, rfl, List.getElem?_eq_getElem hi⟩)
  · rw [List.all_eq_true]
    intro k hk
    have hk4 := List.mem_range.1 hk
    have h1 := cnt_get f P hk4
    have h2 := (miss_aux f P need hn4).2 k hk4
    rw [h1]
    unfold missL
    rw [h2]
    exact beq_iff_eq.2 (by omega)
  · rw [cnt_sum f P hkd, selN_len hpn hP]
    exact beq_iff_eq.2 rfl
  · rw [List.all_eq_true]
    intro i hi
    obtain ⟨ii, a, e, ha⟩ := hR i hi
    by_cases hm : i ∈ P
    · rw [hasN_iff.2 ((selN_mem hfl hP e ha).2 hm)]; rfl
    · have hki : kdOf f i < 4 := by
        obtain ⟨_, h0, h3, _⟩ := goodAp_true ((goodFl_true hfl).2 a (List.mem_of_getElem? ha))
        rw [e, kdOf_at ha]; omega
      have hc := ((wst_aux ev f P [-1, -1, -1, -1] rfl).2 (kdOf f i) hki).2.2 (rdyKey ev f i)
      have h0 : ([-1, -1, -1, -1] : List Int).getD (kdOf f i) 0 ≤ rdyKey ev f i := by
        obtain ⟨i2, a2, e2, ha2, _, hz⟩ := readyL_mem (by rw [hRe]; exact hi)
        have : rdyKey ev f i = ev.getD a2.nd.toNat 0 := by rw [e2]; exact rdyKey_at ha2
        have h4 : ([-1, -1, -1, -1] : List Int).getD (kdOf f i) 0 = -1 := by
          generalize kdOf f i = q at hki
          rcases q with _ | _ | _ | _ | q <;> first | rfl | omega
        rw [h4, this]; omega
      have := hc h0 (fun j hj hjk => hgr i hi hm j hj hjk)
      rw [hasN_false (fun h => hm ((selN_mem hfl hP e ha).1 h)), Bool.false_or]
      rw [decide_eq_false (by unfold wstL; omega)]; rfl
/-- What is chosen and what is missing make up the need. -/
theorem choice_sum {f : List Ap} {R need : List Int} (hfl : goodFl f = true) (hne : needB need = true) (hR : ∀ y ∈ R, ∃ (i : Nat) (a : Ap), y = (i : Int) ∧ f[i]? = some a) : ((pickL f R need).1.length : Int) + (pickL f R need).2.sum = need.sum := by
  obtain ⟨hn4, hnb⟩ := needB_true hne
  rw [← pick_miss]
  obtain ⟨P, hP⟩ : ∃ P, (pickL f R need).1 = P := ⟨_, rfl⟩
  have hPR : ∀ y ∈ P, y ∈ R := by rw [← hP]; exact (pick_sub f R need).subset
  rw [hP]
  obtain ⟨h1, h2⟩ := miss_aux f P need hn4
  have hs := sum_kinds (kdOf f) P (fun y hy => by
    obtain ⟨i, a, rfl, ha⟩ := hR y (hPR y hy)
    obtain ⟨_, h0, h3, _⟩ := goodAp_true ((goodFl_true hfl).2 a (List.mem_of_getElem? ha))
    rw [kdOf_at ha]; omega)
  unfold missL
  rw [sum4 h1, sum4 hn4, h2 0 (by omega), h2 1 (by omega), h2 2 (by omega), h2 3 (by omega)]
  omega
theorem miss_bd {f : List Ap} {R need : List Int} (hne : needB need = true) : ∀ y ∈ (pickL f R need).2, 0 ≤ y ∧ y ≤ 6 := by
  obtain ⟨hn4, hnb⟩ := needB_true hne
  have : ∀ (L : List Int) (st : List Int × List Int), (∀ y ∈ st.2, 0 ≤ y ∧ y ≤ 6) → ∀ y ∈ (L.foldl (pickStep f) st).2, 0 ≤ y ∧ y ≤ 6 := by
    intro L
    induction L with
    | nil => intro st h; exact h
    | cons i L ih =>
      intro st h
      rw [List.foldl_cons]
      apply ih
      unfold pickStep
      split
      · rename_i hp
        intro y hy
        rcases List.mem_or_eq_of_mem_set hy with h1 | h1
        · exact h y h1
        · have := getD_le st.2 6 (by omega) (fun z hz => (h z hz).2) (kdOf f i)
          omega
      · exact h
  exact this R ([], need) (fun y hy => hnb y hy)
theorem chL_up {ev : List Int} {f : List Ap} {L : List Int} (hL : L.Sublist (readyL ev f)) {k : Nat} {x y : Ch} (hx : (chL f ev L)[k]? = some x) (hy : (chL f ev L)[k + 1]? = some y) : x.cs ≤ y.cs := by
  unfold chL at hx hy
  rw [List.getElem?_map, Option.map_eq_some_iff] at hx hy
  obtain ⟨i, hi, rfl⟩ := hx
  obtain ⟨j, hj, rfl⟩ := hy
  have hup := (ready_up ev f).sublist hL
  obtain ⟨h1, e1⟩ := List.getElem?_eq_some_iff.1 hi
  obtain ⟨h2, e2⟩ := List.getElem?_eq_some_iff.1 hj
  have h := (List.pairwise_iff_getElem.1 hup) k (k + 1) h1 h2 (by omega)
  rw [e1, e2] at h
  have key : ∀ z ∈ L, (chAt f ev z).cs = rdyKey ev f z := fun z hz => by
    obtain ⟨a, b, e, ha, _⟩ := readyL_mem (hL.subset hz)
    rw [e, chAt_at ha, rdyKey_at ha]
  rw [key i (List.mem_of_getElem? hi), key j (List.mem_of_getElem? hj)]
  exact h
/-- An appliance is found by its name. -/
theorem find_at {f : List Ap} (hfl : goodFl f = true) {i : Nat} {a : Ap} (ha : f[i]? = some a) : findA a.nm f = (i : Int) := by
  have h0 : 0 ≤ findA a.nm f := of_decide_eq_true (by unfold findA; rw [(idxG_any _ _).1]; exact List.any_eq_true.2 ⟨a, List.mem_of_getElem? ha, by simp⟩)
  obtain ⟨j, hj⟩ := Int.eq_ofNat_of_zero_le h0
  obtain ⟨b, hb, hbp⟩ := idxG_get hj
  have := fleet_inj hfl ha hb (of_decide_eq_true hbp).symm
  rw [hj, this]
/-- The names as they are gathered: for each of the fleet those of the choice that bear its name. -/
def gath (C : List Ch) (a : Ap) : List ByteArray := (C.filter fun x => decide (x.cn = a.nm)).map Ch.cn
theorem gath_at {f : List Ap} (hfl : goodFl f = true) {ev P : List Int} (hn : P.Nodup) (hP : ∀ y ∈ P, ∃ (i : Nat) (a : Ap), y = (i : Int) ∧ f[i]? = some a) {i : Nat} {a : Ap} (ha : f[i]? = some a) : gath (chL f ev P) a = if (i : Int) ∈ P then [a.nm] else [] := by
  have hfil : P.filter (fun y => decide ((chAt f ev y).cn = a.nm)) = P.filter (fun y => decide (y = (i : Int))) := by
    apply List.filter_congr
    intro y hy
    obtain ⟨j, b, rfl, hb⟩ := hP y hy
    rw [chAt_at hb]
    by_cases e : b.nm = a.nm
    · have := fleet_inj hfl hb ha e
      subst this
      rw [decide_eq_true e, decide_eq_true rfl]
    · rw [decide_eq_false e, decide_eq_false (fun h => e (by
        have : j = i := by omega
        subst this
        rw [hb] at ha; injection ha with ha; rw [ha]))]
  unfold gath chL
  rw [List.filter_map, List.map_map]
  have e2 : (P.filter ((fun x : Ch => decide (x.cn = a.nm)) ∘ chAt f ev)) = P.filter (fun y => decide (y = (i : Int))) := hfil
  rw [e2]
  have e3 : ∀ (L : List Int), L.Nodup → L.filter (fun y => decide (y = (i : Int))) = if (i : Int) ∈ L then [(i : Int)] else [] := by
    intro L
    induction L with
    | nil => intro _; rfl
    | cons y L ih =>
      intro h
      obtain ⟨h1, h2⟩ := List.nodup_cons.1 h
      by_cases e : y = (i : Int)
      · subst e
        rw [List.filter_cons, if_pos (by simp), ih h2, if_neg h1, if_pos (by simp)]
      · rw [List.filter_cons, if_neg (by simp [e]), ih h2]
        by_cases h3 : (i : Int) ∈ L
        · rw [if_pos h3, if_pos (by simp [h3])]
        · rw [if_neg h3, if_neg (by simp [h3]; exact fun h => e h.symm)]
  rw [e3 P hn]
  split
  · simp [chAt_at ha]
  · rfl
theorem gath_all {f : List Ap} (hfl : goodFl f = true) {ev P : List Int} (hn : P.Nodup) (hP : ∀ y ∈ P, ∃ (i : Nat) (a : Ap), y = (i : Int) ∧ f[i]? = some a) : f.flatMap (gath (chL f ev P)) = selN f P := by
  have : ∀ k, k ≤ f.length → (f.take k).flatMap (gath (chL f ev P)) = namesI f (selD (fun i => decide ((i : Int) ∈ P)) k) := by
    intro k
    induction k with
    | zero => intro _; simp [selD, namesI]
    | succ k ih =>
      intro hk
      obtain ⟨a, ha⟩ : ∃ a, f[k]? = some a := ⟨_, List.getElem?_eq_getElem (by omega)⟩
      rw [take_succ_of ha, List.flatMap_append, ih (by omega)]
      have e : [a].flatMap (gath (chL f ev P)) = gath (chL f ev P) a := by simp
      rw [e, gath_at hfl hn hP ha]
      by_cases h : (k : Int) ∈ P
      · rw [if_pos h, selD_yes (decide_eq_true h)]
        unfold namesI
        rw [List.map_append]
        simp [nmI_at ha]
      · rw [if_neg h, selD_no (decide_eq_false h)]; simp
  have h := this f.length (Nat.le_refl _)
  rw [List.take_length] at h
  exact h
end Go.Proofs.YthgegghdkoeofaaGreat

namespace Go.Proofs.YthgegghdkoeofaaGreat
set_option linter.unusedVariables false
set_option linter.unusedSimpArgs false
open Go.RowKit

set_option maxRecDepth 100000 in
set_option maxHeartbeats 1000000 in
theorem pSameChoices_c (v v' : Value) (l : List Ch) (w : World) (hr : Rd w v l.length (l.flatMap Ch.cells)) (hr' : Rd w v' l.length (l.flatMap Ch.cells)) :
    Calls Tryz.prog 12 #[v, v'] w fun en w' => en = .returned (.bool true) ∧ Below w.heap.size w w' := by
  obtain ⟨A, c, rfl, hc, hm, hr⟩ := hr
  obtain ⟨A', c', rfl, hc', hm', hr'⟩ := hr'
  rw [maxLen_eq] at hm hm'
  have HS := Lib.hid hr
  have HT := Lib.hid hr'
  clear hr hr'
  have hlb : ((l.length : Int) != l.length) = false := by simp
  go_enter Tryz.func12, Tryz.ntmps12
  go_wp2_with fail
  go_loopw [13] (fun v6 wr => ∃ k : Nat, k ≤ l.length ∧ v6 = .int .i64 k ∧ Hid (Below w.heap.size w wr)) (fun v6 _ => l.length - (intOf v6).toNat)
  case atStart => exact ⟨0, Nat.zero_le _, rfl, Lib.hid (Below.refl _ _)⟩
  case round =>
    obtain ⟨k, hk, rfl, HB⟩ := hrel
    have i0 : (0 : Int) ≤ (k : Int) := by omega
    by_cases hlt : k < l.length
    · obtain ⟨b, off, rfl, hbl, hcell⟩ := HS.out (by omega)
      obtain ⟨b', off', rfl, hbl', hcell'⟩ := HT.out (by omega)
      obtain ⟨cn, cs, hx, c0, c1⟩ := ch_at' hcell HB.out hbl hlt
      obtain ⟨cn', cs', hx', d0, d1⟩ := ch_at' hcell' HB.out hbl' hlt
      rw [hx] at hx'
      injection hx' with hx'
      injection hx' with e1 e2
      subst e1; subst e2
      have i1 : (k : Int) < (l.length : Int) := by omega
      clear hcell hcell' hx
      go_wp2_with fail
      go_quiet (fail)
      go_wp2
      exact ⟨⟨k + 1, by omega, by go_num, Lib.hid (below_drewN HB.out _)⟩, by simp [intOf]; omega⟩
    · obtain rfl : k = l.length := by omega
      go_wp2
      go_ret
      exact ⟨rfl, HB.out⟩
set_option maxRecDepth 100000 in
set_option maxHeartbeats 1000000 in
theorem pSum_c (v : Value) (l : List Int) (w : World) (hr : RdI w v l) (hl : l.length ≤ 1000) (hb : ∀ x ∈ l, 0 ≤ x ∧ x ≤ 1000) :
    Calls Tryz.prog 14 #[v] w fun en w' => en = .returned (.int .i64 l.sum) ∧ Below w.heap.size w w' := by
  obtain ⟨A, c, rfl, hc, hm, hr⟩ := hr
  rw [maxLen_eq] at hm
  have HS := Lib.hid hr
  have HP := Lib.hid hb
  clear hr hb
  go_enter Tryz.func14, Tryz.ntmps14
  go_wp2_with fail
  go_loopw [3, 8] (fun vs vi wr => ∃ k : Nat, k ≤ l.length ∧ vi = .int .i64 k ∧ vs = .int .i64 (l.take k).sum ∧ 0 ≤ (l.take k).sum ∧ (l.take k).sum ≤ k * 1000 ∧ Hid (Below w.heap.size w wr)) (fun _ vi _ => l.length - (intOf vi).toNat)
  case atStart => exact ⟨0, Nat.zero_le _, rfl, rfl, by simp, by simp, Lib.hid (Below.refl _ _)⟩
  case round =>
    obtain ⟨k, hk, rfl, rfl, s0, s1, HB⟩ := hrel
    have i0 : (0 : Int) ≤ (k : Int) := by omega
    by_cases hlt : k < l.length
    · obtain ⟨b, off, rfl, hbl, hcell⟩ := HS.out (by omega)
      obtain ⟨x, hx⟩ : ∃ x, l[k]? = some x := ⟨_, List.getElem?_eq_getElem hlt⟩
      have c0 := cell_at hcell HB.out hbl (ints_get hx)
      obtain ⟨x0, x1⟩ := HP.out x (List.mem_of_getElem? hx)
      have i1 : (k : Int) < (l.length : Int) := by omega
      have es : (l.take (k + 1)).sum = (l.take k).sum + x := by rw [take_succ_of hx, List.sum_append]; simp
      have ES := Lib.hid es
      obtain ⟨S, hS⟩ : ∃ S, (l.take k).sum = S := ⟨_, rfl⟩
      have HSS := Lib.hid hS
      rw [hS] at s0 s1 ⊢
      have ew : IntKind.i64.wrap (S + x) = S + x := IntWalk.i64_in _ (by omega)
      clear hcell hx es hS
      go_wp2
      exact ⟨⟨k + 1, by omega, by go_num, by rw [ES.out, HSS.out], by rw [ES.out, HSS.out]; omega, by rw [ES.out, HSS.out]; push_cast; omega, HB⟩, by simp [intOf]; omega⟩
    · obtain rfl : k = l.length := by omega
      rw [List.take_length]
      go_wp2
      go_ret
      exact ⟨rfl, HB.out⟩
/-- The index of the appliance with a name. -/
def findV (nm : ByteArray) (f : List Ap) : Int × Bool := if goodFl f = true ∧ 0 ≤ findA nm f then (findA nm f, true) else (0, false)
set_option maxRecDepth 100000 in
set_option maxHeartbeats 1000000 in
theorem findApplianceS_c (v : Value) (f : List Ap) (nm : ByteArray) (w : World) (hz : ∀ x ∈ f, x.nm.size ≤ 9223372036854775807) (hf : Rd w v f.length (f.flatMap Ap.cells)) :
    Calls Tryz.prog 17 #[v, .string nm] w fun e w' => e = .returned (.tuple #[.int .i64 (findV nm f).1, .bool (findV nm f).2]) ∧ Below w.heap.size w w' := by
  have HF := Lib.hid hf
  have HZ := Lib.hid hz
  clear hf hz
  obtain ⟨K, hK⟩ : ∃ K, findA nm f = K := ⟨_, rfl⟩
  have HK := Lib.hid hK
  have HV : Hid (findV nm f = if goodFl f = true ∧ 0 ≤ K then (K, true) else (0, false)) := Lib.hid (by unfold findV; rw [hK])
  clear hK
  go_enter Tryz.func17, Tryz.ntmps17
  go_wp2_with fail
  refine (apFleet_c _ f _ HZ.out HF.out).mono ?_; rintro e w1 ⟨rfl, hb⟩
  have HB := Lib.hid hb
  clear hb
  cases hg : goodFl f with
  | false =>
    have HG := Lib.hid hg
    clear hg
    go_wp2
    go_ret2
    rw [HV.out, if_neg (by rw [HG.out]; simp)]
    exact ⟨rfl, HB.out⟩
  | true =>
    have HG := Lib.hid hg
    clear hg
    go_wp2_with fail
    refine (apFind_c _ f nm _ (rd_below HF.out HB.out)).mono ?_; rw [HK.out]; rintro e w2 ⟨rfl, hb⟩
    have HB2 := Lib.hid (bel_then HB.out hb)
    clear hb
    by_cases hk : K < 0
    · go_wp2
      go_ret2
      rw [HV.out, if_neg (by omega)]
      exact ⟨rfl, HB2.out⟩
    · go_wp2_with fail
      refine (apFind_c _ f nm _ (rd_below HF.out HB2.out)).mono ?_; rw [HK.out]; rintro e w3 ⟨rfl, hb⟩
      have HB3 := Lib.hid (bel_then HB2.out hb)
      clear hb
      go_wp2
      go_ret2
      rw [HV.out, if_pos ⟨HG.out, by omega⟩]
      exact ⟨rfl, HB3.out⟩
set_option maxRecDepth 100000 in
set_option maxHeartbeats 1000000 in
theorem travelTimeI_c (N : Nat) (s : Value) (l : List St) (x y : Nat) (d : Int) (w : World) (hr : Rd w s l.length (l.flatMap St.cells)) (hg : goodTown N l = true) (hx : x < N) (hy : y < N) (hd : (distT N (arcs l) x).getD y 0 = d) (h0 : 0 ≤ d) :
    Calls Tryz.prog 18 #[.agg #[.int .i64 N, s], .int .i64 x, .int .i64 y] w fun e w' => e = .returned (.tuple #[.int .i64 d, .bool true]) ∧ Below w.heap.size w w' := by
  have HR := Lib.hid hr
  have HG := Lib.hid hg
  have HD := Lib.hid hd
  obtain ⟨hn1, hn2, -, -⟩ := goodTown_true hg
  clear hr hg hd
  go_enter Tryz.func18, Tryz.ntmps18
  go_wp2_with fail
  (generalize hw1 : World.alloc w _ = w1; have k0 : w1.cell? ⟨w.heap.size, 0, none⟩ = some (.int .i64 N) := (by subst hw1; simp [go_sem]); have k1 : w1.cell? ⟨w.heap.size, 1, none⟩ = some s := (by subst hw1; simp [go_sem]); have hb0 : Below w.heap.size w w1 := (by subst hw1; exact bel_al (Below.refl _ _) _); have hsz1 : w.heap.size < w1.heap.size := (by subst hw1; simp); clear hw1)
  have HB := Lib.hid hb0
  refine (isTown_c N s l w.heap.size _ k0 k1 (rd_below HR.out HB.out)).mono ?_; rw [HG.out]; rintro e w2 ⟨rfl, hb1⟩
  have e0 := (hb1.cell (p := ⟨w.heap.size, 0, none⟩) (by show w.heap.size < _; omega)).trans k0
  have e1 := (hb1.cell (p := ⟨w.heap.size, 1, none⟩) (by show w.heap.size < _; omega)).trans k1
  have HB1 := Lib.hid (bel_then HB.out hb1)
  clear k0 k1 hb0 hb1
  have ix : inB (x : Int) 0 ((N : Int) - 1) = true := inB_of (by omega) (by omega)
  have iy : inB (y : Int) 0 ((N : Int) - 1) = true := inB_of (by omega) (by omega)
  go_wp2_with fail
  refine (has_c N x w.heap.size _ hn1 hn2 e0).mono ?_; rw [ix]; rintro e w3 ⟨rfl, rfl⟩
  go_wp2_with fail
  refine (has_c N y w.heap.size _ hn1 hn2 e0).mono ?_; rw [iy]; rintro e w3 ⟨rfl, rfl⟩
  go_wp2_with fail
  refine (timesI_c N s l w.heap.size x _ HG.out hx e0 e1 (rd_below HR.out HB1.out)).mono ?_; rintro e w4 ⟨v5, rfl, ho, hb⟩
  rw [show (distT N (arcs l) x).length = N by unfold distT; rw [iterT_len, startT_len]] at ho
  obtain ⟨h, cap, rfl, hbh, hhl, hch, hcm⟩ := own_shape ho (by omega)
  have c0 := own_cell ho (show y < N by omega)
  rw [HD.out] at c0
  have HB2 := Lib.hid (bel_then HB1.out hb)
  have y0 : (0 : Int) ≤ (y : Int) := by omega
  have y1 : (y : Int) < (N : Int) := by omega
  have m1 : max d 0 = d := by omega
  clear e0 e1 ho hb
  go_wp2
  go_ret2
  exact ⟨by simp [m1], HB2.out⟩
end Go.Proofs.YthgegghdkoeofaaGreat
