/-
  impl's travel times: they are the least weights of ways. spec's travel times: they are the least weights of ways. (joined by pack.py: TimesI TimesS)
-/
import Derived.Test.YthgegghdkoeofaaGreatDoorK11
import Derived.Test.YthgegghdkoeofaaGreatDoorK3
import Derived.Test.YthgegghdkoeofaaGreatDoorK15
import Derived.Deep.LoopGhost
import Derived.Outline
namespace Go.Proofs.YthgegghdkoeofaaGreatDoor
set_option linter.unusedVariables false
set_option linter.unusedSimpArgs false
open Go.RowKit

theorem flags_len (ar : List Arc) (p : List Int × Bool) : (ar.foldl flag1 p).1.length = p.1.length := by rw [flags_fst, roundT_len]
/-- A bound for all that stands in a list on the way. -/
theorem mid_bd {n : Int} {l : List St} (h : goodTown n l = true) {N src k : Nat} (hk : k < 14) (pre : List Arc) (hp : ∀ x ∈ pre, x ∈ arcs l) (hl : pre.length ≤ 82) (b : Bool) :
    ∀ v, -1 ≤ ((pre.foldl flag1 (iterT (arcs l) (startT N src) k, b)).1).getD v 0 ∧ ((pre.foldl flag1 (iterT (arcs l) (startT N src) k, b)).1).getD v 0 ≤ 5000000 := by
  obtain ⟨_, _, h40, _⟩ := goodTown_true h
  have hA := arcs_bd h
  have h1 := bd_iter hA N src k
  have hlen : (arcs l).length ≤ 80 := by rw [arcs_len]; omega
  have hm : (arcs l).length * k ≤ 80 * 13 := Nat.mul_le_mul hlen (by omega)
  have h0 : (0 : Int) ≤ 3600 * (arcs l).length * k := Int.mul_nonneg (by omega) (by omega)
  have h2 := bd_fold pre _ _ h1 h0 (fun x hx => hA x (hp x hx))
  intro v
  have h3 := h2 v
  rw [flags_fst]
  have e : (3600 * ((arcs l).length : Int) * (k : Int)) = 3600 * (((arcs l).length * k : Nat) : Int) := by rw [Int.natCast_mul, Int.mul_assoc]
  rw [e] at h3
  generalize (arcs l).length * k = q at h3 hm
  dsimp only
  omega

theorem arcs_snoc {l : List St} {i : Nat} {s : St} (h : l[i]? = some s) : arcs (l.take (i + 1)) = arcs (l.take i) ++ arcs2 s := by
  unfold arcs
  rw [take_succ_of h, List.flatMap_append]
  simp
theorem arcs_take_mem {l : List St} {i : Nat} : ∀ x ∈ arcs (l.take i), x ∈ arcs l := by
  intro x hx
  unfold arcs at hx ⊢
  obtain ⟨s, hs, hm⟩ := List.mem_flatMap.1 hx
  exact List.mem_flatMap.2 ⟨s, List.mem_of_mem_take hs, hm⟩

theorem flag_yes {d : List Int} {ch : Bool} {a b : Nat} {s x y : Int} (hx : d.getD a 0 = x) (hy : d.getD b 0 = y) (h : 0 ≤ x ∧ (y < 0 ∨ x + s < y)) : flag1 (d, ch) (a, b, s) = (d.set b (x + s), true) := by
  have hb : better d a b s = true := by unfold better; rw [hx, hy]; simp only [Bool.and_eq_true, Bool.or_eq_true, decide_eq_true_eq]; exact h
  unfold flag1
  rw [if_pos hb, hx]
theorem flag_no {d : List Int} {ch : Bool} {a b : Nat} {s x y : Int} (hx : d.getD a 0 = x) (hy : d.getD b 0 = y) (h : ¬ (0 ≤ x ∧ (y < 0 ∨ x + s < y))) : flag1 (d, ch) (a, b, s) = (d, ch) := by
  have hb : better d a b s = false := by unfold better; rw [hx, hy]; simp only [Bool.and_eq_false_iff, Bool.or_eq_false_iff, decide_eq_false_iff_not]; omega
  unfold flag1
  rw [hb]; rfl
theorem two0 {fa ta : Nat} {s : Int} {p r : List Int × Bool} (h : ((arcs2 ⟨fa, ta, s⟩).take 0).foldl flag1 p = r) : ((arcs2 ⟨fa, ta, s⟩).take 1).foldl flag1 p = flag1 r (fa, ta, s) := by
  subst h; simp [arcs2]
theorem two1 {fa ta : Nat} {s : Int} {p r : List Int × Bool} (h : ((arcs2 ⟨fa, ta, s⟩).take 1).foldl flag1 p = r) : ((arcs2 ⟨fa, ta, s⟩).take 2).foldl flag1 p = flag1 r (ta, fa, s) := by
  subst h; simp [arcs2]
theorem mid_mem {l : List St} {i j : Nat} {s : St} (h : l[i]? = some s) : ∀ x ∈ arcs (l.take i) ++ (arcs2 s).take j, x ∈ arcs l := by
  intro x hx
  rcases List.mem_append.1 hx with hx | hx
  · exact arcs_take_mem x hx
  · exact List.mem_flatMap.2 ⟨s, List.mem_of_getElem? h, List.mem_of_mem_take hx⟩
theorem mid_len {l : List St} {i j : Nat} {s : St} (hl : l.length ≤ 40) : (arcs (l.take i) ++ (arcs2 s).take j).length ≤ 82 := by
  rw [List.length_append, arcs_len, List.length_take, List.length_take]
  have : (arcs2 s).length = 2 := rfl
  omega

set_option maxRecDepth 100000 in
set_option maxHeartbeats 4000000 in
theorem timesI_c (n : Nat) (v : Value) (l : List St) (B src : Nat) (w : World) (hg : goodTown n l = true) (hs : src < n) (t0 : w.cell? ⟨B, 0, none⟩ = some (.int .i64 n)) (t1 : w.cell? ⟨B, 1, none⟩ = some v) (hr : Rd w v l.length (l.flatMap St.cells)) :
    Calls Tryz.prog 93 #[.pointer (some ⟨B, 0, none⟩), .int .i64 src] w (OwnI (distT n (arcs l) src) w) := by
  obtain ⟨A, c, rfl, hc, hm, hr⟩ := hr
  rw [maxLen_eq] at hm
  have hB : B < w.heap.size := World.block_lt_of_cell? w _ t0
  obtain ⟨hn1, hn2, hl40, hst⟩ := goodTown_true hg
  have hA := arcs_good hg
  rw [Int.toNat_natCast] at hA
  have HA := Lib.hid hA
  have HST := Lib.hid hst
  have HG := Lib.hid hg
  have HR := Lib.hid hr
  clear hA hst hg hr
  go_enter Tryz.func93, Tryz.ntmps93
  go_wp2_with fail
  refine (repeat_c _ (-1) n _ (rd_new w rfl (Nat.le_refl _) (by rw [maxLen_eq]; simp)) (by omega) (by omega)).mono ?_
  rintro e w1 ⟨v1, rfl, ho, hb⟩
  rw [List.length_replicate] at ho
  obtain ⟨g, cap, rfl, hbg, hgl, hcap, hcm⟩ := own_shape ho (by omega)
  have c0 := own_cell ho hs
  have f0 := ho.frozenAt src
  have hb1 : Below w.heap.size w w1 := bel_then (bel_al (Below.refl _ _) _) hb
  have ho2 := own_setI ho src 0
  have hg1 : w.heap.size ≤ g := by simp at hbg; omega
  have HB1 : Hid (Below w.heap.size w (w1.setCell ⟨g, src, none⟩ (.int .i64 0))) := Lib.hid (hb1.setCell hg1 _)
  have HO := Lib.hid (own_base (base' := w.heap.size) ho2 (by simp))
  clear ho hb hb1 ho2 hbg
  have hs0 : (0 : Int) ≤ (src : Int) := by omega
  have hs1 : (src : Int) < (n : Int) := by omega
  go_wp2_with fail
  generalize World.setCell w1 ⟨g, src, none⟩ (.int .i64 0) = w2 at HO HB1 ⊢
  have HGE : Hid (∀ q, some g = some q → w.heap.size ≤ q) := Lib.hid (fun q e => by have := Option.some.inj e; omega)
  clear c0 f0 hs0 hs1 t0
  have HT1 := Lib.hid t1
  clear t1
  go_loopg [6] n (fun gk v6 wr => ∃ (k : Nat) (ch : Bool), v6 = .bool ch ∧ Hid (wr.ownsRow w.heap.size 3 1 (.slice (some ⟨g, 0, none⟩) n cap) n (ints (iterT (arcs l) (startT n src) k))) ∧ Hid (w2.grownBy wr (some g)) ∧ Hid ((ch = true → k < n ∧ gk = n - k) ∧ (ch = false → iterT (arcs l) (startT n src) k = distT n (arcs l) src)))
  case atStart => exact ⟨0, true, rfl, HO, Lib.hid (World.grownBy.refl _ _), Lib.hid ⟨fun _ => ⟨by omega, by omega⟩, fun h => by cases h⟩⟩
  case round =>
    obtain ⟨k, ch, rfl, HOW, HGR, HCH⟩ := hrel
    cases ch with
    | false =>
      have E := Lib.hid (HCH.out.2 rfl)
      clear HCH
      go_wp2
      go_ret
      have e := E.out
      refine ⟨_, rfl, ?_, gro_new HB1.out HGR.out HGE.out⟩
      have hd : (distT n (arcs l) src).length = n := by unfold distT; rw [iterT_len, startT_len]
      rw [hd, ← e]; exact HOW.out
    | true =>
      have hk := (HCH.out.1 rfl).1
      have hgs : g < w2.heap.size := by have := HOW.out.lt g rfl; have := (HO.out.lt g rfl).2; omega
      have z1 : wr.cell? ⟨B, 1, none⟩ = some (.slice A l.length c) := (gro_cell HGR.out (Nat.lt_of_lt_of_le hB HB1.out.size) (by omega)).trans ((HB1.out.cell (p := ⟨B, 1, none⟩) hB).trans HT1.out)
      have HGK := Lib.hid (HCH.out.1 rfl).2
      clear HCH
      have HZ1 := Lib.hid z1
      clear HT1
      go_wp2_with fail
      obtain ⟨d, hd⟩ : ∃ d, iterT (arcs l) (startT n src) k = d := ⟨_, rfl⟩
      rw [hd] at HOW
      have HD := Lib.hid hd
      obtain ⟨wA, rfl⟩ : ∃ wA : World, wA = wr := ⟨_, rfl⟩
      clear hd z1
      go_loopw [6, 28] (fun v6 v28 wr2 => ∃ (i : Nat) (d1 : List Int) (ch : Bool), i ≤ l.length ∧ v28 = .int .i64 i ∧ v6 = .bool ch ∧ Hid ((arcs (l.take i)).foldl flag1 (d, false) = (d1, ch)) ∧ Hid (wr2.ownsRow w.heap.size 3 1 (.slice (some ⟨g, 0, none⟩) n cap) n (ints d1)) ∧ Hid (w2.grownBy wr2 (some g))) (fun _ v28 _ => l.length - (intOf v28).toNat)
      case atStart => exact ⟨0, d, false, Nat.zero_le _, rfl, rfl, Lib.hid rfl, HOW, HGR⟩
      case round =>
        obtain ⟨i, d1, ch, hi, rfl, rfl, HF, HOW2, HGR2⟩ := hrel
        obtain ⟨wB, rfl⟩ : ∃ wB : World, wB = wr := ⟨_, rfl⟩
        by_cases hlt : i < l.length
        · have hb2 : Below w.heap.size w wB := gro_new HB1.out HGR2.out HGE.out
          obtain ⟨b, off, rfl, hbl, hcell⟩ := HR.out (by omega)
          obtain ⟨f, t, s, hx, c0, c1, c2⟩ := st_at' hcell hb2 hbl hlt
          have hbd := HST.out _ (List.mem_of_getElem? hx)
          dsimp only at hbd
          obtain ⟨b1, b2, b3, b4, b5⟩ := hbd
          obtain ⟨fa, rfl⟩ := Int.eq_ofNat_of_zero_le b1
          obtain ⟨ta, rfl⟩ := Int.eq_ofNat_of_zero_le (show 0 ≤ t by omega)
          have HX := Lib.hid hx
          have hs2 := HGR2.out.size
          clear hcell hb2 hx
          go_wp2_with fail
          generalize hW3 : World.alloc (World.alloc wB _) _ = w3
          have k2 : w3.cell? ⟨wB.heap.size, 2, none⟩ = some (.int .i64 s) := by subst hW3; simp [go_sem]
          have m0 : w3.cell? ⟨wB.heap.size + 1, 0, none⟩ = some (.int .i64 fa) := by subst hW3; simp [go_sem]
          have m1 : w3.cell? ⟨wB.heap.size + 1, 1, none⟩ = some (.int .i64 ta) := by subst hW3; simp [go_sem]
          have m2 : w3.cell? ⟨wB.heap.size + 1, 2, none⟩ = some (.int .i64 ta) := by subst hW3; simp [go_sem]
          have m3 : w3.cell? ⟨wB.heap.size + 1, 3, none⟩ = some (.int .i64 fa) := by subst hW3; simp [go_sem]
          have hz3 : wB.heap.size + 1 < w3.heap.size := by subst hW3; simp
          have HGR3 : Hid (w2.grownBy w3 (some g)) := Lib.hid (by subst hW3; exact gro_al (gro_al HGR2.out _) _)
          have HOW3 : Hid (w3.ownsRow w.heap.size 3 1 (.slice (some ⟨g, 0, none⟩) n cap) n (ints d1)) := Lib.hid (by subst hW3; exact (HOW2.out.alloc _).alloc _)
          clear hW3
          go_loopw [6, 44] (fun v6 v44 wr3 => ∃ (j : Nat) (d2 : List Int) (ch2 : Bool), j ≤ 2 ∧ v44 = .int .i64 j ∧ v6 = .bool ch2 ∧ Hid (((arcs2 ⟨fa, ta, s⟩).take j).foldl flag1 (d1, ch) = (d2, ch2)) ∧ Hid (wr3.ownsRow w.heap.size 3 1 (.slice (some ⟨g, 0, none⟩) n cap) n (ints d2)) ∧ Hid (w3.grownBy wr3 (some g))) (fun _ v44 _ => 2 - (intOf v44).toNat)
          case atStart => exact ⟨0, d1, ch, Nat.zero_le _, rfl, rfl, Lib.hid rfl, HOW3, Lib.hid (World.grownBy.refl _ _)⟩
          case round =>
            obtain ⟨j, d2, ch2, hj, rfl, rfl, HF2, HOW4, HGR4⟩ := hrel
            obtain ⟨wC, rfl⟩ : ∃ wC : World, wC = wr := ⟨_, rfl⟩
            have hbdd : ∀ v, -1 ≤ d2.getD v 0 ∧ d2.getD v 0 ≤ 5000000 := by
              have h := mid_bd (src := src) (N := n) HG.out (k := k) (by omega) _ (mid_mem (j := j) HX.out) (mid_len hl40) false
              rw [HD.out, List.foldl_append, HF.out, HF2.out] at h
              exact h
            have hta : ta < n := by omega
            have hfa : fa < n := by omega
            have hs4 := HGR4.out.size
            obtain ⟨x, hx⟩ : ∃ x, d2.getD fa 0 = x := ⟨_, rfl⟩
            obtain ⟨y, hy⟩ : ∃ y, d2.getD ta 0 = y := ⟨_, rfl⟩
            have bx := hbdd fa
            have bY := hbdd ta
            have ca := own_cell HOW4.out hfa
            have cb := own_cell HOW4.out hta
            rw [hx] at bx ca
            rw [hy] at bY cb
            obtain ⟨bx0, bx1⟩ := bx
            obtain ⟨by0, by1⟩ := bY
            have HXX := Lib.hid hx
            have HYY := Lib.hid hy
            have fb := HOW4.out.frozenAt ta
            have fa' := HOW4.out.frozenAt fa
            have n2 := (gro_cell HGR4.out (by omega) (by omega)).trans k2
            have i0 : (0 : Int) ≤ (fa : Int) := by omega
            have i1 : (fa : Int) < (n : Int) := by omega
            have i2 : (0 : Int) ≤ (ta : Int) := by omega
            have i3 : (ta : Int) < (n : Int) := by omega
            have q0 : g < wC.heap.size := by omega
            have q1 : wB.heap.size < wC.heap.size := by omega
            have q2 : wB.heap.size + 1 < wC.heap.size := by omega
            clear hbdd hx hy
            rcases j with _ | _ | j
            · have p0 := (gro_cell HGR4.out (by omega) (by omega)).trans m0
              have p1 := (gro_cell HGR4.out (by omega) (by omega)).trans m1
              go_wp2_with fail
              go_quiet (fail)
              go_wp2
              all_goals first
                | (refine ⟨⟨1, d2.set ta (x + s), true, by omega, by go_num, rfl, Lib.hid ((two0 HF2.out).trans (flag_yes HXX.out HYY.out (by omega))), Lib.hid (own_setI (own_drN (HOW4.out.alloc _) _) ta (x + s)), Lib.hid (only_setCell (gro_drN (gro_al HGR4.out _) _) ta _)⟩, by simp [intOf]⟩)
                | (refine ⟨⟨1, d2, ch2, by omega, by go_num, rfl, Lib.hid ((two0 HF2.out).trans (flag_no HXX.out HYY.out (by omega))), Lib.hid (own_drN (HOW4.out.alloc _) _), Lib.hid (gro_drN (gro_al HGR4.out _) _)⟩, by simp [intOf]⟩)
            · have p0 := (gro_cell HGR4.out (by omega) (by omega)).trans m2
              have p1 := (gro_cell HGR4.out (by omega) (by omega)).trans m3
              go_wp2_with fail
              go_quiet (fail)
              go_wp2
              all_goals first
                | (refine ⟨⟨2, d2.set fa (y + s), true, by omega, by go_num, rfl, Lib.hid ((two1 HF2.out).trans (flag_yes HYY.out HXX.out (by omega))), Lib.hid (own_setI (own_drN (HOW4.out.alloc _) _) fa (y + s)), Lib.hid (only_setCell (gro_drN (gro_al HGR4.out _) _) fa _)⟩, by simp [intOf]⟩)
                | (refine ⟨⟨2, d2, ch2, by omega, by go_num, rfl, Lib.hid ((two1 HF2.out).trans (flag_no HYY.out HXX.out (by omega))), Lib.hid (own_drN (HOW4.out.alloc _) _), Lib.hid (gro_drN (gro_al HGR4.out _) _)⟩, by simp [intOf]⟩)
            · obtain rfl : j = 0 := by omega
              go_wp2
              refine ⟨⟨i + 1, d2, ch2, by omega, by go_num, rfl, Lib.hid ?_, HOW4, Lib.hid (gro_trans HGR3.out HGR4.out)⟩, by simp [intOf]; omega⟩
              have e := HF2.out
              rw [List.take_of_length_le (by simp [arcs2])] at e
              rw [arcs_snoc HX.out, List.foldl_append, HF.out, e]
        · go_wp2
          obtain rfl : i = l.length := by omega
          have e := HF.out
          rw [List.take_length] at e
          have e1 : roundT (arcs l) d = d1 := by have := flags_fst (arcs l) (d, false); rw [e] at this; exact this.symm
          have e2 : iterT (arcs l) (startT n src) (k + 1) = d1 := by show roundT (arcs l) (iterT (arcs l) (startT n src) k) = d1; rw [HD.out, e1]
          cases ch with
          | false =>
            go_roundg 0
            case measure => have := HGK.out; omega
            case rel =>
              refine ⟨k + 1, false, rfl, by rw [e2]; exact HOW2, HGR2, Lib.hid ⟨fun h => (by cases h), fun _ => ?_⟩⟩
              have e3 : roundT (arcs l) d = d := flags_false (arcs l) d (by rw [e])
              rw [e2, ← e1, e3, ← HD.out]
              exact (iter_fix (by rw [HD.out]; exact e3) n (by omega)).symm
          | true =>
            have hkn : k + 1 < n := by
              rcases Nat.lt_or_ge (k + 1) n with h | h
              · exact h
              · have h2 := iter_last HA.out hs h
                rw [HD.out, e] at h2
                have := congrArg Prod.snd h2
                cases this
            go_roundg (n - (k + 1))
            case measure => have := HGK.out; omega
            case rel => exact ⟨k + 1, true, rfl, by rw [e2]; exact HOW2, HGR2, Lib.hid ⟨fun _ => ⟨hkn, rfl⟩, fun h => (by cases h)⟩⟩
end Go.Proofs.YthgegghdkoeofaaGreatDoor

namespace Go.Proofs.YthgegghdkoeofaaGreatDoor
set_option linter.unusedVariables false
set_option linter.unusedSimpArgs false
open Go.RowKit

theorem flags1_fst {d r : List Int} {ch : Bool} {x : Arc} (h : (flag1 (d, ch) x).1 = r) : relax1 d x = r := by rw [← h, flag1_fst]
theorem relax_yes {d : List Int} {a b : Nat} {s x y : Int} (hx : d.getD a 0 = x) (hy : d.getD b 0 = y) (h : 0 ≤ x ∧ (y < 0 ∨ x + s < y)) : relax1 d (a, b, s) = d.set b (x + s) := by
  have := flag1_fst (d, false) (a, b, s); rw [flag_yes hx hy h] at this; exact this.symm
theorem relax_no {d : List Int} {a b : Nat} {s x y : Int} (hx : d.getD a 0 = x) (hy : d.getD b 0 = y) (h : ¬ (0 ≤ x ∧ (y < 0 ∨ x + s < y))) : relax1 d (a, b, s) = d := by
  have := flag1_fst (d, false) (a, b, s); rw [flag_no hx hy h] at this; exact this.symm
theorem rtwo0 {fa ta : Nat} {s : Int} {p r : List Int} (h : roundT ((arcs2 ⟨fa, ta, s⟩).take 0) p = r) : roundT ((arcs2 ⟨fa, ta, s⟩).take 1) p = relax1 r (fa, ta, s) := by
  subst h; simp [arcs2, roundT]
theorem rtwo1 {fa ta : Nat} {s : Int} {p r : List Int} (h : roundT ((arcs2 ⟨fa, ta, s⟩).take 1) p = r) : roundT ((arcs2 ⟨fa, ta, s⟩).take 2) p = relax1 r (ta, fa, s) := by
  subst h; simp [arcs2, roundT]
theorem roundT_append (a b : List Arc) (d : List Int) : roundT (a ++ b) d = roundT b (roundT a d) := by unfold roundT; rw [List.foldl_append]
def fill1 (n k : Nat) : List Int := List.replicate k (-1) ++ List.replicate (n - k) 0
theorem fill1_len {n k : Nat} (h : k ≤ n) : (fill1 n k).length = n := by simp [fill1]; omega
theorem fill1_set {n k : Nat} (h : k < n) : (fill1 n k).set k (-1) = fill1 n (k + 1) := by
  unfold fill1
  obtain ⟨m, hm⟩ : ∃ m, n - k = m + 1 := ⟨n - k - 1, by omega⟩
  rw [hm, show n - (k + 1) = m by omega, List.set_append_right (h := by simp)]
  rw [List.length_replicate, Nat.sub_self, List.replicate_succ (n := m), List.set_cons_zero, List.replicate_succ' (n := k), List.append_assoc]; rfl
theorem fill1_full (n : Nat) : fill1 n n = List.replicate n (-1) := by simp [fill1]
theorem made_ints (n : Nat) : (madeCells (Value.int IntKind.i64 0).cells (n * 1)).toList = ints (List.replicate n 0) := by
  rw [made_fil 0 n, fil_zero]; simp [ints]

set_option maxRecDepth 100000 in
set_option maxHeartbeats 4000000 in
theorem toTimes_c (n : Nat) (v : Value) (l : List St) (src : Nat) (w : World) (hg : goodTown n l = true) (hs : src < n) (hr : Rd w v l.length (l.flatMap St.cells)) :
    Calls Tryz.prog 95 #[.agg #[.int .i64 n, v], .int .i64 src] w (OwnI (distT n (arcs l) src) w) := by
  obtain ⟨A, c, rfl, hc, hm, hr⟩ := hr
  rw [maxLen_eq] at hm
  obtain ⟨hn1, hn2, hl40, hst⟩ := goodTown_true hg
  obtain ⟨i0, hi, hz0, hz1, hz2⟩ := info_parts Tryz.infoInt
  have HST := Lib.hid hst
  have HG := Lib.hid hg
  have HR := Lib.hid hr
  clear hst hg hr
  go_enter Tryz.func95, Tryz.ntmps95
  go_wp2_with (at_make; refine wpList_make_full _ rfl _ _ 48 rfl w.heap.size 3 i0 _ 1 Tryz.underlying48 hi hz0 hz1 _ _ _ _ n rfl rfl rfl rfl (by rw [hz2]; omega) (by rw [maxLen_eq]; omega) (by simp) ?_; intro w2 hown2 hg2; rw [made_ints, World.size_alloc] at hown2; have b0 : w2.cell? ⟨w.heap.size, 0, none⟩ = some (.int .i64 n) := (by rw [World.cell?_of_block (hg2.block w.heap.size (by simp) (by simp))]; simp [go_sem]); have b1 : w2.cell? ⟨w.heap.size, 1, none⟩ = some (.slice A l.length c) := (by rw [World.cell?_of_block (hg2.block w.heap.size (by simp) (by simp))]; simp [go_sem]); have HB2 : Hid (Below w.heap.size w w2) := Lib.hid (bel_grown (bel_al (Below.refl _ _) _) hg2 (fun k h => by cases h)); have HO2 := Lib.hid hown2; clear hown2 hg2)
  obtain ⟨g, hgdef⟩ : ∃ g, g = w.heap.size + 1 := ⟨_, rfl⟩
  rw [← hgdef] at HO2 ⊢
  have hgw : w.heap.size < g := by omega
  have hg0 : w.heap.size ≤ g := by omega
  have HGE : Hid (∀ q, some g = some q → w.heap.size ≤ q) := Lib.hid (fun q e => by have := Option.some.inj e; omega)
  have hgs : g < w2.heap.size := (HO2.out.lt g rfl).2
  clear hgdef
  go_loopw [19] (fun v19 wr => ∃ k : Nat, k ≤ n ∧ v19 = .int .i64 k ∧ Hid (wr.ownsRow w.heap.size 3 1 (.slice (some ⟨g, 0, none⟩) n n) n (ints (fill1 n k))) ∧ Hid (w2.grownBy wr (some g))) (fun v19 _ => n - (intOf v19).toNat)
  case atStart => exact ⟨0, Nat.zero_le _, rfl, HO2, Lib.hid (World.grownBy.refl _ _)⟩
  case round =>
    obtain ⟨k, hk, rfl, HOW, HGR⟩ := hrel
    by_cases hlt : k < n
    · have c0 := own_cell HOW.out hlt
      have f0 := HOW.out.frozenAt k
      go_wp2
      refine ⟨⟨k + 1, by omega, by go_num, Lib.hid ?_, Lib.hid (only_setCell HGR.out _ _)⟩, by simp [intOf]; omega⟩
      have := own_setI HOW.out k (-1)
      rw [fill1_set hlt] at this
      exact this
    · obtain rfl : k = n := by omega
      obtain ⟨wz, rfl⟩ : ∃ wz : World, wz = wr := ⟨_, rfl⟩
      have c0 := own_cell HOW.out hs
      have f0 := HOW.out.frozenAt src
      have ho3 := own_setI HOW.out src 0
      rw [fill1_full] at ho3
      have hg3 := only_setCell HGR.out src (.int .i64 0)
      have HO3 : Hid ((wz.setCell ⟨g, src, none⟩ (.int .i64 0)).ownsRow w.heap.size 3 1 (.slice (some ⟨g, 0, none⟩) k k) k (ints (startT k src))) := Lib.hid ho3
      have HG3 := Lib.hid hg3
      clear ho3 hg3
      have hs0 : (0 : Int) ≤ (src : Int) := by omega
      have hs1 : (src : Int) < (k : Int) := by omega
      go_wp2_with fail
      generalize World.setCell wz ⟨g, src, none⟩ (.int .i64 0) = w3 at HO3 HG3 ⊢
      clear c0 f0 hs0 hs1
      go_loopw [7] (fun v7 wr => ∃ (q : Nat), q ≤ k ∧ v7 = .int .i64 q ∧ Hid (wr.ownsRow w.heap.size 3 1 (.slice (some ⟨g, 0, none⟩) k k) k (ints (iterT (arcs l) (startT k src) q))) ∧ Hid (w2.grownBy wr (some g))) (fun v7 _ => k - (intOf v7).toNat)
      case atStart => exact ⟨0, Nat.zero_le _, rfl, HO3, HG3⟩
      case round =>
        obtain ⟨q, hq, rfl, HOWq, HGRq⟩ := hrel
        obtain ⟨wA, rfl⟩ : ∃ wA : World, wA = wr := ⟨_, rfl⟩
        have z0 : wA.cell? ⟨w.heap.size, 0, none⟩ = some (.int .i64 k) := (gro_cell HGRq.out (by omega) (by omega)).trans b0
        have z1 : wA.cell? ⟨w.heap.size, 1, none⟩ = some (.slice A l.length c) := (gro_cell HGRq.out (by omega) (by omega)).trans b1
        by_cases hqk : q < k
        · obtain ⟨d, hd⟩ : ∃ d, iterT (arcs l) (startT k src) q = d := ⟨_, rfl⟩
          rw [hd] at HOWq
          have HD := Lib.hid hd
          clear hd
          go_wp2_with fail
          go_loopw [38] (fun v38 wr => ∃ (i : Nat) (d1 : List Int), i ≤ l.length ∧ v38 = .int .i64 i ∧ Hid (roundT (arcs (l.take i)) d = d1) ∧ Hid (wr.ownsRow w.heap.size 3 1 (.slice (some ⟨g, 0, none⟩) k k) k (ints d1)) ∧ Hid (w2.grownBy wr (some g))) (fun v38 _ => l.length - (intOf v38).toNat)
          case atStart => exact ⟨0, d, Nat.zero_le _, rfl, Lib.hid rfl, HOWq, HGRq⟩
          case round =>
            obtain ⟨i, d1, hi', rfl, HF, HOW2, HGR2⟩ := hrel
            obtain ⟨wB, rfl⟩ : ∃ wB : World, wB = wr := ⟨_, rfl⟩
            by_cases hlt : i < l.length
            · have hb2 : Below w.heap.size w wB := gro_new HB2.out HGR2.out HGE.out
              obtain ⟨b, off, rfl, hbl, hcell⟩ := HR.out (by omega)
              obtain ⟨f, t, s, hx, c0, c1, c2⟩ := st_at' hcell hb2 hbl hlt
              have hbd := HST.out _ (List.mem_of_getElem? hx)
              dsimp only at hbd
              obtain ⟨b1', b2', b3', b4', b5'⟩ := hbd
              obtain ⟨fa, rfl⟩ := Int.eq_ofNat_of_zero_le b1'
              obtain ⟨ta, rfl⟩ := Int.eq_ofNat_of_zero_le (show 0 ≤ t by omega)
              have HX := Lib.hid hx
              have hs2 := HGR2.out.size
              clear hcell hb2 hx
              go_wp2_with fail
              generalize hW3 : World.alloc (World.alloc (World.alloc (World.alloc wB _) _) _) _ = w4
              have k2 : w4.cell? ⟨wB.heap.size, 2, none⟩ = some (.int .i64 s) := by subst hW3; simp [go_sem]
              have m0 : w4.cell? ⟨wB.heap.size + 1, 0, none⟩ = some (.int .i64 fa) := by subst hW3; simp [go_sem]
              have m1 : w4.cell? ⟨wB.heap.size + 1, 1, none⟩ = some (.int .i64 ta) := by subst hW3; simp [go_sem]
              have m2 : w4.cell? ⟨wB.heap.size + 1 + 1, 0, none⟩ = some (.int .i64 ta) := by subst hW3; simp [go_sem]
              have m3 : w4.cell? ⟨wB.heap.size + 1 + 1, 1, none⟩ = some (.int .i64 fa) := by subst hW3; simp [go_sem]
              have r0 : w4.cell? ⟨wB.heap.size + 1 + 1 + 1, 0, none⟩ = some (.slice (some ⟨wB.heap.size + 1, 0, none⟩) 2 2) := by subst hW3; simp [go_sem]
              have r1 : w4.cell? ⟨wB.heap.size + 1 + 1 + 1, 1, none⟩ = some (.slice (some ⟨wB.heap.size + 1 + 1, 0, none⟩) 2 2) := by subst hW3; simp [go_sem]
              have hz3 : wB.heap.size + 1 + 1 + 1 < w4.heap.size := by subst hW3; simp
              have HGR3 : Hid (w2.grownBy w4 (some g)) := Lib.hid (by subst hW3; exact gro_al (gro_al (gro_al (gro_al HGR2.out _) _) _) _)
              have HOW3 : Hid (w4.ownsRow w.heap.size 3 1 (.slice (some ⟨g, 0, none⟩) k k) k (ints d1)) := Lib.hid (by subst hW3; exact (((HOW2.out.alloc _).alloc _).alloc _).alloc _)
              clear hW3
              go_loopw [54] (fun v54 wr3 => ∃ (j : Nat) (d2 : List Int), j ≤ 2 ∧ v54 = .int .i64 j ∧ Hid (roundT ((arcs2 ⟨fa, ta, s⟩).take j) d1 = d2) ∧ Hid (wr3.ownsRow w.heap.size 3 1 (.slice (some ⟨g, 0, none⟩) k k) k (ints d2)) ∧ Hid (w4.grownBy wr3 (some g))) (fun v54 _ => 2 - (intOf v54).toNat)
              case atStart => exact ⟨0, d1, Nat.zero_le _, rfl, Lib.hid rfl, HOW3, Lib.hid (World.grownBy.refl _ _)⟩
              case round =>
                obtain ⟨j, d2, hj, rfl, HF2, HOW4, HGR4⟩ := hrel
                obtain ⟨wC, rfl⟩ : ∃ wC : World, wC = wr := ⟨_, rfl⟩
                have hbdd : ∀ v, -1 ≤ d2.getD v 0 ∧ d2.getD v 0 ≤ 5000000 := by
                  have h := mid_bd (src := src) (N := k) HG.out (k := q) (by omega) _ (mid_mem (j := j) HX.out) (mid_len hl40) false
                  rw [flags_fst, HD.out, roundT_append, HF.out, HF2.out] at h
                  exact h
                have hta : ta < k := by omega
                have hfa : fa < k := by omega
                have hs4 := HGR4.out.size
                obtain ⟨x, hx⟩ : ∃ x, d2.getD fa 0 = x := ⟨_, rfl⟩
                obtain ⟨y, hy⟩ : ∃ y, d2.getD ta 0 = y := ⟨_, rfl⟩
                have bx := hbdd fa
                have bY := hbdd ta
                have ca := own_cell HOW4.out hfa
                have cb := own_cell HOW4.out hta
                rw [hx] at bx ca
                rw [hy] at bY cb
                obtain ⟨bx0, bx1⟩ := bx
                obtain ⟨by0, by1⟩ := bY
                have HXX := Lib.hid hx
                have HYY := Lib.hid hy
                have fb := HOW4.out.frozenAt ta
                have fa' := HOW4.out.frozenAt fa
                have n2 := (gro_cell HGR4.out (by omega) (by omega)).trans k2
                have i0 : (0 : Int) ≤ (fa : Int) := by omega
                have i1 : (fa : Int) < (k : Int) := by omega
                have i2 : (0 : Int) ≤ (ta : Int) := by omega
                have i3 : (ta : Int) < (k : Int) := by omega
                clear hbdd hx hy k2
                rcases j with _ | _ | j
                · have p0 := (gro_cell HGR4.out (by omega) (by omega)).trans m0
                  have p1 := (gro_cell HGR4.out (by omega) (by omega)).trans m1
                  have p2 := (gro_cell HGR4.out (by omega) (by omega)).trans r0
                  clear m0 m1 m2 m3 r0 r1
                  by_cases g1 : 0 ≤ x
                  · by_cases g2 : y < 0
                    · have e1 : decide (0 ≤ x) = true := decide_eq_true g1
                      have e2 : decide (y < 0) = true := decide_eq_true g2
                      go_wp2_with fail
                      go_quiet (fail)
                      go_wp2_with fail
                      go_quiet (fail)
                      go_wp2
                      all_goals first
                        | (refine ⟨⟨1, d2.set ta (x + s), by omega, by go_num, Lib.hid ((rtwo0 HF2.out).trans (relax_yes HXX.out HYY.out (by omega))), Lib.hid (own_setI (own_drN HOW4.out _) ta (x + s)), Lib.hid (only_setCell (gro_drN HGR4.out _) ta _)⟩, by simp [intOf]⟩)
                        | (refine ⟨⟨1, d2, by omega, by go_num, Lib.hid ((rtwo0 HF2.out).trans (relax_no HXX.out HYY.out (by omega))), Lib.hid (own_drN HOW4.out _), Lib.hid (gro_drN HGR4.out _)⟩, by simp [intOf]⟩)
                    · have e1 : decide (0 ≤ x) = true := decide_eq_true g1
                      have e2 : decide (y < 0) = false := decide_eq_false g2
                      have e3 : IntKind.i64.wrap (x + s) = x + s := IntWalk.i64_in _ (by omega)
                      go_wp2_with fail
                      go_quiet (fail)
                      go_wp2_with fail
                      go_quiet (fail)
                      clear e3
                      go_wp2
                      all_goals first
                        | (refine ⟨⟨1, d2.set ta (x + s), by omega, by go_num, Lib.hid ((rtwo0 HF2.out).trans (relax_yes HXX.out HYY.out (by omega))), Lib.hid (own_setI (own_drN HOW4.out _) ta (x + s)), Lib.hid (only_setCell (gro_drN HGR4.out _) ta _)⟩, by simp [intOf]⟩)
                        | (refine ⟨⟨1, d2, by omega, by go_num, Lib.hid ((rtwo0 HF2.out).trans (relax_no HXX.out HYY.out (by omega))), Lib.hid (own_drN HOW4.out _), Lib.hid (gro_drN HGR4.out _)⟩, by simp [intOf]⟩)
                  · have e1 : decide (0 ≤ x) = false := decide_eq_false g1
                    go_wp2_with fail
                    go_quiet (fail)
                    go_wp2_with fail
                    go_quiet (fail)
                    go_wp2
                    all_goals first
                      | (refine ⟨⟨1, d2.set ta (x + s), by omega, by go_num, Lib.hid ((rtwo0 HF2.out).trans (relax_yes HXX.out HYY.out (by omega))), Lib.hid (own_setI (own_drN HOW4.out _) ta (x + s)), Lib.hid (only_setCell (gro_drN HGR4.out _) ta _)⟩, by simp [intOf]⟩)
                      | (refine ⟨⟨1, d2, by omega, by go_num, Lib.hid ((rtwo0 HF2.out).trans (relax_no HXX.out HYY.out (by omega))), Lib.hid (own_drN HOW4.out _), Lib.hid (gro_drN HGR4.out _)⟩, by simp [intOf]⟩)
                · have p0 := (gro_cell HGR4.out (by omega) (by omega)).trans m2
                  have p1 := (gro_cell HGR4.out (by omega) (by omega)).trans m3
                  have p2 := (gro_cell HGR4.out (by omega) (by omega)).trans r1
                  clear m0 m1 m2 m3 r0 r1
                  by_cases g1 : 0 ≤ y
                  · by_cases g2 : x < 0
                    · have e1 : decide (0 ≤ y) = true := decide_eq_true g1
                      have e2 : decide (x < 0) = true := decide_eq_true g2
                      go_wp2_with fail
                      go_quiet (fail)
                      go_wp2_with fail
                      go_quiet (fail)
                      go_wp2
                      all_goals first
                        | (refine ⟨⟨2, d2.set fa (y + s), by omega, by go_num, Lib.hid ((rtwo1 HF2.out).trans (relax_yes HYY.out HXX.out (by omega))), Lib.hid (own_setI (own_drN HOW4.out _) fa (y + s)), Lib.hid (only_setCell (gro_drN HGR4.out _) fa _)⟩, by simp [intOf]⟩)
                        | (refine ⟨⟨2, d2, by omega, by go_num, Lib.hid ((rtwo1 HF2.out).trans (relax_no HYY.out HXX.out (by omega))), Lib.hid (own_drN HOW4.out _), Lib.hid (gro_drN HGR4.out _)⟩, by simp [intOf]⟩)
                    · have e1 : decide (0 ≤ y) = true := decide_eq_true g1
                      have e2 : decide (x < 0) = false := decide_eq_false g2
                      have e3 : IntKind.i64.wrap (y + s) = y + s := IntWalk.i64_in _ (by omega)
                      go_wp2_with fail
                      go_quiet (fail)
                      go_wp2_with fail
                      go_quiet (fail)
                      clear e3
                      go_wp2
                      all_goals first
                        | (refine ⟨⟨2, d2.set fa (y + s), by omega, by go_num, Lib.hid ((rtwo1 HF2.out).trans (relax_yes HYY.out HXX.out (by omega))), Lib.hid (own_setI (own_drN HOW4.out _) fa (y + s)), Lib.hid (only_setCell (gro_drN HGR4.out _) fa _)⟩, by simp [intOf]⟩)
                        | (refine ⟨⟨2, d2, by omega, by go_num, Lib.hid ((rtwo1 HF2.out).trans (relax_no HYY.out HXX.out (by omega))), Lib.hid (own_drN HOW4.out _), Lib.hid (gro_drN HGR4.out _)⟩, by simp [intOf]⟩)
                  · have e1 : decide (0 ≤ y) = false := decide_eq_false g1
                    go_wp2_with fail
                    go_quiet (fail)
                    go_wp2_with fail
                    go_quiet (fail)
                    go_wp2
                    all_goals first
                      | (refine ⟨⟨2, d2.set fa (y + s), by omega, by go_num, Lib.hid ((rtwo1 HF2.out).trans (relax_yes HYY.out HXX.out (by omega))), Lib.hid (own_setI (own_drN HOW4.out _) fa (y + s)), Lib.hid (only_setCell (gro_drN HGR4.out _) fa _)⟩, by simp [intOf]⟩)
                      | (refine ⟨⟨2, d2, by omega, by go_num, Lib.hid ((rtwo1 HF2.out).trans (relax_no HYY.out HXX.out (by omega))), Lib.hid (own_drN HOW4.out _), Lib.hid (gro_drN HGR4.out _)⟩, by simp [intOf]⟩)
                · obtain rfl : j = 0 := by omega
                  go_wp2
                  refine ⟨⟨i + 1, d2, by omega, by go_num, Lib.hid ?_, HOW4, Lib.hid (gro_trans HGR3.out HGR4.out)⟩, by simp [intOf]; omega⟩
                  have e := HF2.out
                  rw [List.take_of_length_le (by simp [arcs2])] at e
                  rw [arcs_snoc HX.out, roundT_append, HF.out, e]
            · obtain rfl : i = l.length := by omega
              have e := HF.out
              rw [List.take_length] at e
              go_wp2
              refine ⟨⟨q + 1, by omega, by go_num, Lib.hid ?_, HGR2⟩, by simp [intOf]; omega⟩
              show wB.ownsRow w.heap.size 3 1 (.slice (some ⟨g, 0, none⟩) k k) k (ints (roundT (arcs l) (iterT (arcs l) (startT k src) q)))
              rw [HD.out, e]
              exact HOW2.out
        · obtain rfl : q = k := by omega
          go_wp2
          go_ret
          refine ⟨_, rfl, ?_, gro_new HB2.out HGRq.out HGE.out⟩
          have hd : (distT q (arcs l) src).length = q := by unfold distT; rw [iterT_len, startT_len]
          rw [hd]; exact HOWq.out
end Go.Proofs.YthgegghdkoeofaaGreatDoor
